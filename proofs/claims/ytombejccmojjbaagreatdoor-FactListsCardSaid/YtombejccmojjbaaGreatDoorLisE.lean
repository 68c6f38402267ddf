/- A part of the proof: the engine by which functions are walked, verification conditions that a program of the prover wrote, contracts and plain laws; no claim of its own. -/
import Derived.Test.YtombejccmojjbaaGreatDoorChecked
import Derived.Test.YtombejccmojjbaaGreatDoorLisD
namespace Go.Eng
open Go Go.RowKit Go.Proofs
set_option linter.unusedVariables false
set_option maxRecDepth 100000
abbrev usedH0 (B3 : Nat) (f : Fct) (ftp : Option Addr) (ftc : Nat) (fbp : Option Addr) (fbc : Nat) (fap : Option Addr) (fac : Nat) (B4 : Nat) (B5 : Nat) : SHeap := [(B3, .cells #[.int .i64 f.n, .int .i64 f.time, .int .i64 f.kind, .int .i64 f.story, .string f.lang, .int .i64 f.rev, .int .i64 f.base, .string f.title, .string f.author, .slice ftp f.topics.length ftc, .slice fbp f.blocks.length fbc, .int .i64 f.lab.unt, .slice fap f.lab.after.length fac, .int .i64 f.lab.appr, .int .i64 f.lab.den, .int .i64 f.editor, .int .i64 f.block, .int .i64 f.sentence, .string f.text, .string f.name, .int .i64 f.partner, .int .i64 f.cls, .int .i64 f.unt] 28), (B4, .cells #[.int .i64 (0 : Int), .int .i64 (0 : Int), .int .i64 (0 : Int), .int .i64 (0 : Int), .string (⟨#[]⟩), .int .i64 (0 : Int), .int .i64 (0 : Int), .string (⟨#[]⟩), .string (⟨#[]⟩), .slice none 0 0, .slice none 0 0, .int .i64 (0 : Int), .slice none 0 0, .int .i64 (0 : Int), .int .i64 (0 : Int), .int .i64 (0 : Int), .int .i64 (0 : Int), .int .i64 (0 : Int), .string (⟨#[]⟩), .string (⟨#[]⟩), .int .i64 (0 : Int), .int .i64 (0 : Int), .int .i64 (0 : Int)] 28), (B5, .cells #[.int .i64 f.n, .int .i64 f.time, .int .i64 f.kind, .int .i64 f.story, .string (⟨#[]⟩), .int .i64 (0 : Int), .int .i64 (0 : Int), .string (⟨#[]⟩), .string (⟨#[]⟩), .slice none 0 0, .slice none 0 0, .int .i64 (0 : Int), .slice none 0 0, .int .i64 (0 : Int), .int .i64 (0 : Int), .int .i64 (0 : Int), .int .i64 (0 : Int), .int .i64 (0 : Int), .string (⟨#[]⟩), .string (⟨#[]⟩), .int .i64 (0 : Int), .int .i64 (0 : Int), .int .i64 (0 : Int)] 28)]
abbrev usedH1 (B : Nat) (f : Fct) (ftp : Option Addr) (ftc : Nat) (fbp : Option Addr) (fbc : Nat) (fap : Option Addr) (fac : Nat) (B1 : Nat) (B2 : Nat) : SHeap := [(B, .cells #[.int .i64 f.n, .int .i64 f.time, .int .i64 f.kind, .int .i64 f.story, .string f.lang, .int .i64 f.rev, .int .i64 f.base, .string f.title, .string f.author, .slice ftp f.topics.length ftc, .slice fbp f.blocks.length fbc, .int .i64 f.lab.unt, .slice fap f.lab.after.length fac, .int .i64 f.lab.appr, .int .i64 f.lab.den, .int .i64 f.editor, .int .i64 f.block, .int .i64 f.sentence, .string f.text, .string f.name, .int .i64 f.partner, .int .i64 f.cls, .int .i64 f.unt] 28), (B1, .cells #[.int .i64 (0 : Int), .int .i64 (0 : Int), .int .i64 (0 : Int), .int .i64 (0 : Int), .string (⟨#[]⟩), .int .i64 (0 : Int), .int .i64 (0 : Int), .string (⟨#[]⟩), .string (⟨#[]⟩), .slice none 0 0, .slice none 0 0, .int .i64 (0 : Int), .slice none 0 0, .int .i64 (0 : Int), .int .i64 (0 : Int), .int .i64 (0 : Int), .int .i64 (0 : Int), .int .i64 (0 : Int), .string (⟨#[]⟩), .string (⟨#[]⟩), .int .i64 (0 : Int), .int .i64 (0 : Int), .int .i64 (0 : Int)] 28), (B2, .cells #[.int .i64 f.n, .int .i64 f.time, .int .i64 f.kind, .int .i64 f.story, .string (⟨#[]⟩), .int .i64 (0 : Int), .int .i64 (0 : Int), .string (⟨#[]⟩), .string (⟨#[]⟩), .slice none 0 0, .slice none 0 0, .int .i64 (0 : Int), .slice none 0 0, .int .i64 (0 : Int), .int .i64 (0 : Int), .int .i64 (0 : Int), .int .i64 (0 : Int), .int .i64 (0 : Int), .string (⟨#[]⟩), .string (⟨#[]⟩), .int .i64 (0 : Int), .int .i64 (0 : Int), .int .i64 (0 : Int)] 28)]
abbrev usedH2 (B3 : Nat) (f : Fct) (ftp : Option Addr) (ftc : Nat) (fbp : Option Addr) (fbc : Nat) (fap : Option Addr) (fac : Nat) (B4 : Nat) : SHeap := [(B3, .cells #[.int .i64 f.n, .int .i64 f.time, .int .i64 f.kind, .int .i64 f.story, .string f.lang, .int .i64 f.rev, .int .i64 f.base, .string f.title, .string f.author, .slice ftp f.topics.length ftc, .slice fbp f.blocks.length fbc, .int .i64 f.lab.unt, .slice fap f.lab.after.length fac, .int .i64 f.lab.appr, .int .i64 f.lab.den, .int .i64 f.editor, .int .i64 f.block, .int .i64 f.sentence, .string f.text, .string f.name, .int .i64 f.partner, .int .i64 f.cls, .int .i64 f.unt] 28), (B4, .cells #[.int .i64 (0 : Int), .int .i64 (0 : Int), .int .i64 (0 : Int), .int .i64 (0 : Int), .string (⟨#[]⟩), .int .i64 (0 : Int), .int .i64 (0 : Int), .string (⟨#[]⟩), .string (⟨#[]⟩), .slice none 0 0, .slice none 0 0, .int .i64 (0 : Int), .slice none 0 0, .int .i64 (0 : Int), .int .i64 (0 : Int), .int .i64 (0 : Int), .int .i64 (0 : Int), .int .i64 (0 : Int), .string (⟨#[]⟩), .string (⟨#[]⟩), .int .i64 (0 : Int), .int .i64 (0 : Int), .int .i64 (0 : Int)] 28)]
abbrev usedH3 (B3 : Nat) (f : Fct) (ftp : Option Addr) (ftc : Nat) (fbp : Option Addr) (fbc : Nat) (fap : Option Addr) (fac : Nat) (B5 : Nat) (B4 : Nat) : SHeap := [(B3, .cells #[.int .i64 f.n, .int .i64 f.time, .int .i64 f.kind, .int .i64 f.story, .string f.lang, .int .i64 f.rev, .int .i64 f.base, .string f.title, .string f.author, .slice ftp f.topics.length ftc, .slice fbp f.blocks.length fbc, .int .i64 f.lab.unt, .slice fap f.lab.after.length fac, .int .i64 f.lab.appr, .int .i64 f.lab.den, .int .i64 f.editor, .int .i64 f.block, .int .i64 f.sentence, .string f.text, .string f.name, .int .i64 f.partner, .int .i64 f.cls, .int .i64 f.unt] 28), (B5, .cells #[.int .i64 f.n, .int .i64 f.time, .int .i64 f.kind, .int .i64 f.story, .string f.lang, .int .i64 f.rev, .int .i64 f.base, .string f.title, .string f.author, .slice ftp f.topics.length ftc, .slice fbp f.blocks.length fbc, .int .i64 f.lab.unt, .slice fap f.lab.after.length fac, .int .i64 f.lab.appr, .int .i64 f.lab.den, .int .i64 (0 : Int), .int .i64 (0 : Int), .int .i64 (0 : Int), .string (⟨#[]⟩), .string (⟨#[]⟩), .int .i64 (0 : Int), .int .i64 (0 : Int), .int .i64 (0 : Int)] 28), (B4, .cells #[.int .i64 f.n, .int .i64 f.time, .int .i64 f.kind, .int .i64 f.story, .string f.lang, .int .i64 f.rev, .int .i64 f.base, .string f.title, .string f.author, .slice ftp f.topics.length ftc, .slice fbp f.blocks.length fbc, .int .i64 f.lab.unt, .slice fap f.lab.after.length fac, .int .i64 f.lab.appr, .int .i64 f.lab.den, .int .i64 (0 : Int), .int .i64 (0 : Int), .int .i64 (0 : Int), .string (⟨#[]⟩), .string (⟨#[]⟩), .int .i64 (0 : Int), .int .i64 (0 : Int), .int .i64 (0 : Int)] 28)]
abbrev usedH4 (B3 : Nat) (f : Fct) (ftp : Option Addr) (ftc : Nat) (fbp : Option Addr) (fbc : Nat) (fap : Option Addr) (fac : Nat) (B5 : Nat) (B4 : Nat) : SHeap := [(B3, .cells #[.int .i64 f.n, .int .i64 f.time, .int .i64 f.kind, .int .i64 f.story, .string f.lang, .int .i64 f.rev, .int .i64 f.base, .string f.title, .string f.author, .slice ftp f.topics.length ftc, .slice fbp f.blocks.length fbc, .int .i64 f.lab.unt, .slice fap f.lab.after.length fac, .int .i64 f.lab.appr, .int .i64 f.lab.den, .int .i64 f.editor, .int .i64 f.block, .int .i64 f.sentence, .string f.text, .string f.name, .int .i64 f.partner, .int .i64 f.cls, .int .i64 f.unt] 28), (B5, .cells #[.int .i64 f.n, .int .i64 f.time, .int .i64 f.kind, .int .i64 f.story, .string (⟨#[]⟩), .int .i64 (0 : Int), .int .i64 (0 : Int), .string (⟨#[]⟩), .string (⟨#[]⟩), .slice none 0 0, .slice none 0 0, .int .i64 f.lab.unt, .slice fap f.lab.after.length fac, .int .i64 f.lab.appr, .int .i64 f.lab.den, .int .i64 (0 : Int), .int .i64 (0 : Int), .int .i64 (0 : Int), .string (⟨#[]⟩), .string (⟨#[]⟩), .int .i64 (0 : Int), .int .i64 (0 : Int), .int .i64 (0 : Int)] 28), (B4, .cells #[.int .i64 f.n, .int .i64 f.time, .int .i64 f.kind, .int .i64 f.story, .string (⟨#[]⟩), .int .i64 (0 : Int), .int .i64 (0 : Int), .string (⟨#[]⟩), .string (⟨#[]⟩), .slice none 0 0, .slice none 0 0, .int .i64 f.lab.unt, .slice fap f.lab.after.length fac, .int .i64 f.lab.appr, .int .i64 f.lab.den, .int .i64 (0 : Int), .int .i64 (0 : Int), .int .i64 (0 : Int), .string (⟨#[]⟩), .string (⟨#[]⟩), .int .i64 (0 : Int), .int .i64 (0 : Int), .int .i64 (0 : Int)] 28)]
abbrev usedH5 (B3 : Nat) (f : Fct) (ftp : Option Addr) (ftc : Nat) (fbp : Option Addr) (fbc : Nat) (fap : Option Addr) (fac : Nat) (B5 : Nat) (B4 : Nat) : SHeap := [(B3, .cells #[.int .i64 f.n, .int .i64 f.time, .int .i64 f.kind, .int .i64 f.story, .string f.lang, .int .i64 f.rev, .int .i64 f.base, .string f.title, .string f.author, .slice ftp f.topics.length ftc, .slice fbp f.blocks.length fbc, .int .i64 f.lab.unt, .slice fap f.lab.after.length fac, .int .i64 f.lab.appr, .int .i64 f.lab.den, .int .i64 f.editor, .int .i64 f.block, .int .i64 f.sentence, .string f.text, .string f.name, .int .i64 f.partner, .int .i64 f.cls, .int .i64 f.unt] 28), (B5, .cells #[.int .i64 f.n, .int .i64 f.time, .int .i64 f.kind, .int .i64 (0 : Int), .string (⟨#[]⟩), .int .i64 (0 : Int), .int .i64 (0 : Int), .string (⟨#[]⟩), .string (⟨#[]⟩), .slice none 0 0, .slice none 0 0, .int .i64 (0 : Int), .slice none 0 0, .int .i64 (0 : Int), .int .i64 (0 : Int), .int .i64 (0 : Int), .int .i64 (0 : Int), .int .i64 (0 : Int), .string f.text, .string f.name, .int .i64 (0 : Int), .int .i64 (0 : Int), .int .i64 (0 : Int)] 28), (B4, .cells #[.int .i64 f.n, .int .i64 f.time, .int .i64 f.kind, .int .i64 (0 : Int), .string (⟨#[]⟩), .int .i64 (0 : Int), .int .i64 (0 : Int), .string (⟨#[]⟩), .string (⟨#[]⟩), .slice none 0 0, .slice none 0 0, .int .i64 (0 : Int), .slice none 0 0, .int .i64 (0 : Int), .int .i64 (0 : Int), .int .i64 (0 : Int), .int .i64 (0 : Int), .int .i64 (0 : Int), .string f.text, .string f.name, .int .i64 (0 : Int), .int .i64 (0 : Int), .int .i64 (0 : Int)] 28)]
abbrev usedH6 (B3 : Nat) (f : Fct) (ftp : Option Addr) (ftc : Nat) (fbp : Option Addr) (fbc : Nat) (fap : Option Addr) (fac : Nat) (B5 : Nat) (B4 : Nat) : SHeap := [(B3, .cells #[.int .i64 f.n, .int .i64 f.time, .int .i64 f.kind, .int .i64 f.story, .string f.lang, .int .i64 f.rev, .int .i64 f.base, .string f.title, .string f.author, .slice ftp f.topics.length ftc, .slice fbp f.blocks.length fbc, .int .i64 f.lab.unt, .slice fap f.lab.after.length fac, .int .i64 f.lab.appr, .int .i64 f.lab.den, .int .i64 f.editor, .int .i64 f.block, .int .i64 f.sentence, .string f.text, .string f.name, .int .i64 f.partner, .int .i64 f.cls, .int .i64 f.unt] 28), (B5, .cells #[.int .i64 f.n, .int .i64 f.time, .int .i64 f.kind, .int .i64 f.story, .string (⟨#[]⟩), .int .i64 (0 : Int), .int .i64 (0 : Int), .string (⟨#[]⟩), .string (⟨#[]⟩), .slice none 0 0, .slice none 0 0, .int .i64 (0 : Int), .slice none 0 0, .int .i64 (0 : Int), .int .i64 (0 : Int), .int .i64 f.editor, .int .i64 (0 : Int), .int .i64 (0 : Int), .string (⟨#[]⟩), .string (⟨#[]⟩), .int .i64 (0 : Int), .int .i64 (0 : Int), .int .i64 (0 : Int)] 28), (B4, .cells #[.int .i64 f.n, .int .i64 f.time, .int .i64 f.kind, .int .i64 f.story, .string (⟨#[]⟩), .int .i64 (0 : Int), .int .i64 (0 : Int), .string (⟨#[]⟩), .string (⟨#[]⟩), .slice none 0 0, .slice none 0 0, .int .i64 (0 : Int), .slice none 0 0, .int .i64 (0 : Int), .int .i64 (0 : Int), .int .i64 f.editor, .int .i64 (0 : Int), .int .i64 (0 : Int), .string (⟨#[]⟩), .string (⟨#[]⟩), .int .i64 (0 : Int), .int .i64 (0 : Int), .int .i64 (0 : Int)] 28)]
abbrev usedH7 (B3 : Nat) (f : Fct) (ftp : Option Addr) (ftc : Nat) (fbp : Option Addr) (fbc : Nat) (fap : Option Addr) (fac : Nat) (B5 : Nat) (B4 : Nat) : SHeap := [(B3, .cells #[.int .i64 f.n, .int .i64 f.time, .int .i64 f.kind, .int .i64 f.story, .string f.lang, .int .i64 f.rev, .int .i64 f.base, .string f.title, .string f.author, .slice ftp f.topics.length ftc, .slice fbp f.blocks.length fbc, .int .i64 f.lab.unt, .slice fap f.lab.after.length fac, .int .i64 f.lab.appr, .int .i64 f.lab.den, .int .i64 f.editor, .int .i64 f.block, .int .i64 f.sentence, .string f.text, .string f.name, .int .i64 f.partner, .int .i64 f.cls, .int .i64 f.unt] 28), (B5, .cells #[.int .i64 f.n, .int .i64 f.time, .int .i64 f.kind, .int .i64 f.story, .string (⟨#[]⟩), .int .i64 (0 : Int), .int .i64 (0 : Int), .string (⟨#[]⟩), .string (⟨#[]⟩), .slice none 0 0, .slice none 0 0, .int .i64 (0 : Int), .slice none 0 0, .int .i64 (0 : Int), .int .i64 (0 : Int), .int .i64 (0 : Int), .int .i64 (0 : Int), .int .i64 (0 : Int), .string f.text, .string (⟨#[]⟩), .int .i64 (0 : Int), .int .i64 (0 : Int), .int .i64 (0 : Int)] 28), (B4, .cells #[.int .i64 f.n, .int .i64 f.time, .int .i64 f.kind, .int .i64 f.story, .string (⟨#[]⟩), .int .i64 (0 : Int), .int .i64 (0 : Int), .string (⟨#[]⟩), .string (⟨#[]⟩), .slice none 0 0, .slice none 0 0, .int .i64 (0 : Int), .slice none 0 0, .int .i64 (0 : Int), .int .i64 (0 : Int), .int .i64 (0 : Int), .int .i64 (0 : Int), .int .i64 (0 : Int), .string f.text, .string (⟨#[]⟩), .int .i64 (0 : Int), .int .i64 (0 : Int), .int .i64 (0 : Int)] 28)]
abbrev usedH8 (B3 : Nat) (f : Fct) (ftp : Option Addr) (ftc : Nat) (fbp : Option Addr) (fbc : Nat) (fap : Option Addr) (fac : Nat) (B5 : Nat) (B4 : Nat) : SHeap := [(B3, .cells #[.int .i64 f.n, .int .i64 f.time, .int .i64 f.kind, .int .i64 f.story, .string f.lang, .int .i64 f.rev, .int .i64 f.base, .string f.title, .string f.author, .slice ftp f.topics.length ftc, .slice fbp f.blocks.length fbc, .int .i64 f.lab.unt, .slice fap f.lab.after.length fac, .int .i64 f.lab.appr, .int .i64 f.lab.den, .int .i64 f.editor, .int .i64 f.block, .int .i64 f.sentence, .string f.text, .string f.name, .int .i64 f.partner, .int .i64 f.cls, .int .i64 f.unt] 28), (B5, .cells #[.int .i64 f.n, .int .i64 f.time, .int .i64 f.kind, .int .i64 f.story, .string f.lang, .int .i64 (0 : Int), .int .i64 (0 : Int), .string (⟨#[]⟩), .string (⟨#[]⟩), .slice none 0 0, .slice none 0 0, .int .i64 (0 : Int), .slice none 0 0, .int .i64 (0 : Int), .int .i64 (0 : Int), .int .i64 (0 : Int), .int .i64 f.block, .int .i64 f.sentence, .string f.text, .string (⟨#[]⟩), .int .i64 (0 : Int), .int .i64 (0 : Int), .int .i64 (0 : Int)] 28), (B4, .cells #[.int .i64 f.n, .int .i64 f.time, .int .i64 f.kind, .int .i64 f.story, .string f.lang, .int .i64 (0 : Int), .int .i64 (0 : Int), .string (⟨#[]⟩), .string (⟨#[]⟩), .slice none 0 0, .slice none 0 0, .int .i64 (0 : Int), .slice none 0 0, .int .i64 (0 : Int), .int .i64 (0 : Int), .int .i64 (0 : Int), .int .i64 f.block, .int .i64 f.sentence, .string f.text, .string (⟨#[]⟩), .int .i64 (0 : Int), .int .i64 (0 : Int), .int .i64 (0 : Int)] 28)]
abbrev usedH9 (B3 : Nat) (f : Fct) (ftp : Option Addr) (ftc : Nat) (fbp : Option Addr) (fbc : Nat) (fap : Option Addr) (fac : Nat) (B5 : Nat) (B4 : Nat) : SHeap := [(B3, .cells #[.int .i64 f.n, .int .i64 f.time, .int .i64 f.kind, .int .i64 f.story, .string f.lang, .int .i64 f.rev, .int .i64 f.base, .string f.title, .string f.author, .slice ftp f.topics.length ftc, .slice fbp f.blocks.length fbc, .int .i64 f.lab.unt, .slice fap f.lab.after.length fac, .int .i64 f.lab.appr, .int .i64 f.lab.den, .int .i64 f.editor, .int .i64 f.block, .int .i64 f.sentence, .string f.text, .string f.name, .int .i64 f.partner, .int .i64 f.cls, .int .i64 f.unt] 28), (B5, .cells #[.int .i64 f.n, .int .i64 f.time, .int .i64 f.kind, .int .i64 (0 : Int), .string (⟨#[]⟩), .int .i64 (0 : Int), .int .i64 (0 : Int), .string (⟨#[]⟩), .string (⟨#[]⟩), .slice none 0 0, .slice none 0 0, .int .i64 (0 : Int), .slice none 0 0, .int .i64 (0 : Int), .int .i64 (0 : Int), .int .i64 (0 : Int), .int .i64 (0 : Int), .int .i64 (0 : Int), .string (⟨#[]⟩), .string (⟨#[]⟩), .int .i64 f.partner, .int .i64 f.cls, .int .i64 f.unt] 28), (B4, .cells #[.int .i64 f.n, .int .i64 f.time, .int .i64 f.kind, .int .i64 (0 : Int), .string (⟨#[]⟩), .int .i64 (0 : Int), .int .i64 (0 : Int), .string (⟨#[]⟩), .string (⟨#[]⟩), .slice none 0 0, .slice none 0 0, .int .i64 (0 : Int), .slice none 0 0, .int .i64 (0 : Int), .int .i64 (0 : Int), .int .i64 (0 : Int), .int .i64 (0 : Int), .int .i64 (0 : Int), .string (⟨#[]⟩), .string (⟨#[]⟩), .int .i64 f.partner, .int .i64 f.cls, .int .i64 f.unt] 28)]
abbrev usedH10 (B3 : Nat) (f : Fct) (ftp : Option Addr) (ftc : Nat) (fbp : Option Addr) (fbc : Nat) (fap : Option Addr) (fac : Nat) (B4 : Nat) (B5 : Nat) : SHeap := [(B3, .cells #[.int .i64 f.n, .int .i64 f.time, .int .i64 f.kind, .int .i64 f.story, .string f.lang, .int .i64 f.rev, .int .i64 f.base, .string f.title, .string f.author, .slice ftp f.topics.length ftc, .slice fbp f.blocks.length fbc, .int .i64 f.lab.unt, .slice fap f.lab.after.length fac, .int .i64 f.lab.appr, .int .i64 f.lab.den, .int .i64 f.editor, .int .i64 f.block, .int .i64 f.sentence, .string f.text, .string f.name, .int .i64 f.partner, .int .i64 f.cls, .int .i64 f.unt] 28), (B4, .cells #[.int .i64 (0 : Int), .int .i64 (0 : Int), .int .i64 (0 : Int), .int .i64 (0 : Int), .string (⟨#[]⟩), .int .i64 (0 : Int), .int .i64 (0 : Int), .string (⟨#[]⟩), .string (⟨#[]⟩), .slice none 0 0, .slice none 0 0, .int .i64 (0 : Int), .slice none 0 0, .int .i64 (0 : Int), .int .i64 (0 : Int), .int .i64 (0 : Int), .int .i64 (0 : Int), .int .i64 (0 : Int), .string (⟨#[]⟩), .string (⟨#[]⟩), .int .i64 (0 : Int), .int .i64 (0 : Int), .int .i64 (0 : Int)] 28), (B5, .cells #[.int .i64 f.n, .int .i64 f.time, .int .i64 f.kind, .int .i64 f.story, .string f.lang, .int .i64 f.rev, .int .i64 f.base, .string f.title, .string f.author, .slice none 0 0, .slice none 0 0, .int .i64 (0 : Int), .slice none 0 0, .int .i64 (0 : Int), .int .i64 (0 : Int), .int .i64 (0 : Int), .int .i64 (0 : Int), .int .i64 (0 : Int), .string (⟨#[]⟩), .string (⟨#[]⟩), .int .i64 (0 : Int), .int .i64 (0 : Int), .int .i64 (0 : Int)] 28)]
abbrev usedH11 (B3 : Nat) (f : Fct) (ftp : Option Addr) (ftc : Nat) (fbp : Option Addr) (fbc : Nat) (fap : Option Addr) (fac : Nat) (B4 : Nat) (B5 : Nat) : SHeap := [(B3, .cells #[.int .i64 f.n, .int .i64 f.time, .int .i64 f.kind, .int .i64 f.story, .string f.lang, .int .i64 f.rev, .int .i64 f.base, .string f.title, .string f.author, .slice ftp f.topics.length ftc, .slice fbp f.blocks.length fbc, .int .i64 f.lab.unt, .slice fap f.lab.after.length fac, .int .i64 f.lab.appr, .int .i64 f.lab.den, .int .i64 f.editor, .int .i64 f.block, .int .i64 f.sentence, .string f.text, .string f.name, .int .i64 f.partner, .int .i64 f.cls, .int .i64 f.unt] 28), (B4, .cells #[.int .i64 f.n, .int .i64 f.time, .int .i64 f.kind, .int .i64 f.story, .string (⟨#[]⟩), .int .i64 (0 : Int), .int .i64 (0 : Int), .string (⟨#[]⟩), .string (⟨#[]⟩), .slice none 0 0, .slice none 0 0, .int .i64 (0 : Int), .slice none 0 0, .int .i64 (0 : Int), .int .i64 (0 : Int), .int .i64 (0 : Int), .int .i64 (0 : Int), .int .i64 (0 : Int), .string (⟨#[]⟩), .string (⟨#[]⟩), .int .i64 (0 : Int), .int .i64 (0 : Int), .int .i64 (0 : Int)] 28), (B5, .cells #[.int .i64 f.n, .int .i64 f.time, .int .i64 f.kind, .int .i64 f.story, .string (⟨#[]⟩), .int .i64 (0 : Int), .int .i64 (0 : Int), .string (⟨#[]⟩), .string (⟨#[]⟩), .slice none 0 0, .slice none 0 0, .int .i64 (0 : Int), .slice none 0 0, .int .i64 (0 : Int), .int .i64 (0 : Int), .int .i64 (0 : Int), .int .i64 (0 : Int), .int .i64 (0 : Int), .string (⟨#[]⟩), .string (⟨#[]⟩), .int .i64 (0 : Int), .int .i64 (0 : Int), .int .i64 (0 : Int)] 28)]
abbrev usedH12 (B3 : Nat) (f : Fct) (ftp : Option Addr) (ftc : Nat) (fbp : Option Addr) (fbc : Nat) (fap : Option Addr) (fac : Nat) (B5 : Nat) : SHeap := [(B3, .cells #[.int .i64 f.n, .int .i64 f.time, .int .i64 f.kind, .int .i64 f.story, .string f.lang, .int .i64 f.rev, .int .i64 f.base, .string f.title, .string f.author, .slice ftp f.topics.length ftc, .slice fbp f.blocks.length fbc, .int .i64 f.lab.unt, .slice fap f.lab.after.length fac, .int .i64 f.lab.appr, .int .i64 f.lab.den, .int .i64 f.editor, .int .i64 f.block, .int .i64 f.sentence, .string f.text, .string f.name, .int .i64 f.partner, .int .i64 f.cls, .int .i64 f.unt] 28), (B5, .cells #[.int .i64 f.n, .int .i64 f.time, .int .i64 f.kind, .int .i64 (0 : Int), .string (⟨#[]⟩), .int .i64 (0 : Int), .int .i64 (0 : Int), .string (⟨#[]⟩), .string (⟨#[]⟩), .slice none 0 0, .slice none 0 0, .int .i64 (0 : Int), .slice none 0 0, .int .i64 (0 : Int), .int .i64 (0 : Int), .int .i64 (0 : Int), .int .i64 (0 : Int), .int .i64 (0 : Int), .string f.text, .string f.name, .int .i64 (0 : Int), .int .i64 (0 : Int), .int .i64 (0 : Int)] 28)]
abbrev usedH13 (B3 : Nat) (f : Fct) (ftp : Option Addr) (ftc : Nat) (fbp : Option Addr) (fbc : Nat) (fap : Option Addr) (fac : Nat) (B4 : Nat) (B5 : Nat) : SHeap := [(B3, .cells #[.int .i64 f.n, .int .i64 f.time, .int .i64 f.kind, .int .i64 f.story, .string f.lang, .int .i64 f.rev, .int .i64 f.base, .string f.title, .string f.author, .slice ftp f.topics.length ftc, .slice fbp f.blocks.length fbc, .int .i64 f.lab.unt, .slice fap f.lab.after.length fac, .int .i64 f.lab.appr, .int .i64 f.lab.den, .int .i64 f.editor, .int .i64 f.block, .int .i64 f.sentence, .string f.text, .string f.name, .int .i64 f.partner, .int .i64 f.cls, .int .i64 f.unt] 28), (B4, .cells #[.int .i64 (0 : Int), .int .i64 (0 : Int), .int .i64 (0 : Int), .int .i64 (0 : Int), .string (⟨#[]⟩), .int .i64 (0 : Int), .int .i64 (0 : Int), .string (⟨#[]⟩), .string (⟨#[]⟩), .slice none 0 0, .slice none 0 0, .int .i64 (0 : Int), .slice none 0 0, .int .i64 (0 : Int), .int .i64 (0 : Int), .int .i64 (0 : Int), .int .i64 (0 : Int), .int .i64 (0 : Int), .string (⟨#[]⟩), .string (⟨#[]⟩), .int .i64 (0 : Int), .int .i64 (0 : Int), .int .i64 (0 : Int)] 28), (B5, .cells #[.int .i64 f.n, .int .i64 f.time, .int .i64 f.kind, .int .i64 f.story, .string f.lang, .int .i64 f.rev, .int .i64 f.base, .string f.title, .string f.author, .slice ftp f.topics.length ftc, .slice fbp f.blocks.length fbc, .int .i64 f.lab.unt, .slice fap f.lab.after.length fac, .int .i64 f.lab.appr, .int .i64 f.lab.den, .int .i64 (0 : Int), .int .i64 (0 : Int), .int .i64 (0 : Int), .string (⟨#[]⟩), .string (⟨#[]⟩), .int .i64 (0 : Int), .int .i64 (0 : Int), .int .i64 (0 : Int)] 28)]
abbrev usedH14 (B3 : Nat) (f : Fct) (ftp : Option Addr) (ftc : Nat) (fbp : Option Addr) (fbc : Nat) (fap : Option Addr) (fac : Nat) (B5 : Nat) (B4 : Nat) : SHeap := [(B3, .cells #[.int .i64 f.n, .int .i64 f.time, .int .i64 f.kind, .int .i64 f.story, .string f.lang, .int .i64 f.rev, .int .i64 f.base, .string f.title, .string f.author, .slice ftp f.topics.length ftc, .slice fbp f.blocks.length fbc, .int .i64 f.lab.unt, .slice fap f.lab.after.length fac, .int .i64 f.lab.appr, .int .i64 f.lab.den, .int .i64 f.editor, .int .i64 f.block, .int .i64 f.sentence, .string f.text, .string f.name, .int .i64 f.partner, .int .i64 f.cls, .int .i64 f.unt] 28), (B5, .cells #[.int .i64 f.n, .int .i64 f.time, .int .i64 f.kind, .int .i64 f.story, .string f.lang, .int .i64 f.rev, .int .i64 f.base, .string f.title, .string f.author, .slice ftp f.topics.length ftc, .slice fbp f.blocks.length fbc, .int .i64 f.lab.unt, .slice fap f.lab.after.length fac, .int .i64 f.lab.appr, .int .i64 f.lab.den, .int .i64 (0 : Int), .int .i64 (0 : Int), .int .i64 (0 : Int), .string (⟨#[]⟩), .string (⟨#[]⟩), .int .i64 (0 : Int), .int .i64 (0 : Int), .int .i64 (0 : Int)] 28), (B4, .cells #[.int .i64 (0 : Int), .int .i64 (0 : Int), .int .i64 (0 : Int), .int .i64 (0 : Int), .string (⟨#[]⟩), .int .i64 (0 : Int), .int .i64 (0 : Int), .string (⟨#[]⟩), .string (⟨#[]⟩), .slice none 0 0, .slice none 0 0, .int .i64 (0 : Int), .slice none 0 0, .int .i64 (0 : Int), .int .i64 (0 : Int), .int .i64 (0 : Int), .int .i64 (0 : Int), .int .i64 (0 : Int), .string (⟨#[]⟩), .string (⟨#[]⟩), .int .i64 (0 : Int), .int .i64 (0 : Int), .int .i64 (0 : Int)] 28)]
abbrev usedH15 (B3 : Nat) (f : Fct) (ftp : Option Addr) (ftc : Nat) (fbp : Option Addr) (fbc : Nat) (fap : Option Addr) (fac : Nat) (B5 : Nat) (B4 : Nat) : SHeap := [(B3, .cells #[.int .i64 f.n, .int .i64 f.time, .int .i64 f.kind, .int .i64 f.story, .string f.lang, .int .i64 f.rev, .int .i64 f.base, .string f.title, .string f.author, .slice ftp f.topics.length ftc, .slice fbp f.blocks.length fbc, .int .i64 f.lab.unt, .slice fap f.lab.after.length fac, .int .i64 f.lab.appr, .int .i64 f.lab.den, .int .i64 f.editor, .int .i64 f.block, .int .i64 f.sentence, .string f.text, .string f.name, .int .i64 f.partner, .int .i64 f.cls, .int .i64 f.unt] 28), (B5, .cells #[.int .i64 f.n, .int .i64 f.time, .int .i64 f.kind, .int .i64 f.story, .string (⟨#[]⟩), .int .i64 (0 : Int), .int .i64 (0 : Int), .string (⟨#[]⟩), .string (⟨#[]⟩), .slice none 0 0, .slice none 0 0, .int .i64 f.lab.unt, .slice fap f.lab.after.length fac, .int .i64 f.lab.appr, .int .i64 f.lab.den, .int .i64 (0 : Int), .int .i64 (0 : Int), .int .i64 (0 : Int), .string (⟨#[]⟩), .string (⟨#[]⟩), .int .i64 (0 : Int), .int .i64 (0 : Int), .int .i64 (0 : Int)] 28), (B4, .cells #[.int .i64 (0 : Int), .int .i64 (0 : Int), .int .i64 (0 : Int), .int .i64 (0 : Int), .string (⟨#[]⟩), .int .i64 (0 : Int), .int .i64 (0 : Int), .string (⟨#[]⟩), .string (⟨#[]⟩), .slice none 0 0, .slice none 0 0, .int .i64 (0 : Int), .slice none 0 0, .int .i64 (0 : Int), .int .i64 (0 : Int), .int .i64 (0 : Int), .int .i64 (0 : Int), .int .i64 (0 : Int), .string (⟨#[]⟩), .string (⟨#[]⟩), .int .i64 (0 : Int), .int .i64 (0 : Int), .int .i64 (0 : Int)] 28)]
abbrev usedH16 (B3 : Nat) (f : Fct) (ftp : Option Addr) (ftc : Nat) (fbp : Option Addr) (fbc : Nat) (fap : Option Addr) (fac : Nat) (B4 : Nat) (B5 : Nat) : SHeap := [(B3, .cells #[.int .i64 f.n, .int .i64 f.time, .int .i64 f.kind, .int .i64 f.story, .string f.lang, .int .i64 f.rev, .int .i64 f.base, .string f.title, .string f.author, .slice ftp f.topics.length ftc, .slice fbp f.blocks.length fbc, .int .i64 f.lab.unt, .slice fap f.lab.after.length fac, .int .i64 f.lab.appr, .int .i64 f.lab.den, .int .i64 f.editor, .int .i64 f.block, .int .i64 f.sentence, .string f.text, .string f.name, .int .i64 f.partner, .int .i64 f.cls, .int .i64 f.unt] 28), (B4, .cells #[.int .i64 (0 : Int), .int .i64 (0 : Int), .int .i64 (0 : Int), .int .i64 (0 : Int), .string (⟨#[]⟩), .int .i64 (0 : Int), .int .i64 (0 : Int), .string (⟨#[]⟩), .string (⟨#[]⟩), .slice none 0 0, .slice none 0 0, .int .i64 (0 : Int), .slice none 0 0, .int .i64 (0 : Int), .int .i64 (0 : Int), .int .i64 (0 : Int), .int .i64 (0 : Int), .int .i64 (0 : Int), .string (⟨#[]⟩), .string (⟨#[]⟩), .int .i64 (0 : Int), .int .i64 (0 : Int), .int .i64 (0 : Int)] 28), (B5, .cells #[.int .i64 f.n, .int .i64 f.time, .int .i64 f.kind, .int .i64 (0 : Int), .string (⟨#[]⟩), .int .i64 (0 : Int), .int .i64 (0 : Int), .string (⟨#[]⟩), .string (⟨#[]⟩), .slice none 0 0, .slice none 0 0, .int .i64 (0 : Int), .slice none 0 0, .int .i64 (0 : Int), .int .i64 (0 : Int), .int .i64 (0 : Int), .int .i64 (0 : Int), .int .i64 (0 : Int), .string f.text, .string f.name, .int .i64 (0 : Int), .int .i64 (0 : Int), .int .i64 (0 : Int)] 28)]
abbrev usedH17 (B3 : Nat) (f : Fct) (ftp : Option Addr) (ftc : Nat) (fbp : Option Addr) (fbc : Nat) (fap : Option Addr) (fac : Nat) (B5 : Nat) (B4 : Nat) : SHeap := [(B3, .cells #[.int .i64 f.n, .int .i64 f.time, .int .i64 f.kind, .int .i64 f.story, .string f.lang, .int .i64 f.rev, .int .i64 f.base, .string f.title, .string f.author, .slice ftp f.topics.length ftc, .slice fbp f.blocks.length fbc, .int .i64 f.lab.unt, .slice fap f.lab.after.length fac, .int .i64 f.lab.appr, .int .i64 f.lab.den, .int .i64 f.editor, .int .i64 f.block, .int .i64 f.sentence, .string f.text, .string f.name, .int .i64 f.partner, .int .i64 f.cls, .int .i64 f.unt] 28), (B5, .cells #[.int .i64 f.n, .int .i64 f.time, .int .i64 f.kind, .int .i64 (0 : Int), .string (⟨#[]⟩), .int .i64 (0 : Int), .int .i64 (0 : Int), .string (⟨#[]⟩), .string (⟨#[]⟩), .slice none 0 0, .slice none 0 0, .int .i64 (0 : Int), .slice none 0 0, .int .i64 (0 : Int), .int .i64 (0 : Int), .int .i64 (0 : Int), .int .i64 (0 : Int), .int .i64 (0 : Int), .string f.text, .string f.name, .int .i64 (0 : Int), .int .i64 (0 : Int), .int .i64 (0 : Int)] 28), (B4, .cells #[.int .i64 (0 : Int), .int .i64 (0 : Int), .int .i64 (0 : Int), .int .i64 (0 : Int), .string (⟨#[]⟩), .int .i64 (0 : Int), .int .i64 (0 : Int), .string (⟨#[]⟩), .string (⟨#[]⟩), .slice none 0 0, .slice none 0 0, .int .i64 (0 : Int), .slice none 0 0, .int .i64 (0 : Int), .int .i64 (0 : Int), .int .i64 (0 : Int), .int .i64 (0 : Int), .int .i64 (0 : Int), .string (⟨#[]⟩), .string (⟨#[]⟩), .int .i64 (0 : Int), .int .i64 (0 : Int), .int .i64 (0 : Int)] 28)]
abbrev usedH18 (B3 : Nat) (f : Fct) (ftp : Option Addr) (ftc : Nat) (fbp : Option Addr) (fbc : Nat) (fap : Option Addr) (fac : Nat) (B5 : Nat) (B4 : Nat) : SHeap := [(B3, .cells #[.int .i64 f.n, .int .i64 f.time, .int .i64 f.kind, .int .i64 f.story, .string f.lang, .int .i64 f.rev, .int .i64 f.base, .string f.title, .string f.author, .slice ftp f.topics.length ftc, .slice fbp f.blocks.length fbc, .int .i64 f.lab.unt, .slice fap f.lab.after.length fac, .int .i64 f.lab.appr, .int .i64 f.lab.den, .int .i64 f.editor, .int .i64 f.block, .int .i64 f.sentence, .string f.text, .string f.name, .int .i64 f.partner, .int .i64 f.cls, .int .i64 f.unt] 28), (B5, .cells #[.int .i64 f.n, .int .i64 f.time, .int .i64 f.kind, .int .i64 f.story, .string (⟨#[]⟩), .int .i64 (0 : Int), .int .i64 (0 : Int), .string (⟨#[]⟩), .string (⟨#[]⟩), .slice none 0 0, .slice none 0 0, .int .i64 (0 : Int), .slice none 0 0, .int .i64 (0 : Int), .int .i64 (0 : Int), .int .i64 f.editor, .int .i64 (0 : Int), .int .i64 (0 : Int), .string (⟨#[]⟩), .string (⟨#[]⟩), .int .i64 (0 : Int), .int .i64 (0 : Int), .int .i64 (0 : Int)] 28), (B4, .cells #[.int .i64 (0 : Int), .int .i64 (0 : Int), .int .i64 (0 : Int), .int .i64 (0 : Int), .string (⟨#[]⟩), .int .i64 (0 : Int), .int .i64 (0 : Int), .string (⟨#[]⟩), .string (⟨#[]⟩), .slice none 0 0, .slice none 0 0, .int .i64 (0 : Int), .slice none 0 0, .int .i64 (0 : Int), .int .i64 (0 : Int), .int .i64 (0 : Int), .int .i64 (0 : Int), .int .i64 (0 : Int), .string (⟨#[]⟩), .string (⟨#[]⟩), .int .i64 (0 : Int), .int .i64 (0 : Int), .int .i64 (0 : Int)] 28)]
abbrev usedH19 (B3 : Nat) (f : Fct) (ftp : Option Addr) (ftc : Nat) (fbp : Option Addr) (fbc : Nat) (fap : Option Addr) (fac : Nat) (B5 : Nat) (B4 : Nat) : SHeap := [(B3, .cells #[.int .i64 f.n, .int .i64 f.time, .int .i64 f.kind, .int .i64 f.story, .string f.lang, .int .i64 f.rev, .int .i64 f.base, .string f.title, .string f.author, .slice ftp f.topics.length ftc, .slice fbp f.blocks.length fbc, .int .i64 f.lab.unt, .slice fap f.lab.after.length fac, .int .i64 f.lab.appr, .int .i64 f.lab.den, .int .i64 f.editor, .int .i64 f.block, .int .i64 f.sentence, .string f.text, .string f.name, .int .i64 f.partner, .int .i64 f.cls, .int .i64 f.unt] 28), (B5, .cells #[.int .i64 f.n, .int .i64 f.time, .int .i64 f.kind, .int .i64 f.story, .string (⟨#[]⟩), .int .i64 (0 : Int), .int .i64 (0 : Int), .string (⟨#[]⟩), .string (⟨#[]⟩), .slice none 0 0, .slice none 0 0, .int .i64 (0 : Int), .slice none 0 0, .int .i64 (0 : Int), .int .i64 (0 : Int), .int .i64 (0 : Int), .int .i64 (0 : Int), .int .i64 (0 : Int), .string f.text, .string (⟨#[]⟩), .int .i64 (0 : Int), .int .i64 (0 : Int), .int .i64 (0 : Int)] 28), (B4, .cells #[.int .i64 (0 : Int), .int .i64 (0 : Int), .int .i64 (0 : Int), .int .i64 (0 : Int), .string (⟨#[]⟩), .int .i64 (0 : Int), .int .i64 (0 : Int), .string (⟨#[]⟩), .string (⟨#[]⟩), .slice none 0 0, .slice none 0 0, .int .i64 (0 : Int), .slice none 0 0, .int .i64 (0 : Int), .int .i64 (0 : Int), .int .i64 (0 : Int), .int .i64 (0 : Int), .int .i64 (0 : Int), .string (⟨#[]⟩), .string (⟨#[]⟩), .int .i64 (0 : Int), .int .i64 (0 : Int), .int .i64 (0 : Int)] 28)]
abbrev usedH20 (B3 : Nat) (f : Fct) (ftp : Option Addr) (ftc : Nat) (fbp : Option Addr) (fbc : Nat) (fap : Option Addr) (fac : Nat) (B4 : Nat) (B5 : Nat) : SHeap := [(B3, .cells #[.int .i64 f.n, .int .i64 f.time, .int .i64 f.kind, .int .i64 f.story, .string f.lang, .int .i64 f.rev, .int .i64 f.base, .string f.title, .string f.author, .slice ftp f.topics.length ftc, .slice fbp f.blocks.length fbc, .int .i64 f.lab.unt, .slice fap f.lab.after.length fac, .int .i64 f.lab.appr, .int .i64 f.lab.den, .int .i64 f.editor, .int .i64 f.block, .int .i64 f.sentence, .string f.text, .string f.name, .int .i64 f.partner, .int .i64 f.cls, .int .i64 f.unt] 28), (B4, .cells #[.int .i64 (0 : Int), .int .i64 (0 : Int), .int .i64 (0 : Int), .int .i64 (0 : Int), .string (⟨#[]⟩), .int .i64 (0 : Int), .int .i64 (0 : Int), .string (⟨#[]⟩), .string (⟨#[]⟩), .slice none 0 0, .slice none 0 0, .int .i64 (0 : Int), .slice none 0 0, .int .i64 (0 : Int), .int .i64 (0 : Int), .int .i64 (0 : Int), .int .i64 (0 : Int), .int .i64 (0 : Int), .string (⟨#[]⟩), .string (⟨#[]⟩), .int .i64 (0 : Int), .int .i64 (0 : Int), .int .i64 (0 : Int)] 28), (B5, .cells #[.int .i64 f.n, .int .i64 f.time, .int .i64 f.kind, .int .i64 f.story, .string f.lang, .int .i64 (0 : Int), .int .i64 (0 : Int), .string (⟨#[]⟩), .string (⟨#[]⟩), .slice none 0 0, .slice none 0 0, .int .i64 (0 : Int), .slice none 0 0, .int .i64 (0 : Int), .int .i64 (0 : Int), .int .i64 (0 : Int), .int .i64 f.block, .int .i64 f.sentence, .string f.text, .string (⟨#[]⟩), .int .i64 (0 : Int), .int .i64 (0 : Int), .int .i64 (0 : Int)] 28)]
abbrev usedH21 (B3 : Nat) (f : Fct) (ftp : Option Addr) (ftc : Nat) (fbp : Option Addr) (fbc : Nat) (fap : Option Addr) (fac : Nat) (B5 : Nat) (B4 : Nat) : SHeap := [(B3, .cells #[.int .i64 f.n, .int .i64 f.time, .int .i64 f.kind, .int .i64 f.story, .string f.lang, .int .i64 f.rev, .int .i64 f.base, .string f.title, .string f.author, .slice ftp f.topics.length ftc, .slice fbp f.blocks.length fbc, .int .i64 f.lab.unt, .slice fap f.lab.after.length fac, .int .i64 f.lab.appr, .int .i64 f.lab.den, .int .i64 f.editor, .int .i64 f.block, .int .i64 f.sentence, .string f.text, .string f.name, .int .i64 f.partner, .int .i64 f.cls, .int .i64 f.unt] 28), (B5, .cells #[.int .i64 f.n, .int .i64 f.time, .int .i64 f.kind, .int .i64 f.story, .string f.lang, .int .i64 (0 : Int), .int .i64 (0 : Int), .string (⟨#[]⟩), .string (⟨#[]⟩), .slice none 0 0, .slice none 0 0, .int .i64 (0 : Int), .slice none 0 0, .int .i64 (0 : Int), .int .i64 (0 : Int), .int .i64 (0 : Int), .int .i64 f.block, .int .i64 f.sentence, .string f.text, .string (⟨#[]⟩), .int .i64 (0 : Int), .int .i64 (0 : Int), .int .i64 (0 : Int)] 28), (B4, .cells #[.int .i64 (0 : Int), .int .i64 (0 : Int), .int .i64 (0 : Int), .int .i64 (0 : Int), .string (⟨#[]⟩), .int .i64 (0 : Int), .int .i64 (0 : Int), .string (⟨#[]⟩), .string (⟨#[]⟩), .slice none 0 0, .slice none 0 0, .int .i64 (0 : Int), .slice none 0 0, .int .i64 (0 : Int), .int .i64 (0 : Int), .int .i64 (0 : Int), .int .i64 (0 : Int), .int .i64 (0 : Int), .string (⟨#[]⟩), .string (⟨#[]⟩), .int .i64 (0 : Int), .int .i64 (0 : Int), .int .i64 (0 : Int)] 28)]
abbrev usedH22 (B3 : Nat) (f : Fct) (ftp : Option Addr) (ftc : Nat) (fbp : Option Addr) (fbc : Nat) (fap : Option Addr) (fac : Nat) (B4 : Nat) (B5 : Nat) : SHeap := [(B3, .cells #[.int .i64 f.n, .int .i64 f.time, .int .i64 f.kind, .int .i64 f.story, .string f.lang, .int .i64 f.rev, .int .i64 f.base, .string f.title, .string f.author, .slice ftp f.topics.length ftc, .slice fbp f.blocks.length fbc, .int .i64 f.lab.unt, .slice fap f.lab.after.length fac, .int .i64 f.lab.appr, .int .i64 f.lab.den, .int .i64 f.editor, .int .i64 f.block, .int .i64 f.sentence, .string f.text, .string f.name, .int .i64 f.partner, .int .i64 f.cls, .int .i64 f.unt] 28), (B4, .cells #[.int .i64 (0 : Int), .int .i64 (0 : Int), .int .i64 (0 : Int), .int .i64 (0 : Int), .string (⟨#[]⟩), .int .i64 (0 : Int), .int .i64 (0 : Int), .string (⟨#[]⟩), .string (⟨#[]⟩), .slice none 0 0, .slice none 0 0, .int .i64 (0 : Int), .slice none 0 0, .int .i64 (0 : Int), .int .i64 (0 : Int), .int .i64 (0 : Int), .int .i64 (0 : Int), .int .i64 (0 : Int), .string (⟨#[]⟩), .string (⟨#[]⟩), .int .i64 (0 : Int), .int .i64 (0 : Int), .int .i64 (0 : Int)] 28), (B5, .cells #[.int .i64 f.n, .int .i64 f.time, .int .i64 f.kind, .int .i64 (0 : Int), .string (⟨#[]⟩), .int .i64 (0 : Int), .int .i64 (0 : Int), .string (⟨#[]⟩), .string (⟨#[]⟩), .slice none 0 0, .slice none 0 0, .int .i64 (0 : Int), .slice none 0 0, .int .i64 (0 : Int), .int .i64 (0 : Int), .int .i64 (0 : Int), .int .i64 (0 : Int), .int .i64 (0 : Int), .string (⟨#[]⟩), .string (⟨#[]⟩), .int .i64 f.partner, .int .i64 f.cls, .int .i64 f.unt] 28)]
abbrev usedH23 (B3 : Nat) (f : Fct) (ftp : Option Addr) (ftc : Nat) (fbp : Option Addr) (fbc : Nat) (fap : Option Addr) (fac : Nat) (B5 : Nat) (B4 : Nat) : SHeap := [(B3, .cells #[.int .i64 f.n, .int .i64 f.time, .int .i64 f.kind, .int .i64 f.story, .string f.lang, .int .i64 f.rev, .int .i64 f.base, .string f.title, .string f.author, .slice ftp f.topics.length ftc, .slice fbp f.blocks.length fbc, .int .i64 f.lab.unt, .slice fap f.lab.after.length fac, .int .i64 f.lab.appr, .int .i64 f.lab.den, .int .i64 f.editor, .int .i64 f.block, .int .i64 f.sentence, .string f.text, .string f.name, .int .i64 f.partner, .int .i64 f.cls, .int .i64 f.unt] 28), (B5, .cells #[.int .i64 f.n, .int .i64 f.time, .int .i64 f.kind, .int .i64 (0 : Int), .string (⟨#[]⟩), .int .i64 (0 : Int), .int .i64 (0 : Int), .string (⟨#[]⟩), .string (⟨#[]⟩), .slice none 0 0, .slice none 0 0, .int .i64 (0 : Int), .slice none 0 0, .int .i64 (0 : Int), .int .i64 (0 : Int), .int .i64 (0 : Int), .int .i64 (0 : Int), .int .i64 (0 : Int), .string (⟨#[]⟩), .string (⟨#[]⟩), .int .i64 f.partner, .int .i64 f.cls, .int .i64 f.unt] 28), (B4, .cells #[.int .i64 (0 : Int), .int .i64 (0 : Int), .int .i64 (0 : Int), .int .i64 (0 : Int), .string (⟨#[]⟩), .int .i64 (0 : Int), .int .i64 (0 : Int), .string (⟨#[]⟩), .string (⟨#[]⟩), .slice none 0 0, .slice none 0 0, .int .i64 (0 : Int), .slice none 0 0, .int .i64 (0 : Int), .int .i64 (0 : Int), .int .i64 (0 : Int), .int .i64 (0 : Int), .int .i64 (0 : Int), .string (⟨#[]⟩), .string (⟨#[]⟩), .int .i64 (0 : Int), .int .i64 (0 : Int), .int .i64 (0 : Int)] 28)]
abbrev usedH24 (B3 : Nat) (f : Fct) (ftp : Option Addr) (ftc : Nat) (fbp : Option Addr) (fbc : Nat) (fap : Option Addr) (fac : Nat) (B5 : Nat) : SHeap := [(B3, .cells #[.int .i64 f.n, .int .i64 f.time, .int .i64 f.kind, .int .i64 f.story, .string f.lang, .int .i64 f.rev, .int .i64 f.base, .string f.title, .string f.author, .slice ftp f.topics.length ftc, .slice fbp f.blocks.length fbc, .int .i64 f.lab.unt, .slice fap f.lab.after.length fac, .int .i64 f.lab.appr, .int .i64 f.lab.den, .int .i64 f.editor, .int .i64 f.block, .int .i64 f.sentence, .string f.text, .string f.name, .int .i64 f.partner, .int .i64 f.cls, .int .i64 f.unt] 28), (B5, .cells #[.int .i64 f.n, .int .i64 f.time, .int .i64 f.kind, .int .i64 f.story, .string f.lang, .int .i64 f.rev, .int .i64 f.base, .string f.title, .string f.author, .slice ftp f.topics.length ftc, .slice fbp f.blocks.length fbc, .int .i64 f.lab.unt, .slice fap f.lab.after.length fac, .int .i64 f.lab.appr, .int .i64 f.lab.den, .int .i64 (0 : Int), .int .i64 (0 : Int), .int .i64 (0 : Int), .string (⟨#[]⟩), .string (⟨#[]⟩), .int .i64 (0 : Int), .int .i64 (0 : Int), .int .i64 (0 : Int)] 28)]
abbrev usedH25 (B3 : Nat) (f : Fct) (ftp : Option Addr) (ftc : Nat) (fbp : Option Addr) (fbc : Nat) (fap : Option Addr) (fac : Nat) (B5 : Nat) : SHeap := [(B3, .cells #[.int .i64 f.n, .int .i64 f.time, .int .i64 f.kind, .int .i64 f.story, .string f.lang, .int .i64 f.rev, .int .i64 f.base, .string f.title, .string f.author, .slice ftp f.topics.length ftc, .slice fbp f.blocks.length fbc, .int .i64 f.lab.unt, .slice fap f.lab.after.length fac, .int .i64 f.lab.appr, .int .i64 f.lab.den, .int .i64 f.editor, .int .i64 f.block, .int .i64 f.sentence, .string f.text, .string f.name, .int .i64 f.partner, .int .i64 f.cls, .int .i64 f.unt] 28), (B5, .cells #[.int .i64 f.n, .int .i64 f.time, .int .i64 f.kind, .int .i64 f.story, .string (⟨#[]⟩), .int .i64 (0 : Int), .int .i64 (0 : Int), .string (⟨#[]⟩), .string (⟨#[]⟩), .slice none 0 0, .slice none 0 0, .int .i64 f.lab.unt, .slice fap f.lab.after.length fac, .int .i64 f.lab.appr, .int .i64 f.lab.den, .int .i64 (0 : Int), .int .i64 (0 : Int), .int .i64 (0 : Int), .string (⟨#[]⟩), .string (⟨#[]⟩), .int .i64 (0 : Int), .int .i64 (0 : Int), .int .i64 (0 : Int)] 28)]
abbrev usedH26 (B3 : Nat) (f : Fct) (ftp : Option Addr) (ftc : Nat) (fbp : Option Addr) (fbc : Nat) (fap : Option Addr) (fac : Nat) (B5 : Nat) : SHeap := [(B3, .cells #[.int .i64 f.n, .int .i64 f.time, .int .i64 f.kind, .int .i64 f.story, .string f.lang, .int .i64 f.rev, .int .i64 f.base, .string f.title, .string f.author, .slice ftp f.topics.length ftc, .slice fbp f.blocks.length fbc, .int .i64 f.lab.unt, .slice fap f.lab.after.length fac, .int .i64 f.lab.appr, .int .i64 f.lab.den, .int .i64 f.editor, .int .i64 f.block, .int .i64 f.sentence, .string f.text, .string f.name, .int .i64 f.partner, .int .i64 f.cls, .int .i64 f.unt] 28), (B5, .cells #[.int .i64 f.n, .int .i64 f.time, .int .i64 f.kind, .int .i64 f.story, .string (⟨#[]⟩), .int .i64 (0 : Int), .int .i64 (0 : Int), .string (⟨#[]⟩), .string (⟨#[]⟩), .slice none 0 0, .slice none 0 0, .int .i64 (0 : Int), .slice none 0 0, .int .i64 (0 : Int), .int .i64 (0 : Int), .int .i64 f.editor, .int .i64 (0 : Int), .int .i64 (0 : Int), .string (⟨#[]⟩), .string (⟨#[]⟩), .int .i64 (0 : Int), .int .i64 (0 : Int), .int .i64 (0 : Int)] 28)]
abbrev usedH27 (B3 : Nat) (f : Fct) (ftp : Option Addr) (ftc : Nat) (fbp : Option Addr) (fbc : Nat) (fap : Option Addr) (fac : Nat) (B5 : Nat) : SHeap := [(B3, .cells #[.int .i64 f.n, .int .i64 f.time, .int .i64 f.kind, .int .i64 f.story, .string f.lang, .int .i64 f.rev, .int .i64 f.base, .string f.title, .string f.author, .slice ftp f.topics.length ftc, .slice fbp f.blocks.length fbc, .int .i64 f.lab.unt, .slice fap f.lab.after.length fac, .int .i64 f.lab.appr, .int .i64 f.lab.den, .int .i64 f.editor, .int .i64 f.block, .int .i64 f.sentence, .string f.text, .string f.name, .int .i64 f.partner, .int .i64 f.cls, .int .i64 f.unt] 28), (B5, .cells #[.int .i64 f.n, .int .i64 f.time, .int .i64 f.kind, .int .i64 f.story, .string (⟨#[]⟩), .int .i64 (0 : Int), .int .i64 (0 : Int), .string (⟨#[]⟩), .string (⟨#[]⟩), .slice none 0 0, .slice none 0 0, .int .i64 (0 : Int), .slice none 0 0, .int .i64 (0 : Int), .int .i64 (0 : Int), .int .i64 (0 : Int), .int .i64 (0 : Int), .int .i64 (0 : Int), .string f.text, .string (⟨#[]⟩), .int .i64 (0 : Int), .int .i64 (0 : Int), .int .i64 (0 : Int)] 28)]
abbrev usedH28 (B3 : Nat) (f : Fct) (ftp : Option Addr) (ftc : Nat) (fbp : Option Addr) (fbc : Nat) (fap : Option Addr) (fac : Nat) (B5 : Nat) : SHeap := [(B3, .cells #[.int .i64 f.n, .int .i64 f.time, .int .i64 f.kind, .int .i64 f.story, .string f.lang, .int .i64 f.rev, .int .i64 f.base, .string f.title, .string f.author, .slice ftp f.topics.length ftc, .slice fbp f.blocks.length fbc, .int .i64 f.lab.unt, .slice fap f.lab.after.length fac, .int .i64 f.lab.appr, .int .i64 f.lab.den, .int .i64 f.editor, .int .i64 f.block, .int .i64 f.sentence, .string f.text, .string f.name, .int .i64 f.partner, .int .i64 f.cls, .int .i64 f.unt] 28), (B5, .cells #[.int .i64 f.n, .int .i64 f.time, .int .i64 f.kind, .int .i64 f.story, .string f.lang, .int .i64 (0 : Int), .int .i64 (0 : Int), .string (⟨#[]⟩), .string (⟨#[]⟩), .slice none 0 0, .slice none 0 0, .int .i64 (0 : Int), .slice none 0 0, .int .i64 (0 : Int), .int .i64 (0 : Int), .int .i64 (0 : Int), .int .i64 f.block, .int .i64 f.sentence, .string f.text, .string (⟨#[]⟩), .int .i64 (0 : Int), .int .i64 (0 : Int), .int .i64 (0 : Int)] 28)]
abbrev usedH29 (B3 : Nat) (f : Fct) (ftp : Option Addr) (ftc : Nat) (fbp : Option Addr) (fbc : Nat) (fap : Option Addr) (fac : Nat) (B5 : Nat) : SHeap := [(B3, .cells #[.int .i64 f.n, .int .i64 f.time, .int .i64 f.kind, .int .i64 f.story, .string f.lang, .int .i64 f.rev, .int .i64 f.base, .string f.title, .string f.author, .slice ftp f.topics.length ftc, .slice fbp f.blocks.length fbc, .int .i64 f.lab.unt, .slice fap f.lab.after.length fac, .int .i64 f.lab.appr, .int .i64 f.lab.den, .int .i64 f.editor, .int .i64 f.block, .int .i64 f.sentence, .string f.text, .string f.name, .int .i64 f.partner, .int .i64 f.cls, .int .i64 f.unt] 28), (B5, .cells #[.int .i64 f.n, .int .i64 f.time, .int .i64 f.kind, .int .i64 (0 : Int), .string (⟨#[]⟩), .int .i64 (0 : Int), .int .i64 (0 : Int), .string (⟨#[]⟩), .string (⟨#[]⟩), .slice none 0 0, .slice none 0 0, .int .i64 (0 : Int), .slice none 0 0, .int .i64 (0 : Int), .int .i64 (0 : Int), .int .i64 (0 : Int), .int .i64 (0 : Int), .int .i64 (0 : Int), .string (⟨#[]⟩), .string (⟨#[]⟩), .int .i64 f.partner, .int .i64 f.cls, .int .i64 f.unt] 28)]
abbrev usedA0 (f : Fct) (ftp : Option Addr) (ftc : Nat) (fbp : Option Addr) (fbc : Nat) (fap : Option Addr) (fac : Nat) : Array Value := #[.int .i64 f.n, .int .i64 f.time, .int .i64 f.kind, .int .i64 f.story, .string f.lang, .int .i64 f.rev, .int .i64 f.base, .string f.title, .string f.author, .slice ftp f.topics.length ftc, .slice fbp f.blocks.length fbc, .int .i64 f.lab.unt, .slice fap f.lab.after.length fac, .int .i64 f.lab.appr, .int .i64 f.lab.den, .int .i64 f.editor, .int .i64 f.block, .int .i64 f.sentence, .string f.text, .string f.name, .int .i64 f.partner, .int .i64 f.cls, .int .i64 f.unt]
abbrev usedA1 (f : Fct) : Array Value := #[.int .i64 f.n, .int .i64 f.time, .int .i64 f.kind, .int .i64 f.story, .string (⟨#[]⟩), .int .i64 (0 : Int), .int .i64 (0 : Int), .string (⟨#[]⟩), .string (⟨#[]⟩), .slice none 0 0, .slice none 0 0, .int .i64 (0 : Int), .slice none 0 0, .int .i64 (0 : Int), .int .i64 (0 : Int), .int .i64 (0 : Int), .int .i64 (0 : Int), .int .i64 (0 : Int), .string (⟨#[]⟩), .string (⟨#[]⟩), .int .i64 (0 : Int), .int .i64 (0 : Int), .int .i64 (0 : Int)]
abbrev usedA2 : Array Value := #[.int .i64 (0 : Int), .int .i64 (0 : Int), .int .i64 (0 : Int), .int .i64 (0 : Int), .string (⟨#[]⟩), .int .i64 (0 : Int), .int .i64 (0 : Int), .string (⟨#[]⟩), .string (⟨#[]⟩), .slice none 0 0, .slice none 0 0, .int .i64 (0 : Int), .slice none 0 0, .int .i64 (0 : Int), .int .i64 (0 : Int), .int .i64 (0 : Int), .int .i64 (0 : Int), .int .i64 (0 : Int), .string (⟨#[]⟩), .string (⟨#[]⟩), .int .i64 (0 : Int), .int .i64 (0 : Int), .int .i64 (0 : Int)]
abbrev usedA3 (f : Fct) (fap : Option Addr) (fac : Nat) : Array Value := #[.int .i64 f.n, .int .i64 f.time, .int .i64 f.kind, .int .i64 f.story, .string (⟨#[]⟩), .int .i64 (0 : Int), .int .i64 (0 : Int), .string (⟨#[]⟩), .string (⟨#[]⟩), .slice none 0 0, .slice none 0 0, .int .i64 f.lab.unt, .slice fap f.lab.after.length fac, .int .i64 f.lab.appr, .int .i64 f.lab.den, .int .i64 (0 : Int), .int .i64 (0 : Int), .int .i64 (0 : Int), .string (⟨#[]⟩), .string (⟨#[]⟩), .int .i64 (0 : Int), .int .i64 (0 : Int), .int .i64 (0 : Int)]
abbrev usedA4 (f : Fct) : Array Value := #[.int .i64 f.n, .int .i64 f.time, .int .i64 f.kind, .int .i64 f.story, .string (⟨#[]⟩), .int .i64 (0 : Int), .int .i64 (0 : Int), .string (⟨#[]⟩), .string (⟨#[]⟩), .slice none 0 0, .slice none 0 0, .int .i64 (0 : Int), .slice none 0 0, .int .i64 (0 : Int), .int .i64 (0 : Int), .int .i64 f.editor, .int .i64 (0 : Int), .int .i64 (0 : Int), .string (⟨#[]⟩), .string (⟨#[]⟩), .int .i64 (0 : Int), .int .i64 (0 : Int), .int .i64 (0 : Int)]
abbrev usedA5 (f : Fct) : Array Value := #[.int .i64 f.n, .int .i64 f.time, .int .i64 f.kind, .int .i64 f.story, .string (⟨#[]⟩), .int .i64 (0 : Int), .int .i64 (0 : Int), .string (⟨#[]⟩), .string (⟨#[]⟩), .slice none 0 0, .slice none 0 0, .int .i64 (0 : Int), .slice none 0 0, .int .i64 (0 : Int), .int .i64 (0 : Int), .int .i64 (0 : Int), .int .i64 (0 : Int), .int .i64 (0 : Int), .string f.text, .string (⟨#[]⟩), .int .i64 (0 : Int), .int .i64 (0 : Int), .int .i64 (0 : Int)]
abbrev usedA6 (f : Fct) (ftp : Option Addr) (ftc : Nat) (fbp : Option Addr) (fbc : Nat) (fap : Option Addr) (fac : Nat) : Array Value := #[.int .i64 f.n, .int .i64 f.time, .int .i64 f.kind, .int .i64 f.story, .string f.lang, .int .i64 f.rev, .int .i64 f.base, .string f.title, .string f.author, .slice ftp f.topics.length ftc, .slice fbp f.blocks.length fbc, .int .i64 f.lab.unt, .slice fap f.lab.after.length fac, .int .i64 f.lab.appr, .int .i64 f.lab.den, .int .i64 (0 : Int), .int .i64 (0 : Int), .int .i64 (0 : Int), .string (⟨#[]⟩), .string (⟨#[]⟩), .int .i64 (0 : Int), .int .i64 (0 : Int), .int .i64 (0 : Int)]
abbrev usedA7 (f : Fct) : Array Value := #[.int .i64 f.n, .int .i64 f.time, .int .i64 f.kind, .int .i64 (0 : Int), .string (⟨#[]⟩), .int .i64 (0 : Int), .int .i64 (0 : Int), .string (⟨#[]⟩), .string (⟨#[]⟩), .slice none 0 0, .slice none 0 0, .int .i64 (0 : Int), .slice none 0 0, .int .i64 (0 : Int), .int .i64 (0 : Int), .int .i64 (0 : Int), .int .i64 (0 : Int), .int .i64 (0 : Int), .string f.text, .string f.name, .int .i64 (0 : Int), .int .i64 (0 : Int), .int .i64 (0 : Int)]
abbrev usedA8 (f : Fct) : Array Value := #[.int .i64 f.n, .int .i64 f.time, .int .i64 f.kind, .int .i64 (0 : Int), .string (⟨#[]⟩), .int .i64 (0 : Int), .int .i64 (0 : Int), .string (⟨#[]⟩), .string (⟨#[]⟩), .slice none 0 0, .slice none 0 0, .int .i64 (0 : Int), .slice none 0 0, .int .i64 (0 : Int), .int .i64 (0 : Int), .int .i64 (0 : Int), .int .i64 (0 : Int), .int .i64 (0 : Int), .string (⟨#[]⟩), .string (⟨#[]⟩), .int .i64 f.partner, .int .i64 (0 : Int), .int .i64 f.unt]
abbrev usedA9 (f : Fct) : Array Value := #[.int .i64 f.n, .int .i64 f.time, .int .i64 f.kind, .int .i64 f.story, .string f.lang, .int .i64 (0 : Int), .int .i64 (0 : Int), .string (⟨#[]⟩), .string (⟨#[]⟩), .slice none 0 0, .slice none 0 0, .int .i64 (0 : Int), .slice none 0 0, .int .i64 (0 : Int), .int .i64 (0 : Int), .int .i64 (0 : Int), .int .i64 f.block, .int .i64 f.sentence, .string f.text, .string (⟨#[]⟩), .int .i64 (0 : Int), .int .i64 (0 : Int), .int .i64 (0 : Int)]
abbrev usedA10 (f : Fct) : Array Value := #[.int .i64 f.n, .int .i64 f.time, .int .i64 f.kind, .int .i64 (0 : Int), .string (⟨#[]⟩), .int .i64 (0 : Int), .int .i64 (0 : Int), .string (⟨#[]⟩), .string (⟨#[]⟩), .slice none 0 0, .slice none 0 0, .int .i64 (0 : Int), .slice none 0 0, .int .i64 (0 : Int), .int .i64 (0 : Int), .int .i64 (0 : Int), .int .i64 (0 : Int), .int .i64 (0 : Int), .string (⟨#[]⟩), .string (⟨#[]⟩), .int .i64 f.partner, .int .i64 f.cls, .int .i64 f.unt]
abbrev usedA11 (f : Fct) (fap : Option Addr) (fac : Nat) : Array Value := #[.int .i64 f.lab.unt, .slice fap f.lab.after.length fac, .int .i64 f.lab.appr, .int .i64 f.lab.den]
def used_c0 (f : Fct) (ftp : Option Addr) (ftc : Nat) (fbp : Option Addr) (fbc : Nat) (fap : Option Addr) (fac : Nat) (B3 : Nat) (B4 : Nat) (B5 : Nat) (story : Bool) (partner : Bool) (w0 : World) (R : Ending → World → Prop) : Prop :=
 AtE Tryz.prog 59 171 [.code (sub (Eng.body Tryz.f59) [1,1,1,1,0]), .code (sub (Eng.body Tryz.f59) [1,1,1,1,1])] [(1, .pointer (some ⟨B3, 0, none⟩)), (2, .pointer (some ⟨B4, 0, none⟩)), (4, .pointer (some ⟨B5, 0, none⟩)), (5, .bool story), (6, .bool partner)] (usedH0 B3 f ftp ftc fbp fbc fap fac B4 B5) [] w0 (nrm R)
theorem used_c0_vc (f : Fct) (ftp : Option Addr) (ftc : Nat) (fbp : Option Addr) (fbc : Nat) (fap : Option Addr) (fac : Nat) (B3 : Nat) (B4 : Nat) (B5 : Nat) (story : Bool) (partner : Bool) {R : Ending → World → Prop} {w0 : World}
  (H :
   ((f.kind = (1 : Int)) →
    ((story = true) →
     ∃ (r41 : Bool), (QCallB Tryz.prog 101 ⟨[.agg (usedA0 f ftp ftc fbp fbc fap fac)]⟩ (usedH24 B3 f ftp ftc fbp fbc fap fac B5) [] w0 (.bool r41)) ∧
     Fin R (usedH3 B3 f ftp ftc fbp fbc fap fac B5 B4) [] w0 (.tuple #[.agg (usedA6 f ftp ftc fbp fbc fap fac), .bool r41])) ∧
     ((story = false) →
     Fin R (usedH3 B3 f ftp ftc fbp fbc fap fac B5 B4) [] w0 (.tuple #[.agg (usedA6 f ftp ftc fbp fbc fap fac), .bool false]))) ∧
    ((¬ (f.kind = (1 : Int))) →
    ((f.kind = (2 : Int)) →
     ((story = true) →
      ∃ (r51 : Bool), (QCallB Tryz.prog 58 ⟨[.int .i64 f.editor, .int .i64 (1 : Int), .int .i64 (5 : Int)]⟩ (usedH26 B3 f ftp ftc fbp fbc fap fac B5) [] w0 (.bool r51)) ∧
      Fin R (usedH6 B3 f ftp ftc fbp fbc fap fac B5 B4) [] w0 (.tuple #[.agg (usedA4 f), .bool r51])) ∧
      ((story = false) →
      Fin R (usedH6 B3 f ftp ftc fbp fbc fap fac B5 B4) [] w0 (.tuple #[.agg (usedA4 f), .bool false]))) ∧
     ((¬ (f.kind = (2 : Int))) →
     ((f.kind = (3 : Int)) →
      ((story = true) →
       ∃ (r61 : Bool), (QCallB Tryz.prog 102 ⟨[.agg (usedA11 f fap fac)]⟩ (usedH25 B3 f ftp ftc fbp fbc fap fac B5) [] w0 (.bool r61)) ∧
       Fin R (usedH4 B3 f ftp ftc fbp fbc fap fac B5 B4) [] w0 (.tuple #[.agg (usedA3 f fap fac), .bool r61])) ∧
       ((story = false) →
       Fin R (usedH4 B3 f ftp ftc fbp fbc fap fac B5 B4) [] w0 (.tuple #[.agg (usedA3 f fap fac), .bool false]))) ∧
      ((¬ (f.kind = (3 : Int))) →
      ((f.kind = (4 : Int)) →
       ((story = true) →
        ∃ (r71 : Bool), (QCallB Tryz.prog 103 ⟨[.agg (usedA0 f ftp ftc fbp fbc fap fac)]⟩ (usedH28 B3 f ftp ftc fbp fbc fap fac B5) [] w0 (.bool r71)) ∧
        Fin R (usedH8 B3 f ftp ftc fbp fbc fap fac B5 B4) [] w0 (.tuple #[.agg (usedA9 f), .bool r71])) ∧
        ((story = false) →
        Fin R (usedH8 B3 f ftp ftc fbp fbc fap fac B5 B4) [] w0 (.tuple #[.agg (usedA9 f), .bool false]))) ∧
       ((¬ (f.kind = (4 : Int))) →
       ((f.kind = (5 : Int)) →
        ((story = true) →
         ∃ (r81 : Bool), (QCallB Tryz.prog 104 ⟨[.string f.text]⟩ (usedH27 B3 f ftp ftc fbp fbc fap fac B5) [] w0 (.bool r81)) ∧
         Fin R (usedH7 B3 f ftp ftc fbp fbc fap fac B5 B4) [] w0 (.tuple #[.agg (usedA5 f), .bool r81])) ∧
         ((story = false) →
         Fin R (usedH7 B3 f ftp ftc fbp fbc fap fac B5 B4) [] w0 (.tuple #[.agg (usedA5 f), .bool false]))) ∧
        ((¬ (f.kind = (5 : Int))) →
        ((f.kind = (6 : Int)) →
         Fin R (usedH11 B3 f ftp ftc fbp fbc fap fac B4 B5) [] w0 (.tuple #[.agg (usedA1 f), .bool story])) ∧
         ((¬ (f.kind = (6 : Int))) →
         ((f.kind = (10 : Int)) →
          Fin R (usedH11 B3 f ftp ftc fbp fbc fap fac B4 B5) [] w0 (.tuple #[.agg (usedA1 f), .bool story])) ∧
          ((¬ (f.kind = (10 : Int))) →
          ((f.kind = (7 : Int)) →
           ∃ (r91 : Bool), (QCallB Tryz.prog 105 ⟨[.string f.name]⟩ (usedH12 B3 f ftp ftc fbp fbc fap fac B5) [] w0 (.bool r91)) ∧
           ((r91 = true) →
            ∃ (r101 : Bool), (QCallB Tryz.prog 106 ⟨[.string f.text]⟩ (usedH12 B3 f ftp ftc fbp fbc fap fac B5) [] w0 (.bool r101)) ∧
            Fin R (usedH5 B3 f ftp ftc fbp fbc fap fac B5 B4) [] w0 (.tuple #[.agg (usedA7 f), .bool r101])) ∧
            ((r91 = false) →
            Fin R (usedH5 B3 f ftp ftc fbp fbc fap fac B5 B4) [] w0 (.tuple #[.agg (usedA7 f), .bool false]))) ∧
           ((¬ (f.kind = (7 : Int))) →
           ((f.kind = (8 : Int)) →
            ((partner = true) →
             ∃ (r111 : Bool), (QCallB Tryz.prog 58 ⟨[.int .i64 f.cls, .int .i64 (0 : Int), .int .i64 (3 : Int)]⟩ (usedH29 B3 f ftp ftc fbp fbc fap fac B5) [] w0 (.bool r111)) ∧
             Fin R (usedH9 B3 f ftp ftc fbp fbc fap fac B5 B4) [] w0 (.tuple #[.agg (usedA10 f), .bool r111])) ∧
             ((partner = false) →
             Fin R (usedH9 B3 f ftp ftc fbp fbc fap fac B5 B4) [] w0 (.tuple #[.agg (usedA10 f), .bool false]))) ∧
            ((¬ (f.kind = (8 : Int))) →
            ((f.kind = (9 : Int)) →
             Fin R [(B3, .cells (usedA0 f ftp ftc fbp fbc fap fac) 28), (B4, .cells (usedA8 f) 28), (B5, .cells (usedA8 f) 28)] [] w0 (.tuple #[.agg (usedA8 f), .bool partner])) ∧
             ((¬ (f.kind = (9 : Int))) →
             Fin R (usedH11 B3 f ftp ftc fbp fbc fap fac B4 B5) [] w0 (.tuple #[.agg (usedA1 f), .bool false])))))))))))) :
  used_c0 f ftp ftc fbp fbc fap fac B3 B4 B5 story partner w0 R := by
 unfold used_c0
 refine AtE.ru 3 ?_
 refine AtE.load 0 2 (T := 3) (v := .int .i64 f.kind) (by kernel_rfl) ?_
 refine AtE.ru 7 ?_
 refine AtE.splitP 29 (p := f.kind = (1 : Int)) (by kernel_rfl) (fun h2' => ?_) (fun h2' => ?_)
 ·replace H := H.1 h2'
  refine AtE.ru 2 ?_
  refine AtE.norm (k' := [.code (sub (Eng.body Tryz.f59) [1,1,1,1,0,1,0,1,0,0]), .code (sub (Eng.body Tryz.f59) [1,1,1,1,0,1,0,1,0,1]), .inBlock 0, .code (sub (Eng.body Tryz.f59) [1,1,1,1,1])]) (e' := [(1, .pointer (some ⟨B3, 0, none⟩)), (2, .pointer (some ⟨B4, 0, none⟩)), (4, .pointer (some ⟨B5, 0, none⟩)), (5, .bool story)]) (L' := (usedH0 B3 f ftp ftc fbp fbc fap fac B4 B5)) ?_ (by kernel_rfl)
  refine AtE.drawD (by kernel_rfl) ?_
  refine AtD.norm (e' := [(1, .pointer (some ⟨B3, 0, none⟩)), (2, .pointer (some ⟨B4, 0, none⟩)), (4, .pointer (some ⟨B5, 0, none⟩)), (5, .bool story)]) (L' := (usedH0 B3 f ftp ftc fbp fbc fap fac B4 B5)) ?_ (by kernel_rfl)
  refine AtD.phase 20 [0,1,2,3,4,5,6,7,8,9,10] [11,12,13,14,15,16,17,18,19] (usedH2 B3 f ftp ftc fbp fbc fap fac B4) (by kernel_rfl) rfl ?_
  refine AtF.pu ?_
  refine AtF.load 0 4 (T := 9) (v := .string f.lang) (by kernel_rfl) ?_
  refine AtF.pu ?_
  refine AtF.load 0 5 (T := 3) (v := .int .i64 f.rev) (by kernel_rfl) ?_
  refine AtF.pu ?_
  refine AtF.load 0 6 (T := 3) (v := .int .i64 f.base) (by kernel_rfl) ?_
  refine AtF.pu ?_
  refine AtF.load 0 7 (T := 9) (v := .string f.title) (by kernel_rfl) ?_
  refine AtF.pu ?_
  refine AtF.load 0 8 (T := 9) (v := .string f.author) (by kernel_rfl) ?_
  refine AtF.pu ?_
  refine AtF.done (by kernel_rfl) ?_
  refine AtM.store _ 2 4 (T := 9) (v := .string f.lang) rfl (by kernel_rfl) ?_
  refine AtM.pure _ rfl (by kernel_rfl) (fun W => by kernel_rfl) ?_
  refine AtM.store _ 2 5 (T := 3) (v := .int .i64 f.rev) rfl (by kernel_rfl) ?_
  refine AtM.pure _ rfl (by kernel_rfl) (fun W => by kernel_rfl) ?_
  refine AtM.store _ 2 6 (T := 3) (v := .int .i64 f.base) rfl (by kernel_rfl) ?_
  refine AtM.pure _ rfl (by kernel_rfl) (fun W => by kernel_rfl) ?_
  refine AtM.store _ 2 7 (T := 9) (v := .string f.title) rfl (by kernel_rfl) ?_
  refine AtM.pure _ rfl (by kernel_rfl) (fun W => by kernel_rfl) ?_
  refine AtM.store _ 2 8 (T := 9) (v := .string f.author) rfl (by kernel_rfl) ?_
  refine AtM.done _ (by kernel_rfl) rfl ?_
  refine AtD.norm (e' := [(1, .pointer (some ⟨B3, 0, none⟩)), (2, .pointer (some ⟨B4, 0, none⟩)), (4, .pointer (some ⟨B5, 0, none⟩)), (5, .bool story)]) (L' := (usedH10 B3 f ftp ftc fbp fbc fap fac B4 B5)) ?_ (by kernel_rfl)
  refine AtD.tail (by kernel_rfl) ?_
  refine AtE.ru 2 ?_
  refine AtE.norm (k' := [.code (sub (Eng.body Tryz.f59) [1,1,1,1,0,1,0,1,0,1,0]), .code (sub (Eng.body Tryz.f59) [1,1,1,1,0,1,0,1,0,1,1]), .inBlock 0, .code (sub (Eng.body Tryz.f59) [1,1,1,1,1])]) (e' := [(1, .pointer (some ⟨B3, 0, none⟩)), (2, .pointer (some ⟨B4, 0, none⟩)), (4, .pointer (some ⟨B5, 0, none⟩)), (5, .bool story)]) (L' := (usedH10 B3 f ftp ftc fbp fbc fap fac B4 B5)) ?_ (by kernel_rfl)
  refine AtE.drawD (by kernel_rfl) ?_
  refine AtD.norm (e' := [(1, .pointer (some ⟨B3, 0, none⟩)), (2, .pointer (some ⟨B4, 0, none⟩)), (4, .pointer (some ⟨B5, 0, none⟩)), (5, .bool story)]) (L' := (usedH10 B3 f ftp ftc fbp fbc fap fac B4 B5)) ?_ (by kernel_rfl)
  refine AtD.phase 12 [0,1,2,3,4,5,6] [7,8,9,10,11] (usedH2 B3 f ftp ftc fbp fbc fap fac B4) (by kernel_rfl) rfl ?_
  refine AtF.pu ?_
  refine AtF.load 0 9 (T := 22) (v := .slice ftp f.topics.length ftc) (by kernel_rfl) ?_
  refine AtF.pu ?_
  refine AtF.load 0 10 (T := 23) (v := .slice fbp f.blocks.length fbc) (by kernel_rfl) ?_
  refine AtF.pu ?_
  refine AtF.load 0 11 (T := 26) (v := .agg (usedA11 f fap fac)) (by kernel_rfl) ?_
  refine AtF.pu ?_
  refine AtF.done (by kernel_rfl) ?_
  refine AtM.store _ 2 9 (T := 22) (v := .slice ftp f.topics.length ftc) rfl (by kernel_rfl) ?_
  refine AtM.pure _ rfl (by kernel_rfl) (fun W => by kernel_rfl) ?_
  refine AtM.store _ 2 10 (T := 23) (v := .slice fbp f.blocks.length fbc) rfl (by kernel_rfl) ?_
  refine AtM.pure _ rfl (by kernel_rfl) (fun W => by kernel_rfl) ?_
  refine AtM.store _ 2 11 (T := 26) (v := .agg (usedA11 f fap fac)) rfl (by kernel_rfl) ?_
  refine AtM.done _ (by kernel_rfl) rfl ?_
  refine AtD.norm (e' := [(1, .pointer (some ⟨B3, 0, none⟩)), (2, .pointer (some ⟨B4, 0, none⟩)), (4, .pointer (some ⟨B5, 0, none⟩)), (5, .bool story)]) (L' := (usedH13 B3 f ftp ftc fbp fbc fap fac B4 B5)) ?_ (by kernel_rfl)
  refine AtD.tail (by kernel_rfl) ?_
  refine AtE.ru 2 ?_
  refine AtE.norm (k' := [.code (sub (Eng.body Tryz.f59) [1,1,1,1,0,1,0,1,0,1,1,0]), .code (sub (Eng.body Tryz.f59) [1,1,1,1,0,1,0,1,0,1,1,1]), .inBlock 0, .code (sub (Eng.body Tryz.f59) [1,1,1,1,1])]) (e' := [(1, .pointer (some ⟨B3, 0, none⟩)), (2, .pointer (some ⟨B4, 0, none⟩)), (4, .pointer (some ⟨B5, 0, none⟩)), (5, .bool story)]) (L' := (usedH13 B3 f ftp ftc fbp fbc fap fac B4 B5)) ?_ (by kernel_rfl)
  refine AtE.cut [0,2,1] (k' := [.code (sub (Eng.body Tryz.f59) [1,1,1,1,0,1,0,1,0,1,1,0]), .code (sub (Eng.body Tryz.f59) [1,1,1,1,0,1,0,1,0,1,1,1]), .inBlock 0, .code (sub (Eng.body Tryz.f59) [1,1,1,1,1])]) (e' := [(1, .pointer (some ⟨B3, 0, none⟩)), (2, .pointer (some ⟨B4, 0, none⟩)), (4, .pointer (some ⟨B5, 0, none⟩)), (5, .bool story)]) (L' := (usedH14 B3 f ftp ftc fbp fbc fap fac B5 B4)) ?_ (by kernel_rfl)
  refine AtE.drawD (by kernel_rfl) ?_
  refine AtD.norm (e' := [(1, .pointer (some ⟨B3, 0, none⟩)), (2, .pointer (some ⟨B4, 0, none⟩)), (4, .pointer (some ⟨B5, 0, none⟩)), (5, .bool story)]) (L' := (usedH14 B3 f ftp ftc fbp fbc fap fac B5 B4)) ?_ (by kernel_rfl)
  refine AtD.phase 7 [0,1,2,3,4,5] [6] (usedH24 B3 f ftp ftc fbp fbc fap fac B5) (by kernel_rfl) rfl ?_
  refine AtF.load 1 0 (T := 28) (v := .agg (usedA6 f ftp ftc fbp fbc fap fac)) (by kernel_rfl) ?_
  refine AtF.pu ?_
  refine AtF.pu ?_
  refine AtF.split 57 (b := story) (by kernel_rfl) (fun h3' => ?_) (fun h3' => ?_)
  ·replace H := H.1 h3'
   refine AtF.load 0 0 (T := 28) (v := .agg (usedA0 f ftp ftc fbp fbc fap fac)) (by kernel_rfl) ?_
   obtain ⟨r41, hq, H⟩ := H
   refine AtF.call 101 ⟨[.agg (usedA0 f ftp ftc fbp fbc fap fac)]⟩ (fun W => by kernel_rfl) (by kernel_rfl) hq ?_
   refine AtF.pu ?_
   refine AtF.done (by kernel_rfl) ?_
   refine AtM.store _ 2 0 (T := 28) (v := .agg (usedA6 f ftp ftc fbp fbc fap fac)) rfl (by kernel_rfl) ?_
   refine AtM.done _ (by kernel_rfl) rfl ?_
   refine AtD.norm (e' := [(2, .pointer (some ⟨B4, 0, none⟩)), (60, .bool r41)]) (L' := (usedH3 B3 f ftp ftc fbp fbc fap fac B5 B4)) ?_ (by kernel_rfl)
   refine AtD.tail (by kernel_rfl) ?_
   refine AtE.ru 2 ?_
   exact AtE.retR Tryz.func59 (by kernel_rfl) (ResOk.ct (a := 2) (b := 3) (T := 28) (u := .agg (usedA6 f ftp ftc fbp fbc fap fac)) (v := .bool r41) 2 0 (by kernel_rfl) (by kernel_rfl)) H
  ·replace H := H.2 h3'
   refine AtF.skip (by kernel_rfl) ?_
   refine AtF.skip (by kernel_rfl) ?_
   refine AtF.pu ?_
   refine AtF.done (by kernel_rfl) ?_
   refine AtM.store _ 2 0 (T := 28) (v := .agg (usedA6 f ftp ftc fbp fbc fap fac)) rfl (by kernel_rfl) ?_
   refine AtM.done _ (by kernel_rfl) rfl ?_
   refine AtD.norm (e' := [(2, .pointer (some ⟨B4, 0, none⟩)), (60, .bool false)]) (L' := (usedH3 B3 f ftp ftc fbp fbc fap fac B5 B4)) ?_ (by kernel_rfl)
   refine AtD.tail (by kernel_rfl) ?_
   refine AtE.ru 2 ?_
   exact AtE.retR Tryz.func59 (by kernel_rfl) (ResOk.ct (a := 2) (b := 3) (T := 28) (u := .agg (usedA6 f ftp ftc fbp fbc fap fac)) (v := .bool false) 2 0 (by kernel_rfl) (by kernel_rfl)) H
 ·replace H := H.2 h2'
  refine AtE.ru 6 ?_
  refine AtE.splitP 61 (p := f.kind = (2 : Int)) (by kernel_rfl) (fun h4' => ?_) (fun h4' => ?_)
  ·replace H := H.1 h4'
   refine AtE.ru 4 ?_
   refine AtE.load 0 15 (T := 3) (v := .int .i64 f.editor) (by kernel_rfl) ?_
   refine AtE.ru 1 ?_
   refine AtE.store 2 15 (T := 3) (v := .int .i64 f.editor) (by kernel_rfl) ?_
   refine AtE.ru 2 ?_
   refine AtE.norm (k' := [.code (sub (Eng.body Tryz.f59) [1,1,1,1,0,1,0,1,1,1,0,1,0]), .code (sub (Eng.body Tryz.f59) [1,1,1,1,0,1,0,1,1,1,0,1,1]), .inBlock 0, .code (sub (Eng.body Tryz.f59) [1,1,1,1,1])]) (e' := [(1, .pointer (some ⟨B3, 0, none⟩)), (2, .pointer (some ⟨B4, 0, none⟩)), (4, .pointer (some ⟨B5, 0, none⟩)), (5, .bool story)]) (L' := [(B3, .cells (usedA0 f ftp ftc fbp fbc fap fac) 28), (B4, .cells usedA2 28), (B5, .cells (usedA4 f) 28)]) ?_ (by kernel_rfl)
   refine AtE.cut [0,2,1] (k' := [.code (sub (Eng.body Tryz.f59) [1,1,1,1,0,1,0,1,1,1,0,1,0]), .code (sub (Eng.body Tryz.f59) [1,1,1,1,0,1,0,1,1,1,0,1,1]), .inBlock 0, .code (sub (Eng.body Tryz.f59) [1,1,1,1,1])]) (e' := [(1, .pointer (some ⟨B3, 0, none⟩)), (2, .pointer (some ⟨B4, 0, none⟩)), (4, .pointer (some ⟨B5, 0, none⟩)), (5, .bool story)]) (L' := (usedH18 B3 f ftp ftc fbp fbc fap fac B5 B4)) ?_ (by kernel_rfl)
   refine AtE.drawD (by kernel_rfl) ?_
   refine AtD.norm (e' := [(1, .pointer (some ⟨B3, 0, none⟩)), (2, .pointer (some ⟨B4, 0, none⟩)), (4, .pointer (some ⟨B5, 0, none⟩)), (5, .bool story)]) (L' := (usedH18 B3 f ftp ftc fbp fbc fap fac B5 B4)) ?_ (by kernel_rfl)
   refine AtD.phase 8 [0,1,2,3,4,5,6] [7] (usedH26 B3 f ftp ftc fbp fbc fap fac B5) (by kernel_rfl) rfl ?_
   refine AtF.load 1 0 (T := 28) (v := .agg (usedA4 f)) (by kernel_rfl) ?_
   refine AtF.pu ?_
   refine AtF.pu ?_
   refine AtF.split 68 (b := story) (by kernel_rfl) (fun h5' => ?_) (fun h5' => ?_)
   ·replace H := H.1 h5'
    refine AtF.pu ?_
    refine AtF.load 0 15 (T := 3) (v := .int .i64 f.editor) (by kernel_rfl) ?_
    obtain ⟨r51, hq, H⟩ := H
    refine AtF.call 58 ⟨[.int .i64 f.editor, .int .i64 (1 : Int), .int .i64 (5 : Int)]⟩ (fun W => by kernel_rfl) (by kernel_rfl) hq ?_
    refine AtF.pu ?_
    refine AtF.done (by kernel_rfl) ?_
    refine AtM.store _ 2 0 (T := 28) (v := .agg (usedA4 f)) rfl (by kernel_rfl) ?_
    refine AtM.done _ (by kernel_rfl) rfl ?_
    refine AtD.norm (e' := [(2, .pointer (some ⟨B4, 0, none⟩)), (72, .bool r51)]) (L' := (usedH6 B3 f ftp ftc fbp fbc fap fac B5 B4)) ?_ (by kernel_rfl)
    refine AtD.tail (by kernel_rfl) ?_
    refine AtE.ru 2 ?_
    exact AtE.retR Tryz.func59 (by kernel_rfl) (ResOk.ct (a := 2) (b := 3) (T := 28) (u := .agg (usedA4 f)) (v := .bool r51) 2 0 (by kernel_rfl) (by kernel_rfl)) H
   ·replace H := H.2 h5'
    refine AtF.skip (by kernel_rfl) ?_
    refine AtF.skip (by kernel_rfl) ?_
    refine AtF.skip (by kernel_rfl) ?_
    refine AtF.pu ?_
    refine AtF.done (by kernel_rfl) ?_
    refine AtM.store _ 2 0 (T := 28) (v := .agg (usedA4 f)) rfl (by kernel_rfl) ?_
    refine AtM.done _ (by kernel_rfl) rfl ?_
    refine AtD.norm (e' := [(2, .pointer (some ⟨B4, 0, none⟩)), (72, .bool false)]) (L' := (usedH6 B3 f ftp ftc fbp fbc fap fac B5 B4)) ?_ (by kernel_rfl)
    refine AtD.tail (by kernel_rfl) ?_
    refine AtE.ru 2 ?_
    exact AtE.retR Tryz.func59 (by kernel_rfl) (ResOk.ct (a := 2) (b := 3) (T := 28) (u := .agg (usedA4 f)) (v := .bool false) 2 0 (by kernel_rfl) (by kernel_rfl)) H
  ·replace H := H.2 h4'
   refine AtE.ru 6 ?_
   refine AtE.splitP 73 (p := f.kind = (3 : Int)) (by kernel_rfl) (fun h6' => ?_) (fun h6' => ?_)
   ·replace H := H.1 h6'
    refine AtE.ru 4 ?_
    refine AtE.load 0 11 (T := 26) (v := .agg (usedA11 f fap fac)) (by kernel_rfl) ?_
    refine AtE.ru 1 ?_
    refine AtE.store 2 11 (T := 26) (v := .agg (usedA11 f fap fac)) (by kernel_rfl) ?_
    refine AtE.ru 2 ?_
    refine AtE.norm (k' := [.code (sub (Eng.body Tryz.f59) [1,1,1,1,0,1,0,1,1,1,1,1,0,1,0]), .code (sub (Eng.body Tryz.f59) [1,1,1,1,0,1,0,1,1,1,1,1,0,1,1]), .inBlock 0, .code (sub (Eng.body Tryz.f59) [1,1,1,1,1])]) (e' := [(1, .pointer (some ⟨B3, 0, none⟩)), (2, .pointer (some ⟨B4, 0, none⟩)), (4, .pointer (some ⟨B5, 0, none⟩)), (5, .bool story)]) (L' := [(B3, .cells (usedA0 f ftp ftc fbp fbc fap fac) 28), (B4, .cells usedA2 28), (B5, .cells (usedA3 f fap fac) 28)]) ?_ (by kernel_rfl)
    refine AtE.cut [0,2,1] (k' := [.code (sub (Eng.body Tryz.f59) [1,1,1,1,0,1,0,1,1,1,1,1,0,1,0]), .code (sub (Eng.body Tryz.f59) [1,1,1,1,0,1,0,1,1,1,1,1,0,1,1]), .inBlock 0, .code (sub (Eng.body Tryz.f59) [1,1,1,1,1])]) (e' := [(1, .pointer (some ⟨B3, 0, none⟩)), (2, .pointer (some ⟨B4, 0, none⟩)), (4, .pointer (some ⟨B5, 0, none⟩)), (5, .bool story)]) (L' := (usedH15 B3 f ftp ftc fbp fbc fap fac B5 B4)) ?_ (by kernel_rfl)
    refine AtE.drawD (by kernel_rfl) ?_
    refine AtD.norm (e' := [(1, .pointer (some ⟨B3, 0, none⟩)), (2, .pointer (some ⟨B4, 0, none⟩)), (4, .pointer (some ⟨B5, 0, none⟩)), (5, .bool story)]) (L' := (usedH15 B3 f ftp ftc fbp fbc fap fac B5 B4)) ?_ (by kernel_rfl)
    refine AtD.phase 8 [0,1,2,3,4,5,6] [7] (usedH25 B3 f ftp ftc fbp fbc fap fac B5) (by kernel_rfl) rfl ?_
    refine AtF.load 1 0 (T := 28) (v := .agg (usedA3 f fap fac)) (by kernel_rfl) ?_
    refine AtF.pu ?_
    refine AtF.pu ?_
    refine AtF.split 80 (b := story) (by kernel_rfl) (fun h7' => ?_) (fun h7' => ?_)
    ·replace H := H.1 h7'
     refine AtF.pu ?_
     refine AtF.load 0 11 (T := 26) (v := .agg (usedA11 f fap fac)) (by kernel_rfl) ?_
     obtain ⟨r61, hq, H⟩ := H
     refine AtF.call 102 ⟨[.agg (usedA11 f fap fac)]⟩ (fun W => by kernel_rfl) (by kernel_rfl) hq ?_
     refine AtF.pu ?_
     refine AtF.done (by kernel_rfl) ?_
     refine AtM.store _ 2 0 (T := 28) (v := .agg (usedA3 f fap fac)) rfl (by kernel_rfl) ?_
     refine AtM.done _ (by kernel_rfl) rfl ?_
     refine AtD.norm (e' := [(2, .pointer (some ⟨B4, 0, none⟩)), (84, .bool r61)]) (L' := (usedH4 B3 f ftp ftc fbp fbc fap fac B5 B4)) ?_ (by kernel_rfl)
     refine AtD.tail (by kernel_rfl) ?_
     refine AtE.ru 2 ?_
     exact AtE.retR Tryz.func59 (by kernel_rfl) (ResOk.ct (a := 2) (b := 3) (T := 28) (u := .agg (usedA3 f fap fac)) (v := .bool r61) 2 0 (by kernel_rfl) (by kernel_rfl)) H
    ·replace H := H.2 h7'
     refine AtF.skip (by kernel_rfl) ?_
     refine AtF.skip (by kernel_rfl) ?_
     refine AtF.skip (by kernel_rfl) ?_
     refine AtF.pu ?_
     refine AtF.done (by kernel_rfl) ?_
     refine AtM.store _ 2 0 (T := 28) (v := .agg (usedA3 f fap fac)) rfl (by kernel_rfl) ?_
     refine AtM.done _ (by kernel_rfl) rfl ?_
     refine AtD.norm (e' := [(2, .pointer (some ⟨B4, 0, none⟩)), (84, .bool false)]) (L' := (usedH4 B3 f ftp ftc fbp fbc fap fac B5 B4)) ?_ (by kernel_rfl)
     refine AtD.tail (by kernel_rfl) ?_
     refine AtE.ru 2 ?_
     exact AtE.retR Tryz.func59 (by kernel_rfl) (ResOk.ct (a := 2) (b := 3) (T := 28) (u := .agg (usedA3 f fap fac)) (v := .bool false) 2 0 (by kernel_rfl) (by kernel_rfl)) H
   ·replace H := H.2 h6'
    refine AtE.ru 6 ?_
    refine AtE.splitP 85 (p := f.kind = (4 : Int)) (by kernel_rfl) (fun h8' => ?_) (fun h8' => ?_)
    ·replace H := H.1 h8'
     refine AtE.ru 2 ?_
     refine AtE.norm (k' := [.code (sub (Eng.body Tryz.f59) [1,1,1,1,0,1,0,1,1,1,1,1,1,1,0,0]), .code (sub (Eng.body Tryz.f59) [1,1,1,1,0,1,0,1,1,1,1,1,1,1,0,1]), .inBlock 0, .code (sub (Eng.body Tryz.f59) [1,1,1,1,1])]) (e' := [(1, .pointer (some ⟨B3, 0, none⟩)), (2, .pointer (some ⟨B4, 0, none⟩)), (4, .pointer (some ⟨B5, 0, none⟩)), (5, .bool story)]) (L' := (usedH0 B3 f ftp ftc fbp fbc fap fac B4 B5)) ?_ (by kernel_rfl)
     refine AtE.drawD (by kernel_rfl) ?_
     refine AtD.norm (e' := [(1, .pointer (some ⟨B3, 0, none⟩)), (2, .pointer (some ⟨B4, 0, none⟩)), (4, .pointer (some ⟨B5, 0, none⟩)), (5, .bool story)]) (L' := (usedH0 B3 f ftp ftc fbp fbc fap fac B4 B5)) ?_ (by kernel_rfl)
     refine AtD.phase 16 [0,1,2,3,4,5,6,7,8] [9,10,11,12,13,14,15] (usedH2 B3 f ftp ftc fbp fbc fap fac B4) (by kernel_rfl) rfl ?_
     refine AtF.pu ?_
     refine AtF.load 0 4 (T := 9) (v := .string f.lang) (by kernel_rfl) ?_
     refine AtF.pu ?_
     refine AtF.load 0 16 (T := 3) (v := .int .i64 f.block) (by kernel_rfl) ?_
     refine AtF.pu ?_
     refine AtF.load 0 17 (T := 3) (v := .int .i64 f.sentence) (by kernel_rfl) ?_
     refine AtF.pu ?_
     refine AtF.load 0 18 (T := 9) (v := .string f.text) (by kernel_rfl) ?_
     refine AtF.pu ?_
     refine AtF.done (by kernel_rfl) ?_
     refine AtM.store _ 2 4 (T := 9) (v := .string f.lang) rfl (by kernel_rfl) ?_
     refine AtM.pure _ rfl (by kernel_rfl) (fun W => by kernel_rfl) ?_
     refine AtM.store _ 2 16 (T := 3) (v := .int .i64 f.block) rfl (by kernel_rfl) ?_
     refine AtM.pure _ rfl (by kernel_rfl) (fun W => by kernel_rfl) ?_
     refine AtM.store _ 2 17 (T := 3) (v := .int .i64 f.sentence) rfl (by kernel_rfl) ?_
     refine AtM.pure _ rfl (by kernel_rfl) (fun W => by kernel_rfl) ?_
     refine AtM.store _ 2 18 (T := 9) (v := .string f.text) rfl (by kernel_rfl) ?_
     refine AtM.done _ (by kernel_rfl) rfl ?_
     refine AtD.norm (e' := [(1, .pointer (some ⟨B3, 0, none⟩)), (2, .pointer (some ⟨B4, 0, none⟩)), (4, .pointer (some ⟨B5, 0, none⟩)), (5, .bool story)]) (L' := (usedH20 B3 f ftp ftc fbp fbc fap fac B4 B5)) ?_ (by kernel_rfl)
     refine AtD.tail (by kernel_rfl) ?_
     refine AtE.ru 2 ?_
     refine AtE.norm (k' := [.code (sub (Eng.body Tryz.f59) [1,1,1,1,0,1,0,1,1,1,1,1,1,1,0,1,0]), .code (sub (Eng.body Tryz.f59) [1,1,1,1,0,1,0,1,1,1,1,1,1,1,0,1,1]), .inBlock 0, .code (sub (Eng.body Tryz.f59) [1,1,1,1,1])]) (e' := [(1, .pointer (some ⟨B3, 0, none⟩)), (2, .pointer (some ⟨B4, 0, none⟩)), (4, .pointer (some ⟨B5, 0, none⟩)), (5, .bool story)]) (L' := (usedH20 B3 f ftp ftc fbp fbc fap fac B4 B5)) ?_ (by kernel_rfl)
     refine AtE.cut [0,2,1] (k' := [.code (sub (Eng.body Tryz.f59) [1,1,1,1,0,1,0,1,1,1,1,1,1,1,0,1,0]), .code (sub (Eng.body Tryz.f59) [1,1,1,1,0,1,0,1,1,1,1,1,1,1,0,1,1]), .inBlock 0, .code (sub (Eng.body Tryz.f59) [1,1,1,1,1])]) (e' := [(1, .pointer (some ⟨B3, 0, none⟩)), (2, .pointer (some ⟨B4, 0, none⟩)), (4, .pointer (some ⟨B5, 0, none⟩)), (5, .bool story)]) (L' := (usedH21 B3 f ftp ftc fbp fbc fap fac B5 B4)) ?_ (by kernel_rfl)
     refine AtE.drawD (by kernel_rfl) ?_
     refine AtD.norm (e' := [(1, .pointer (some ⟨B3, 0, none⟩)), (2, .pointer (some ⟨B4, 0, none⟩)), (4, .pointer (some ⟨B5, 0, none⟩)), (5, .bool story)]) (L' := (usedH21 B3 f ftp ftc fbp fbc fap fac B5 B4)) ?_ (by kernel_rfl)
     refine AtD.phase 7 [0,1,2,3,4,5] [6] (usedH28 B3 f ftp ftc fbp fbc fap fac B5) (by kernel_rfl) rfl ?_
     refine AtF.load 1 0 (T := 28) (v := .agg (usedA9 f)) (by kernel_rfl) ?_
     refine AtF.pu ?_
     refine AtF.pu ?_
     refine AtF.split 101 (b := story) (by kernel_rfl) (fun h9' => ?_) (fun h9' => ?_)
     ·replace H := H.1 h9'
      refine AtF.load 0 0 (T := 28) (v := .agg (usedA0 f ftp ftc fbp fbc fap fac)) (by kernel_rfl) ?_
      obtain ⟨r71, hq, H⟩ := H
      refine AtF.call 103 ⟨[.agg (usedA0 f ftp ftc fbp fbc fap fac)]⟩ (fun W => by kernel_rfl) (by kernel_rfl) hq ?_
      refine AtF.pu ?_
      refine AtF.done (by kernel_rfl) ?_
      refine AtM.store _ 2 0 (T := 28) (v := .agg (usedA9 f)) rfl (by kernel_rfl) ?_
      refine AtM.done _ (by kernel_rfl) rfl ?_
      refine AtD.norm (e' := [(2, .pointer (some ⟨B4, 0, none⟩)), (104, .bool r71)]) (L' := (usedH8 B3 f ftp ftc fbp fbc fap fac B5 B4)) ?_ (by kernel_rfl)
      refine AtD.tail (by kernel_rfl) ?_
      refine AtE.ru 2 ?_
      exact AtE.retR Tryz.func59 (by kernel_rfl) (ResOk.ct (a := 2) (b := 3) (T := 28) (u := .agg (usedA9 f)) (v := .bool r71) 2 0 (by kernel_rfl) (by kernel_rfl)) H
     ·replace H := H.2 h9'
      refine AtF.skip (by kernel_rfl) ?_
      refine AtF.skip (by kernel_rfl) ?_
      refine AtF.pu ?_
      refine AtF.done (by kernel_rfl) ?_
      refine AtM.store _ 2 0 (T := 28) (v := .agg (usedA9 f)) rfl (by kernel_rfl) ?_
      refine AtM.done _ (by kernel_rfl) rfl ?_
      refine AtD.norm (e' := [(2, .pointer (some ⟨B4, 0, none⟩)), (104, .bool false)]) (L' := (usedH8 B3 f ftp ftc fbp fbc fap fac B5 B4)) ?_ (by kernel_rfl)
      refine AtD.tail (by kernel_rfl) ?_
      refine AtE.ru 2 ?_
      exact AtE.retR Tryz.func59 (by kernel_rfl) (ResOk.ct (a := 2) (b := 3) (T := 28) (u := .agg (usedA9 f)) (v := .bool false) 2 0 (by kernel_rfl) (by kernel_rfl)) H
    ·replace H := H.2 h8'
     refine AtE.ru 6 ?_
     refine AtE.splitP 105 (p := f.kind = (5 : Int)) (by kernel_rfl) (fun h10' => ?_) (fun h10' => ?_)
     ·replace H := H.1 h10'
      refine AtE.ru 4 ?_
      refine AtE.load 0 18 (T := 9) (v := .string f.text) (by kernel_rfl) ?_
      refine AtE.norm (k' := [.inRegion (regOps [.code (sub (Eng.body Tryz.f59) [1,1,1,1,0,1,0,1,1,1,1,1,1,1,1,1,0,0])]) [2,3], .code (sub (Eng.body Tryz.f59) [1,1,1,1,0,1,0,1,1,1,1,1,1,1,1,1,0,1]), .inBlock 0, .code (sub (Eng.body Tryz.f59) [1,1,1,1,1])]) (e' := [(1, .pointer (some ⟨B3, 0, none⟩)), (2, .pointer (some ⟨B4, 0, none⟩)), (4, .pointer (some ⟨B5, 0, none⟩)), (5, .bool story), (108, .string f.text)]) (L' := (usedH0 B3 f ftp ftc fbp fbc fap fac B4 B5)) ?_ (by kernel_rfl)
      refine AtE.ru 1 ?_
      refine AtE.store 2 18 (T := 9) (v := .string f.text) (by kernel_rfl) ?_
      refine AtE.ru 2 ?_
      refine AtE.norm (k' := [.code (sub (Eng.body Tryz.f59) [1,1,1,1,0,1,0,1,1,1,1,1,1,1,1,1,0,1,0]), .code (sub (Eng.body Tryz.f59) [1,1,1,1,0,1,0,1,1,1,1,1,1,1,1,1,0,1,1]), .inBlock 0, .code (sub (Eng.body Tryz.f59) [1,1,1,1,1])]) (e' := [(1, .pointer (some ⟨B3, 0, none⟩)), (2, .pointer (some ⟨B4, 0, none⟩)), (4, .pointer (some ⟨B5, 0, none⟩)), (5, .bool story)]) (L' := [(B3, .cells (usedA0 f ftp ftc fbp fbc fap fac) 28), (B4, .cells usedA2 28), (B5, .cells (usedA5 f) 28)]) ?_ (by kernel_rfl)
      refine AtE.cut [0,2,1] (k' := [.code (sub (Eng.body Tryz.f59) [1,1,1,1,0,1,0,1,1,1,1,1,1,1,1,1,0,1,0]), .code (sub (Eng.body Tryz.f59) [1,1,1,1,0,1,0,1,1,1,1,1,1,1,1,1,0,1,1]), .inBlock 0, .code (sub (Eng.body Tryz.f59) [1,1,1,1,1])]) (e' := [(1, .pointer (some ⟨B3, 0, none⟩)), (2, .pointer (some ⟨B4, 0, none⟩)), (4, .pointer (some ⟨B5, 0, none⟩)), (5, .bool story)]) (L' := (usedH19 B3 f ftp ftc fbp fbc fap fac B5 B4)) ?_ (by kernel_rfl)
      refine AtE.drawD (by kernel_rfl) ?_
      refine AtD.norm (e' := [(1, .pointer (some ⟨B3, 0, none⟩)), (2, .pointer (some ⟨B4, 0, none⟩)), (4, .pointer (some ⟨B5, 0, none⟩)), (5, .bool story)]) (L' := (usedH19 B3 f ftp ftc fbp fbc fap fac B5 B4)) ?_ (by kernel_rfl)
      refine AtD.phase 8 [0,1,2,3,4,5,6] [7] (usedH27 B3 f ftp ftc fbp fbc fap fac B5) (by kernel_rfl) rfl ?_
      refine AtF.load 1 0 (T := 28) (v := .agg (usedA5 f)) (by kernel_rfl) ?_
      refine AtF.pu ?_
      refine AtF.pu ?_
      refine AtF.split 112 (b := story) (by kernel_rfl) (fun h11' => ?_) (fun h11' => ?_)
      ·replace H := H.1 h11'
       refine AtF.pu ?_
       refine AtF.load 0 18 (T := 9) (v := .string f.text) (by kernel_rfl) ?_
       obtain ⟨r81, hq, H⟩ := H
       refine AtF.call 104 ⟨[.string f.text]⟩ (fun W => by kernel_rfl) (by kernel_rfl) hq ?_
       refine AtF.pu ?_
       refine AtF.done (by kernel_rfl) ?_
       refine AtM.store _ 2 0 (T := 28) (v := .agg (usedA5 f)) rfl (by kernel_rfl) ?_
       refine AtM.done _ (by kernel_rfl) rfl ?_
       refine AtD.norm (e' := [(2, .pointer (some ⟨B4, 0, none⟩)), (116, .bool r81)]) (L' := (usedH7 B3 f ftp ftc fbp fbc fap fac B5 B4)) ?_ (by kernel_rfl)
       refine AtD.tail (by kernel_rfl) ?_
       refine AtE.ru 2 ?_
       exact AtE.retR Tryz.func59 (by kernel_rfl) (ResOk.ct (a := 2) (b := 3) (T := 28) (u := .agg (usedA5 f)) (v := .bool r81) 2 0 (by kernel_rfl) (by kernel_rfl)) H
      ·replace H := H.2 h11'
       refine AtF.skip (by kernel_rfl) ?_
       refine AtF.skip (by kernel_rfl) ?_
       refine AtF.skip (by kernel_rfl) ?_
       refine AtF.pu ?_
       refine AtF.done (by kernel_rfl) ?_
       refine AtM.store _ 2 0 (T := 28) (v := .agg (usedA5 f)) rfl (by kernel_rfl) ?_
       refine AtM.done _ (by kernel_rfl) rfl ?_
       refine AtD.norm (e' := [(2, .pointer (some ⟨B4, 0, none⟩)), (116, .bool false)]) (L' := (usedH7 B3 f ftp ftc fbp fbc fap fac B5 B4)) ?_ (by kernel_rfl)
       refine AtD.tail (by kernel_rfl) ?_
       refine AtE.ru 2 ?_
       exact AtE.retR Tryz.func59 (by kernel_rfl) (ResOk.ct (a := 2) (b := 3) (T := 28) (u := .agg (usedA5 f)) (v := .bool false) 2 0 (by kernel_rfl) (by kernel_rfl)) H
     ·replace H := H.2 h10'
      refine AtE.ru 7 ?_
      refine AtE.splitP 117 (p := f.kind = (6 : Int)) (by kernel_rfl) (fun h12' => ?_) (fun h12' => ?_)
      ·replace H := H.1 h12'
       refine AtE.norm (k' := [.code (sub (Eng.body Tryz.f59) [1,1,1,1,0,1,0,1,1,1,1,1,1,1,1,1,1,0,1]), .code (sub (Eng.body Tryz.f59) [1,1,1,1,0,1,0,1,1,1,1,1,1,1,1,1,1,1]), .inBlock 0, .code (sub (Eng.body Tryz.f59) [1,1,1,1,1])]) (e' := [(1, .pointer (some ⟨B3, 0, none⟩)), (2, .pointer (some ⟨B4, 0, none⟩)), (4, .pointer (some ⟨B5, 0, none⟩)), (5, .bool story), (6, .bool partner), (28, .int .i64 f.kind), (117, .bool true)]) (L' := (usedH0 B3 f ftp ftc fbp fbc fap fac B4 B5)) ?_ (by kernel_rfl)
       refine AtE.ru 5 ?_
       refine AtE.load 2 0 (T := 28) (v := .agg (usedA1 f)) (by kernel_rfl) ?_
       refine AtE.ru 1 ?_
       refine AtE.store 1 0 (T := 28) (v := .agg (usedA1 f)) (by kernel_rfl) ?_
       refine AtE.ru 2 ?_
       exact AtE.retR Tryz.func59 (by kernel_rfl) (ResOk.ct (a := 2) (b := 3) (T := 28) (u := .agg (usedA1 f)) (v := .bool story) 1 0 (by kernel_rfl) (by kernel_rfl)) H
      ·replace H := H.2 h12'
       refine AtE.norm (k' := [.code (sub (Eng.body Tryz.f59) [1,1,1,1,0,1,0,1,1,1,1,1,1,1,1,1,1,0,1]), .code (sub (Eng.body Tryz.f59) [1,1,1,1,0,1,0,1,1,1,1,1,1,1,1,1,1,1]), .inBlock 0, .code (sub (Eng.body Tryz.f59) [1,1,1,1,1])]) (e' := [(1, .pointer (some ⟨B3, 0, none⟩)), (2, .pointer (some ⟨B4, 0, none⟩)), (4, .pointer (some ⟨B5, 0, none⟩)), (5, .bool story), (6, .bool partner), (28, .int .i64 f.kind), (117, .bool false)]) (L' := (usedH0 B3 f ftp ftc fbp fbc fap fac B4 B5)) ?_ (by kernel_rfl)
       refine AtE.ru 5 ?_
       refine AtE.splitP 117 (p := f.kind = (10 : Int)) (by kernel_rfl) (fun h13' => ?_) (fun h13' => ?_)
       ·replace H := H.1 h13'
        refine AtE.ru 3 ?_
        refine AtE.load 2 0 (T := 28) (v := .agg (usedA1 f)) (by kernel_rfl) ?_
        refine AtE.ru 1 ?_
        refine AtE.store 1 0 (T := 28) (v := .agg (usedA1 f)) (by kernel_rfl) ?_
        refine AtE.ru 2 ?_
        exact AtE.retR Tryz.func59 (by kernel_rfl) (ResOk.ct (a := 2) (b := 3) (T := 28) (u := .agg (usedA1 f)) (v := .bool story) 1 0 (by kernel_rfl) (by kernel_rfl)) H
       ·replace H := H.2 h13'
        refine AtE.ru 6 ?_
        refine AtE.splitP 122 (p := f.kind = (7 : Int)) (by kernel_rfl) (fun h14' => ?_) (fun h14' => ?_)
        ·replace H := H.1 h14'
         refine AtE.ru 2 ?_
         refine AtE.norm (k' := [.code (sub (Eng.body Tryz.f59) [1,1,1,1,0,1,0,1,1,1,1,1,1,1,1,1,1,1,1,1,0,0]), .code (sub (Eng.body Tryz.f59) [1,1,1,1,0,1,0,1,1,1,1,1,1,1,1,1,1,1,1,1,0,1]), .inBlock 0, .code (sub (Eng.body Tryz.f59) [1,1,1,1,1])]) (e' := [(1, .pointer (some ⟨B3, 0, none⟩)), (2, .pointer (some ⟨B4, 0, none⟩)), (4, .pointer (some ⟨B5, 0, none⟩))]) (L' := (usedH0 B3 f ftp ftc fbp fbc fap fac B4 B5)) ?_ (by kernel_rfl)
         refine AtE.drawD (by kernel_rfl) ?_
         refine AtD.norm (e' := [(1, .pointer (some ⟨B3, 0, none⟩)), (2, .pointer (some ⟨B4, 0, none⟩)), (4, .pointer (some ⟨B5, 0, none⟩))]) (L' := (usedH0 B3 f ftp ftc fbp fbc fap fac B4 B5)) ?_ (by kernel_rfl)
         refine AtD.phase 10 [0,1,2,3,4] [5,6,7,8,9] (usedH2 B3 f ftp ftc fbp fbc fap fac B4) (by kernel_rfl) rfl ?_
         refine AtF.pu ?_
         refine AtF.load 0 19 (T := 9) (v := .string f.name) (by kernel_rfl) ?_
         refine AtF.pu ?_
         refine AtF.load 0 18 (T := 9) (v := .string f.text) (by kernel_rfl) ?_
         refine AtF.pu ?_
         refine AtF.done (by kernel_rfl) ?_
         refine AtM.store _ 2 3 (T := 3) (v := .int .i64 (0 : Int)) rfl (by kernel_rfl) ?_
         refine AtM.pure _ rfl (by kernel_rfl) (fun W => by kernel_rfl) ?_
         refine AtM.store _ 2 19 (T := 9) (v := .string f.name) rfl (by kernel_rfl) ?_
         refine AtM.pure _ rfl (by kernel_rfl) (fun W => by kernel_rfl) ?_
         refine AtM.store _ 2 18 (T := 9) (v := .string f.text) rfl (by kernel_rfl) ?_
         refine AtM.done _ (by kernel_rfl) rfl ?_
         refine AtD.norm (e' := [(1, .pointer (some ⟨B3, 0, none⟩)), (2, .pointer (some ⟨B4, 0, none⟩)), (4, .pointer (some ⟨B5, 0, none⟩))]) (L' := (usedH16 B3 f ftp ftc fbp fbc fap fac B4 B5)) ?_ (by kernel_rfl)
         refine AtD.tail (by kernel_rfl) ?_
         refine AtE.ru 2 ?_
         refine AtE.norm (k' := [.code (sub (Eng.body Tryz.f59) [1,1,1,1,0,1,0,1,1,1,1,1,1,1,1,1,1,1,1,1,0,1,0]), .code (sub (Eng.body Tryz.f59) [1,1,1,1,0,1,0,1,1,1,1,1,1,1,1,1,1,1,1,1,0,1,1]), .inBlock 0, .code (sub (Eng.body Tryz.f59) [1,1,1,1,1])]) (e' := [(1, .pointer (some ⟨B3, 0, none⟩)), (2, .pointer (some ⟨B4, 0, none⟩)), (4, .pointer (some ⟨B5, 0, none⟩))]) (L' := (usedH16 B3 f ftp ftc fbp fbc fap fac B4 B5)) ?_ (by kernel_rfl)
         refine AtE.cut [0,2,1] (k' := [.code (sub (Eng.body Tryz.f59) [1,1,1,1,0,1,0,1,1,1,1,1,1,1,1,1,1,1,1,1,0,1,0]), .code (sub (Eng.body Tryz.f59) [1,1,1,1,0,1,0,1,1,1,1,1,1,1,1,1,1,1,1,1,0,1,1]), .inBlock 0, .code (sub (Eng.body Tryz.f59) [1,1,1,1,1])]) (e' := [(1, .pointer (some ⟨B3, 0, none⟩)), (2, .pointer (some ⟨B4, 0, none⟩)), (4, .pointer (some ⟨B5, 0, none⟩))]) (L' := (usedH17 B3 f ftp ftc fbp fbc fap fac B5 B4)) ?_ (by kernel_rfl)
         refine AtE.drawD (by kernel_rfl) ?_
         refine AtD.norm (e' := [(1, .pointer (some ⟨B3, 0, none⟩)), (2, .pointer (some ⟨B4, 0, none⟩)), (4, .pointer (some ⟨B5, 0, none⟩))]) (L' := (usedH17 B3 f ftp ftc fbp fbc fap fac B5 B4)) ?_ (by kernel_rfl)
         refine AtD.phase 10 [0,1,2,3,4,5,6,7,8] [9] (usedH12 B3 f ftp ftc fbp fbc fap fac B5) (by kernel_rfl) rfl ?_
         refine AtF.load 1 0 (T := 28) (v := .agg (usedA7 f)) (by kernel_rfl) ?_
         refine AtF.pu ?_
         refine AtF.load 0 19 (T := 9) (v := .string f.name) (by kernel_rfl) ?_
         obtain ⟨r91, hq, H⟩ := H
         refine AtF.call 105 ⟨[.string f.name]⟩ (fun W => by kernel_rfl) (by kernel_rfl) hq ?_
         refine AtF.pu ?_
         refine AtF.split 135 (b := r91) (by kernel_rfl) (fun h15' => ?_) (fun h15' => ?_)
         ·replace H := H.1 h15'
          refine AtF.pu ?_
          refine AtF.load 0 18 (T := 9) (v := .string f.text) (by kernel_rfl) ?_
          obtain ⟨r101, hq, H⟩ := H
          refine AtF.call 106 ⟨[.string f.text]⟩ (fun W => by kernel_rfl) (by kernel_rfl) hq ?_
          refine AtF.pu ?_
          refine AtF.done (by kernel_rfl) ?_
          refine AtM.store _ 2 0 (T := 28) (v := .agg (usedA7 f)) rfl (by kernel_rfl) ?_
          refine AtM.done _ (by kernel_rfl) rfl ?_
          refine AtD.norm (e' := [(2, .pointer (some ⟨B4, 0, none⟩)), (139, .bool r101)]) (L' := (usedH5 B3 f ftp ftc fbp fbc fap fac B5 B4)) ?_ (by kernel_rfl)
          refine AtD.tail (by kernel_rfl) ?_
          refine AtE.ru 2 ?_
          exact AtE.retR Tryz.func59 (by kernel_rfl) (ResOk.ct (a := 2) (b := 3) (T := 28) (u := .agg (usedA7 f)) (v := .bool r101) 2 0 (by kernel_rfl) (by kernel_rfl)) H
         ·replace H := H.2 h15'
          refine AtF.skip (by kernel_rfl) ?_
          refine AtF.skip (by kernel_rfl) ?_
          refine AtF.skip (by kernel_rfl) ?_
          refine AtF.pu ?_
          refine AtF.done (by kernel_rfl) ?_
          refine AtM.store _ 2 0 (T := 28) (v := .agg (usedA7 f)) rfl (by kernel_rfl) ?_
          refine AtM.done _ (by kernel_rfl) rfl ?_
          refine AtD.norm (e' := [(2, .pointer (some ⟨B4, 0, none⟩)), (139, .bool false)]) (L' := (usedH5 B3 f ftp ftc fbp fbc fap fac B5 B4)) ?_ (by kernel_rfl)
          refine AtD.tail (by kernel_rfl) ?_
          refine AtE.ru 2 ?_
          exact AtE.retR Tryz.func59 (by kernel_rfl) (ResOk.ct (a := 2) (b := 3) (T := 28) (u := .agg (usedA7 f)) (v := .bool false) 2 0 (by kernel_rfl) (by kernel_rfl)) H
        ·replace H := H.2 h14'
         refine AtE.ru 6 ?_
         refine AtE.splitP 140 (p := f.kind = (8 : Int)) (by kernel_rfl) (fun h16' => ?_) (fun h16' => ?_)
         ·replace H := H.1 h16'
          refine AtE.ru 2 ?_
          refine AtE.norm (k' := [.code (sub (Eng.body Tryz.f59) [1,1,1,1,0,1,0,1,1,1,1,1,1,1,1,1,1,1,1,1,1,1,0,0]), .code (sub (Eng.body Tryz.f59) [1,1,1,1,0,1,0,1,1,1,1,1,1,1,1,1,1,1,1,1,1,1,0,1]), .inBlock 0, .code (sub (Eng.body Tryz.f59) [1,1,1,1,1])]) (e' := [(1, .pointer (some ⟨B3, 0, none⟩)), (2, .pointer (some ⟨B4, 0, none⟩)), (4, .pointer (some ⟨B5, 0, none⟩)), (6, .bool partner)]) (L' := (usedH0 B3 f ftp ftc fbp fbc fap fac B4 B5)) ?_ (by kernel_rfl)
          refine AtE.drawD (by kernel_rfl) ?_
          refine AtD.norm (e' := [(1, .pointer (some ⟨B3, 0, none⟩)), (2, .pointer (some ⟨B4, 0, none⟩)), (4, .pointer (some ⟨B5, 0, none⟩)), (6, .bool partner)]) (L' := (usedH0 B3 f ftp ftc fbp fbc fap fac B4 B5)) ?_ (by kernel_rfl)
          refine AtD.phase 14 [0,1,2,3,4,5,6] [7,8,9,10,11,12,13] (usedH2 B3 f ftp ftc fbp fbc fap fac B4) (by kernel_rfl) rfl ?_
          refine AtF.pu ?_
          refine AtF.load 0 20 (T := 3) (v := .int .i64 f.partner) (by kernel_rfl) ?_
          refine AtF.pu ?_
          refine AtF.load 0 21 (T := 3) (v := .int .i64 f.cls) (by kernel_rfl) ?_
          refine AtF.pu ?_
          refine AtF.load 0 22 (T := 3) (v := .int .i64 f.unt) (by kernel_rfl) ?_
          refine AtF.pu ?_
          refine AtF.done (by kernel_rfl) ?_
          refine AtM.store _ 2 3 (T := 3) (v := .int .i64 (0 : Int)) rfl (by kernel_rfl) ?_
          refine AtM.pure _ rfl (by kernel_rfl) (fun W => by kernel_rfl) ?_
          refine AtM.store _ 2 20 (T := 3) (v := .int .i64 f.partner) rfl (by kernel_rfl) ?_
          refine AtM.pure _ rfl (by kernel_rfl) (fun W => by kernel_rfl) ?_
          refine AtM.store _ 2 21 (T := 3) (v := .int .i64 f.cls) rfl (by kernel_rfl) ?_
          refine AtM.pure _ rfl (by kernel_rfl) (fun W => by kernel_rfl) ?_
          refine AtM.store _ 2 22 (T := 3) (v := .int .i64 f.unt) rfl (by kernel_rfl) ?_
          refine AtM.done _ (by kernel_rfl) rfl ?_
          refine AtD.norm (e' := [(1, .pointer (some ⟨B3, 0, none⟩)), (2, .pointer (some ⟨B4, 0, none⟩)), (4, .pointer (some ⟨B5, 0, none⟩)), (6, .bool partner)]) (L' := (usedH22 B3 f ftp ftc fbp fbc fap fac B4 B5)) ?_ (by kernel_rfl)
          refine AtD.tail (by kernel_rfl) ?_
          refine AtE.ru 2 ?_
          refine AtE.norm (k' := [.code (sub (Eng.body Tryz.f59) [1,1,1,1,0,1,0,1,1,1,1,1,1,1,1,1,1,1,1,1,1,1,0,1,0]), .code (sub (Eng.body Tryz.f59) [1,1,1,1,0,1,0,1,1,1,1,1,1,1,1,1,1,1,1,1,1,1,0,1,1]), .inBlock 0, .code (sub (Eng.body Tryz.f59) [1,1,1,1,1])]) (e' := [(1, .pointer (some ⟨B3, 0, none⟩)), (2, .pointer (some ⟨B4, 0, none⟩)), (4, .pointer (some ⟨B5, 0, none⟩)), (6, .bool partner)]) (L' := (usedH22 B3 f ftp ftc fbp fbc fap fac B4 B5)) ?_ (by kernel_rfl)
          refine AtE.cut [0,2,1] (k' := [.code (sub (Eng.body Tryz.f59) [1,1,1,1,0,1,0,1,1,1,1,1,1,1,1,1,1,1,1,1,1,1,0,1,0]), .code (sub (Eng.body Tryz.f59) [1,1,1,1,0,1,0,1,1,1,1,1,1,1,1,1,1,1,1,1,1,1,0,1,1]), .inBlock 0, .code (sub (Eng.body Tryz.f59) [1,1,1,1,1])]) (e' := [(1, .pointer (some ⟨B3, 0, none⟩)), (2, .pointer (some ⟨B4, 0, none⟩)), (4, .pointer (some ⟨B5, 0, none⟩)), (6, .bool partner)]) (L' := (usedH23 B3 f ftp ftc fbp fbc fap fac B5 B4)) ?_ (by kernel_rfl)
          refine AtE.drawD (by kernel_rfl) ?_
          refine AtD.norm (e' := [(1, .pointer (some ⟨B3, 0, none⟩)), (2, .pointer (some ⟨B4, 0, none⟩)), (4, .pointer (some ⟨B5, 0, none⟩)), (6, .bool partner)]) (L' := (usedH23 B3 f ftp ftc fbp fbc fap fac B5 B4)) ?_ (by kernel_rfl)
          refine AtD.phase 8 [0,1,2,3,4,5,6] [7] (usedH29 B3 f ftp ftc fbp fbc fap fac B5) (by kernel_rfl) rfl ?_
          refine AtF.load 1 0 (T := 28) (v := .agg (usedA10 f)) (by kernel_rfl) ?_
          refine AtF.pu ?_
          refine AtF.pu ?_
          refine AtF.split 154 (b := partner) (by kernel_rfl) (fun h17' => ?_) (fun h17' => ?_)
          ·replace H := H.1 h17'
           refine AtF.pu ?_
           refine AtF.load 0 21 (T := 3) (v := .int .i64 f.cls) (by kernel_rfl) ?_
           obtain ⟨r111, hq, H⟩ := H
           refine AtF.call 58 ⟨[.int .i64 f.cls, .int .i64 (0 : Int), .int .i64 (3 : Int)]⟩ (fun W => by kernel_rfl) (by kernel_rfl) hq ?_
           refine AtF.pu ?_
           refine AtF.done (by kernel_rfl) ?_
           refine AtM.store _ 2 0 (T := 28) (v := .agg (usedA10 f)) rfl (by kernel_rfl) ?_
           refine AtM.done _ (by kernel_rfl) rfl ?_
           refine AtD.norm (e' := [(2, .pointer (some ⟨B4, 0, none⟩)), (158, .bool r111)]) (L' := (usedH9 B3 f ftp ftc fbp fbc fap fac B5 B4)) ?_ (by kernel_rfl)
           refine AtD.tail (by kernel_rfl) ?_
           refine AtE.ru 2 ?_
           exact AtE.retR Tryz.func59 (by kernel_rfl) (ResOk.ct (a := 2) (b := 3) (T := 28) (u := .agg (usedA10 f)) (v := .bool r111) 2 0 (by kernel_rfl) (by kernel_rfl)) H
          ·replace H := H.2 h17'
           refine AtF.skip (by kernel_rfl) ?_
           refine AtF.skip (by kernel_rfl) ?_
           refine AtF.skip (by kernel_rfl) ?_
           refine AtF.pu ?_
           refine AtF.done (by kernel_rfl) ?_
           refine AtM.store _ 2 0 (T := 28) (v := .agg (usedA10 f)) rfl (by kernel_rfl) ?_
           refine AtM.done _ (by kernel_rfl) rfl ?_
           refine AtD.norm (e' := [(2, .pointer (some ⟨B4, 0, none⟩)), (158, .bool false)]) (L' := (usedH9 B3 f ftp ftc fbp fbc fap fac B5 B4)) ?_ (by kernel_rfl)
           refine AtD.tail (by kernel_rfl) ?_
           refine AtE.ru 2 ?_
           exact AtE.retR Tryz.func59 (by kernel_rfl) (ResOk.ct (a := 2) (b := 3) (T := 28) (u := .agg (usedA10 f)) (v := .bool false) 2 0 (by kernel_rfl) (by kernel_rfl)) H
         ·replace H := H.2 h16'
          refine AtE.ru 6 ?_
          refine AtE.splitP 159 (p := f.kind = (9 : Int)) (by kernel_rfl) (fun h18' => ?_) (fun h18' => ?_)
          ·replace H := H.1 h18'
           refine AtE.ru 2 ?_
           refine AtE.norm (k' := [.code (sub (Eng.body Tryz.f59) [1,1,1,1,0,1,0,1,1,1,1,1,1,1,1,1,1,1,1,1,1,1,1,1,0,0]), .code (sub (Eng.body Tryz.f59) [1,1,1,1,0,1,0,1,1,1,1,1,1,1,1,1,1,1,1,1,1,1,1,1,0,1]), .inBlock 0, .code (sub (Eng.body Tryz.f59) [1,1,1,1,1])]) (e' := [(1, .pointer (some ⟨B3, 0, none⟩)), (2, .pointer (some ⟨B4, 0, none⟩)), (4, .pointer (some ⟨B5, 0, none⟩)), (6, .bool partner)]) (L' := (usedH0 B3 f ftp ftc fbp fbc fap fac B4 B5)) ?_ (by kernel_rfl)
           refine AtE.drawD (by kernel_rfl) ?_
           refine AtD.norm (e' := [(1, .pointer (some ⟨B3, 0, none⟩)), (2, .pointer (some ⟨B4, 0, none⟩)), (4, .pointer (some ⟨B5, 0, none⟩)), (6, .bool partner)]) (L' := (usedH0 B3 f ftp ftc fbp fbc fap fac B4 B5)) ?_ (by kernel_rfl)
           refine AtD.phase 10 [0,1,2,3,4] [5,6,7,8,9] (usedH2 B3 f ftp ftc fbp fbc fap fac B4) (by kernel_rfl) rfl ?_
           refine AtF.pu ?_
           refine AtF.load 0 20 (T := 3) (v := .int .i64 f.partner) (by kernel_rfl) ?_
           refine AtF.pu ?_
           refine AtF.load 0 22 (T := 3) (v := .int .i64 f.unt) (by kernel_rfl) ?_
           refine AtF.pu ?_
           refine AtF.done (by kernel_rfl) ?_
           refine AtM.store _ 2 3 (T := 3) (v := .int .i64 (0 : Int)) rfl (by kernel_rfl) ?_
           refine AtM.pure _ rfl (by kernel_rfl) (fun W => by kernel_rfl) ?_
           refine AtM.store _ 2 20 (T := 3) (v := .int .i64 f.partner) rfl (by kernel_rfl) ?_
           refine AtM.pure _ rfl (by kernel_rfl) (fun W => by kernel_rfl) ?_
           refine AtM.store _ 2 22 (T := 3) (v := .int .i64 f.unt) rfl (by kernel_rfl) ?_
           refine AtM.done _ (by kernel_rfl) rfl ?_
           refine AtD.norm (e' := [(2, .pointer (some ⟨B4, 0, none⟩)), (4, .pointer (some ⟨B5, 0, none⟩)), (6, .bool partner)]) (L' := [(B3, .cells (usedA0 f ftp ftc fbp fbc fap fac) 28), (B4, .cells usedA2 28), (B5, .cells (usedA8 f) 28)]) ?_ (by kernel_rfl)
           refine AtD.tail (by kernel_rfl) ?_
           refine AtE.ru 3 ?_
           refine AtE.load 2 0 (T := 28) (v := .agg (usedA8 f)) (by kernel_rfl) ?_
           refine AtE.ru 1 ?_
           refine AtE.store 1 0 (T := 28) (v := .agg (usedA8 f)) (by kernel_rfl) ?_
           refine AtE.ru 2 ?_
           exact AtE.retR Tryz.func59 (by kernel_rfl) (ResOk.ct (a := 2) (b := 3) (T := 28) (u := .agg (usedA8 f)) (v := .bool partner) 1 0 (by kernel_rfl) (by kernel_rfl)) H
          ·replace H := H.2 h18'
           refine AtE.ru 5 ?_
           refine AtE.load 2 0 (T := 28) (v := .agg (usedA1 f)) (by kernel_rfl) ?_
           refine AtE.store 1 0 (T := 28) (v := .agg (usedA1 f)) (by kernel_rfl) ?_
           refine AtE.ru 2 ?_
           exact AtE.retR Tryz.func59 (by kernel_rfl) (ResOk.ct (a := 2) (b := 3) (T := 28) (u := .agg (usedA1 f)) (v := .bool false) 1 0 (by kernel_rfl) (by kernel_rfl)) H
theorem used_vc (f : Fct) (ftp : Option Addr) (ftc : Nat) (fbp : Option Addr) (fbc : Nat) (fap : Option Addr) (fac : Nat) {R : Ending → World → Prop} {w0 W : World} (hm : Mem [] [] w0 W)
  (H :
   ∀ B : Nat,
   ∀ B1 : Nat,
   ∀ B2 : Nat,
   CallH Tryz.prog 58 ⟨[.int .i64 f.story, .int .i64 (1 : Int), .int .i64 (64 : Int)]⟩ (usedH1 B f ftp ftc fbp fbc fap fac B1 B2) [] w0 (fun v L' => ∃ (r1 : Bool), v = (.bool r1) ∧ L' = (usedH1 B f ftp ftc fbp fbc fap fac B1 B2) ∧
    CallH Tryz.prog 58 ⟨[.int .i64 f.partner, .int .i64 (1 : Int), .int .i64 (8 : Int)]⟩ (usedH1 B f ftp ftc fbp fbc fap fac B1 B2) [] w0 (fun v L' => ∃ (r21 : Bool), v = (.bool r21) ∧ L' = (usedH1 B f ftp ftc fbp fbc fap fac B1 B2) ∧
     ((r21 = true) →
      CallH Tryz.prog 58 ⟨[.int .i64 f.unt, .int .i64 (0 : Int), .int .i64 (1000000000 : Int)]⟩ (usedH1 B f ftp ftc fbp fbc fap fac B1 B2) [] w0 (fun v L' => ∃ (r31 : Bool), v = (.bool r31) ∧ L' = (usedH1 B f ftp ftc fbp fbc fap fac B1 B2) ∧
       used_c0 f ftp ftc fbp fbc fap fac B B1 B2 r1 r31 w0 R)) ∧
      ((r21 = false) →
      used_c0 f ftp ftc fbp fbc fap fac B B1 B2 r1 false w0 R)))) :
  Calls Tryz.prog 59 ⟨[.agg (usedA0 f ftp ftc fbp fbc fap fac)]⟩ W R := by
 refine AtE.calls (nt := 171) Tryz.func59 (by kernel_rfl) hm ?_
 refine AtE.ru 2 ?_
 refine AtE.new (fun B => .pointer (some ⟨B, 0, none⟩)) (.cells (usedA0 f ftp ftc fbp fbc fap fac) 28) (fun W => by kernel_rfl) (by kernel_rfl) (fun B => ?_)
 replace H := H B
 refine AtE.new (fun B => .pointer (some ⟨B, 0, none⟩)) (.cells usedA2 28) (fun W => by kernel_rfl) (by kernel_rfl) (fun B1 => ?_)
 replace H := H B1
 refine AtE.ru 5 ?_
 refine AtE.load 0 0 (T := 3) (v := .int .i64 f.n) (by kernel_rfl) ?_
 refine AtE.ru 1 ?_
 refine AtE.load 0 1 (T := 3) (v := .int .i64 f.time) (by kernel_rfl) ?_
 refine AtE.ru 1 ?_
 refine AtE.load 0 2 (T := 3) (v := .int .i64 f.kind) (by kernel_rfl) ?_
 refine AtE.ru 1 ?_
 refine AtE.load 0 3 (T := 3) (v := .int .i64 f.story) (by kernel_rfl) ?_
 refine AtE.ru 1 ?_
 refine AtE.new (fun B => .pointer (some ⟨B, 0, none⟩)) (.cells usedA2 28) (fun W => by kernel_rfl) (by kernel_rfl) (fun B2 => ?_)
 replace H := H B2
 refine AtE.norm (k' := [.inRegion (regOps [.code (sub (Eng.body Tryz.f59) [1,0])]) [10], .code (sub (Eng.body Tryz.f59) [1,1])]) (e' := [(1, .pointer (some ⟨B, 0, none⟩)), (2, .pointer (some ⟨B1, 0, none⟩)), (4, .pointer (some ⟨B2, 0, none⟩)), (15, .agg (usedA1 f))]) (L' := [(B, .cells (usedA0 f ftp ftc fbp fbc fap fac) 28), (B1, .cells usedA2 28), (B2, .cells usedA2 28)]) ?_ (by kernel_rfl)
 refine AtE.store 2 0 (T := 28) (v := .agg (usedA1 f)) (by kernel_rfl) ?_
 refine AtE.ru 4 ?_
 refine AtE.load 0 3 (T := 3) (v := .int .i64 f.story) (by kernel_rfl) ?_
 refine AtE.call 58 ⟨[.int .i64 f.story, .int .i64 (1 : Int), .int .i64 (64 : Int)]⟩ (fun W => by kernel_rfl) (by kernel_rfl) H ?_
 clear H
 rintro _ _ ⟨r1, rfl, rfl, H⟩
 refine AtE.ru 5 ?_
 refine AtE.load 0 20 (T := 3) (v := .int .i64 f.partner) (by kernel_rfl) ?_
 refine AtE.call 58 ⟨[.int .i64 f.partner, .int .i64 (1 : Int), .int .i64 (8 : Int)]⟩ (fun W => by kernel_rfl) (by kernel_rfl) H ?_
 clear H
 rintro _ _ ⟨r21, rfl, rfl, H⟩
 refine AtE.ru 1 ?_
 refine AtE.split 22 (b := r21) (by kernel_rfl) (fun h1' => ?_) (fun h1' => ?_)
 ·replace H := H.1 h1'
  refine AtE.ru 1 ?_
  refine AtE.load 0 22 (T := 3) (v := .int .i64 f.unt) (by kernel_rfl) ?_
  refine AtE.norm (k' := [.inRegion (regOps [.code (sub (Eng.body Tryz.f59) [1,1,1,0])]) [6,7,8], .code (sub (Eng.body Tryz.f59) [1,1,1,1])]) (e' := [(1, .pointer (some ⟨B, 0, none⟩)), (2, .pointer (some ⟨B1, 0, none⟩)), (4, .pointer (some ⟨B2, 0, none⟩)), (5, .bool r1), (22, .bool true), (24, .int .i64 f.unt)]) (L' := (usedH1 B f ftp ftc fbp fbc fap fac B1 B2)) ?_ (by kernel_rfl)
  refine AtE.call 58 ⟨[.int .i64 f.unt, .int .i64 (0 : Int), .int .i64 (1000000000 : Int)]⟩ (fun W => by kernel_rfl) (by kernel_rfl) H ?_
  clear H
  rintro _ _ ⟨r31, rfl, rfl, H⟩
  refine AtE.ru 4 ?_
  exact AtE.cut [0,1,2] H (by kernel_rfl)
 ·replace H := H.2 h1'
  refine AtE.ru 7 ?_
  exact AtE.cut [0,1,2] H (by kernel_rfl)
theorem within_vc (n : Int) (least : Int) (greatest : Int) {R : Ending → World → Prop} {w0 W : World} (hm : Mem [] [] w0 W)
  (H :
   ((least ≤ n) →
    Fin R [] [] w0 (.bool (decide (n ≤ greatest)))) ∧
    ((¬ (least ≤ n)) →
    Fin R [] [] w0 (.bool false))) :
  Calls Tryz.prog 58 ⟨[.int .i64 n, .int .i64 least, .int .i64 greatest]⟩ W R := by
 refine AtE.calls (nt := 15) Tryz.func58 (by kernel_rfl) hm ?_
 refine AtE.ru 10 ?_
 refine AtE.splitP 10 (p := least ≤ n) (by kernel_rfl) (fun h1' => ?_) (fun h1' => ?_)
 ·replace H := H.1 h1'
  refine AtE.ru 6 ?_
  exact AtE.ret Tryz.func58 (by kernel_rfl) H
 ·replace H := H.2 h1'
  refine AtE.ru 6 ?_
  exact AtE.ret Tryz.func58 (by kernel_rfl) H
end Go.Eng
namespace Go.Eng
open Go Go.RowKit Go.Proofs
set_option linter.unusedVariables false
set_option maxRecDepth 100000
abbrev fValidH0 (B : Nat) (f : Fct) (ftp : Option Addr) (ftc : Nat) (fbp : Option Addr) (fbc : Nat) (fap : Option Addr) (fac : Nat) (B1 : Nat) (u : Fct) (utp : Option Addr) (utc : Nat) (ubp : Option Addr) (ubc : Nat) (uap : Option Addr) (uac : Nat) : SHeap := [(B, .cells #[.int .i64 f.n, .int .i64 f.time, .int .i64 f.kind, .int .i64 f.story, .string f.lang, .int .i64 f.rev, .int .i64 f.base, .string f.title, .string f.author, .slice ftp f.topics.length ftc, .slice fbp f.blocks.length fbc, .int .i64 f.lab.unt, .slice fap f.lab.after.length fac, .int .i64 f.lab.appr, .int .i64 f.lab.den, .int .i64 f.editor, .int .i64 f.block, .int .i64 f.sentence, .string f.text, .string f.name, .int .i64 f.partner, .int .i64 f.cls, .int .i64 f.unt] 28), (B1, .cells #[.int .i64 u.n, .int .i64 u.time, .int .i64 u.kind, .int .i64 u.story, .string u.lang, .int .i64 u.rev, .int .i64 u.base, .string u.title, .string u.author, .slice utp u.topics.length utc, .slice ubp u.blocks.length ubc, .int .i64 u.lab.unt, .slice uap u.lab.after.length uac, .int .i64 u.lab.appr, .int .i64 u.lab.den, .int .i64 u.editor, .int .i64 u.block, .int .i64 u.sentence, .string u.text, .string u.name, .int .i64 u.partner, .int .i64 u.cls, .int .i64 u.unt] 28)]
abbrev fValidH1 (B : Nat) (f : Fct) (ftp : Option Addr) (ftc : Nat) (fbp : Option Addr) (fbc : Nat) (fap : Option Addr) (fac : Nat) : SHeap := [(B, .cells #[.int .i64 f.n, .int .i64 f.time, .int .i64 f.kind, .int .i64 f.story, .string f.lang, .int .i64 f.rev, .int .i64 f.base, .string f.title, .string f.author, .slice ftp f.topics.length ftc, .slice fbp f.blocks.length fbc, .int .i64 f.lab.unt, .slice fap f.lab.after.length fac, .int .i64 f.lab.appr, .int .i64 f.lab.den, .int .i64 f.editor, .int .i64 f.block, .int .i64 f.sentence, .string f.text, .string f.name, .int .i64 f.partner, .int .i64 f.cls, .int .i64 f.unt] 28)]
abbrev fValidA0 (f : Fct) (ftp : Option Addr) (ftc : Nat) (fbp : Option Addr) (fbc : Nat) (fap : Option Addr) (fac : Nat) : Array Value := #[.int .i64 f.n, .int .i64 f.time, .int .i64 f.kind, .int .i64 f.story, .string f.lang, .int .i64 f.rev, .int .i64 f.base, .string f.title, .string f.author, .slice ftp f.topics.length ftc, .slice fbp f.blocks.length fbc, .int .i64 f.lab.unt, .slice fap f.lab.after.length fac, .int .i64 f.lab.appr, .int .i64 f.lab.den, .int .i64 f.editor, .int .i64 f.block, .int .i64 f.sentence, .string f.text, .string f.name, .int .i64 f.partner, .int .i64 f.cls, .int .i64 f.unt]
abbrev fValidA1 (u : Fct) (utp : Option Addr) (utc : Nat) (ubp : Option Addr) (ubc : Nat) (uap : Option Addr) (uac : Nat) : Array Value := #[.int .i64 u.n, .int .i64 u.time, .int .i64 u.kind, .int .i64 u.story, .string u.lang, .int .i64 u.rev, .int .i64 u.base, .string u.title, .string u.author, .slice utp u.topics.length utc, .slice ubp u.blocks.length ubc, .int .i64 u.lab.unt, .slice uap u.lab.after.length uac, .int .i64 u.lab.appr, .int .i64 u.lab.den, .int .i64 u.editor, .int .i64 u.block, .int .i64 u.sentence, .string u.text, .string u.name, .int .i64 u.partner, .int .i64 u.cls, .int .i64 u.unt]
theorem fValid_vc (f : Fct) (ftp : Option Addr) (ftc : Nat) (fbp : Option Addr) (fbc : Nat) (fap : Option Addr) (fac : Nat) {R : Ending → World → Prop} {w0 W : World} (hm : Mem [] [] w0 W)
  (H :
   ∀ B : Nat,
   (((0 : Int) ≤ f.n) →
    ((¬ (f.n ≤ (500 : Int))) →
     Fin R (fValidH1 B f ftp ftc fbp fbc fap fac) [] w0 (.bool false)) ∧
     ((f.n ≤ (500 : Int)) →
     (((0 : Int) ≤ f.time) →
      ((¬ (f.time ≤ (1000000000 : Int))) →
       Fin R (fValidH1 B f ftp ftc fbp fbc fap fac) [] w0 (.bool false)) ∧
       ((f.time ≤ (1000000000 : Int)) →
       CallH Tryz.prog 59 ⟨[.agg (fValidA0 f ftp ftc fbp fbc fap fac)]⟩ (fValidH1 B f ftp ftc fbp fbc fap fac) [] w0 (fun v L' => ∃ (u : Fct) (utp : Option Addr) (utc : Nat) (ubp : Option Addr) (ubc : Nat) (uap : Option Addr) (uac : Nat) (r5 : Bool), v = (.tuple #[.agg (fValidA1 u utp utc ubp ubc uap uac), .bool r5]) ∧ L' = (fValidH1 B f ftp ftc fbp fbc fap fac) ∧
        ∀ B1 : Nat,
        ((r5 = true) →
         CallH Tryz.prog 22 ⟨[.agg (fValidA0 f ftp ftc fbp fbc fap fac), .agg (fValidA1 u utp utc ubp ubc uap uac)]⟩ (fValidH0 B f ftp ftc fbp fbc fap fac B1 u utp utc ubp ubc uap uac) [] w0 (fun v L' => ∃ (r61 : Bool), v = (.bool r61) ∧ L' = (fValidH0 B f ftp ftc fbp fbc fap fac B1 u utp utc ubp ubc uap uac) ∧
          Fin R (fValidH0 B f ftp ftc fbp fbc fap fac B1 u utp utc ubp ubc uap uac) [] w0 (.bool r61))) ∧
         ((r5 = false) →
         Fin R (fValidH0 B f ftp ftc fbp fbc fap fac B1 u utp utc ubp ubc uap uac) [] w0 (.bool false))))) ∧
      ((¬ ((0 : Int) ≤ f.time)) →
      Fin R (fValidH1 B f ftp ftc fbp fbc fap fac) [] w0 (.bool false)))) ∧
    ((¬ ((0 : Int) ≤ f.n)) →
    Fin R (fValidH1 B f ftp ftc fbp fbc fap fac) [] w0 (.bool false))) :
  Calls Tryz.prog 20 ⟨[.agg (fValidA0 f ftp ftc fbp fbc fap fac)]⟩ W R := by
 refine AtE.calls (nt := 26) Tryz.func20 (by kernel_rfl) hm ?_
 refine AtE.ru 2 ?_
 refine AtE.new (fun B => .pointer (some ⟨B, 0, none⟩)) (.cells (fValidA0 f ftp ftc fbp fbc fap fac) 28) (fun W => by kernel_rfl) (by kernel_rfl) (fun B => ?_)
 replace H := H B
 refine AtE.ru 6 ?_
 refine AtE.load 0 0 (T := 3) (v := .int .i64 f.n) (by kernel_rfl) ?_
 refine AtE.norm (k' := [.inRegion (regOps [.code (sub (Eng.body Tryz.f20) [1,0,0])]) [2,3,4,5,6,7,8,9], .code (sub (Eng.body Tryz.f20) [1,0,1]), .code (sub (Eng.body Tryz.f20) [1,1])]) (e' := [(1, .pointer (some ⟨B, 0, none⟩)), (6, .int .i64 f.n)]) (L' := (fValidH1 B f ftp ftc fbp fbc fap fac)) ?_ (by kernel_rfl)
 refine AtE.inl 58 ⟨[.int .i64 f.n, .int .i64 (0 : Int), .int .i64 (500 : Int)]⟩ (fun W => by kernel_rfl) (by kernel_rfl) (fun W hm => AtE.calls (nt := 15) Tryz.func58 (by kernel_rfl) hm ?_)
 refine AtE.ru 10 ?_
 refine AtE.splitP 10 (p := (0 : Int) ≤ f.n) (by kernel_rfl) (fun h1' => ?_) (fun h1' => ?_)
 ·replace H := H.1 h1'
  refine AtE.ru 6 ?_
  refine AtE.retK (v := (.bool (decide (f.n ≤ (500 : Int))))) Tryz.func58 (by kernel_rfl) ?_
  refine AtE.ru 2 ?_
  refine AtE.splitN 9 (p := f.n ≤ (500 : Int)) (by kernel_rfl) (fun h2' => ?_) (fun h2' => ?_)
  ·replace H := H.1 h2'
   refine AtE.ru 11 ?_
   exact AtE.ret Tryz.func20 (by kernel_rfl) H
  ·replace H := H.2 h2'
   refine AtE.ru 1 ?_
   refine AtE.load 0 1 (T := 3) (v := .int .i64 f.time) (by kernel_rfl) ?_
   refine AtE.norm (k' := [.inRegion (regOps [.code (sub (Eng.body Tryz.f20) [1,0,0])]) [7,8,9], .code (sub (Eng.body Tryz.f20) [1,0,1]), .code (sub (Eng.body Tryz.f20) [1,1])]) (e' := [(1, .pointer (some ⟨B, 0, none⟩)), (9, .bool false), (11, .int .i64 f.time)]) (L' := (fValidH1 B f ftp ftc fbp fbc fap fac)) ?_ (by kernel_rfl)
   refine AtE.inl 58 ⟨[.int .i64 f.time, .int .i64 (0 : Int), .int .i64 (1000000000 : Int)]⟩ (fun W => by kernel_rfl) (by kernel_rfl) (fun W hm => AtE.calls (nt := 15) Tryz.func58 (by kernel_rfl) hm ?_)
   refine AtE.ru 10 ?_
   refine AtE.splitP 10 (p := (0 : Int) ≤ f.time) (by kernel_rfl) (fun h3' => ?_) (fun h3' => ?_)
   ·replace H := H.1 h3'
    refine AtE.ru 6 ?_
    refine AtE.retK (v := (.bool (decide (f.time ≤ (1000000000 : Int))))) Tryz.func58 (by kernel_rfl) ?_
    refine AtE.ru 3 ?_
    refine AtE.splitN 14 (p := f.time ≤ (1000000000 : Int)) (by kernel_rfl) (fun h4' => ?_) (fun h4' => ?_)
    ·replace H := H.1 h4'
     refine AtE.ru 5 ?_
     exact AtE.ret Tryz.func20 (by kernel_rfl) H
    ·replace H := H.2 h4'
     refine AtE.ru 4 ?_
     refine AtE.load 0 0 (T := 28) (v := .agg (fValidA0 f ftp ftc fbp fbc fap fac)) (by kernel_rfl) ?_
     refine AtE.call 59 ⟨[.agg (fValidA0 f ftp ftc fbp fbc fap fac)]⟩ (fun W => by kernel_rfl) (by kernel_rfl) H ?_
     clear H
     rintro _ _ ⟨u, utp, utc, ubp, ubc, uap, uac, r5, rfl, rfl, H⟩
     refine AtE.ru 3 ?_
     refine AtE.new (fun B => .pointer (some ⟨B, 0, none⟩)) (.cells #[.int .i64 (0 : Int), .int .i64 (0 : Int), .int .i64 (0 : Int), .int .i64 (0 : Int), .string (⟨#[]⟩), .int .i64 (0 : Int), .int .i64 (0 : Int), .string (⟨#[]⟩), .string (⟨#[]⟩), .slice none 0 0, .slice none 0 0, .int .i64 (0 : Int), .slice none 0 0, .int .i64 (0 : Int), .int .i64 (0 : Int), .int .i64 (0 : Int), .int .i64 (0 : Int), .int .i64 (0 : Int), .string (⟨#[]⟩), .string (⟨#[]⟩), .int .i64 (0 : Int), .int .i64 (0 : Int), .int .i64 (0 : Int)] 28) (fun W => by kernel_rfl) (by kernel_rfl) (fun B1 => ?_)
     replace H := H B1
     refine AtE.store 1 0 (T := 28) (v := .agg (fValidA1 u utp utc ubp ubc uap uac)) (by kernel_rfl) ?_
     refine AtE.norm (k' := [.inRegion (regOps [.code (sub (Eng.body Tryz.f20) [1,1,0])]) [7], .code (sub (Eng.body Tryz.f20) [1,1,1])]) (e' := [(1, .pointer (some ⟨B, 0, none⟩)), (3, .pointer (some ⟨B1, 0, none⟩)), (19, .bool r5)]) (L' := (fValidH0 B f ftp ftc fbp fbc fap fac B1 u utp utc ubp ubc uap uac)) ?_ (by kernel_rfl)
     refine AtE.ru 6 ?_
     refine AtE.split 21 (b := r5) (by kernel_rfl) (fun h5' => ?_) (fun h5' => ?_)
     ·replace H := H.1 h5'
      refine AtE.load 0 0 (T := 28) (v := .agg (fValidA0 f ftp ftc fbp fbc fap fac)) (by kernel_rfl) ?_
      refine AtE.load 1 0 (T := 28) (v := .agg (fValidA1 u utp utc ubp ubc uap uac)) (by kernel_rfl) ?_
      refine AtE.call 22 ⟨[.agg (fValidA0 f ftp ftc fbp fbc fap fac), .agg (fValidA1 u utp utc ubp ubc uap uac)]⟩ (fun W => by kernel_rfl) (by kernel_rfl) H ?_
      clear H
      rintro _ _ ⟨r61, rfl, rfl, H⟩
      refine AtE.ru 3 ?_
      exact AtE.ret Tryz.func20 (by kernel_rfl) H
     ·replace H := H.2 h5'
      refine AtE.ru 6 ?_
      exact AtE.ret Tryz.func20 (by kernel_rfl) H
   ·replace H := H.2 h3'
    refine AtE.ru 6 ?_
    refine AtE.retK (v := (.bool false)) Tryz.func58 (by kernel_rfl) ?_
    refine AtE.ru 8 ?_
    exact AtE.ret Tryz.func20 (by kernel_rfl) H
 ·replace H := H.2 h1'
  refine AtE.ru 6 ?_
  refine AtE.retK (v := (.bool false)) Tryz.func58 (by kernel_rfl) ?_
  refine AtE.ru 13 ?_
  exact AtE.ret Tryz.func20 (by kernel_rfl) H
end Go.Eng
namespace Go.Eng
open Go Go.RowKit Go.Proofs
set_option linter.unusedVariables false
set_option maxRecDepth 100000
abbrev eqFctsH0 (B : Nat) (m1 : Fct) (m1tp : Option Addr) (m1tc : Nat) (m1bp : Option Addr) (m1bc : Nat) (m1ap : Option Addr) (m1ac : Nat) (B1 : Nat) (m21 : Fct) (m21tp : Option Addr) (m21tc : Nat) (m21bp : Option Addr) (m21bc : Nat) (m21ap : Option Addr) (m21ac : Nat) : SHeap := [(B, .cells #[.int .i64 m1.n, .int .i64 m1.time, .int .i64 m1.kind, .int .i64 m1.story, .string m1.lang, .int .i64 m1.rev, .int .i64 m1.base, .string m1.title, .string m1.author, .slice m1tp m1.topics.length m1tc, .slice m1bp m1.blocks.length m1bc, .int .i64 m1.lab.unt, .slice m1ap m1.lab.after.length m1ac, .int .i64 m1.lab.appr, .int .i64 m1.lab.den, .int .i64 m1.editor, .int .i64 m1.block, .int .i64 m1.sentence, .string m1.text, .string m1.name, .int .i64 m1.partner, .int .i64 m1.cls, .int .i64 m1.unt] 28), (B1, .cells #[.int .i64 m21.n, .int .i64 m21.time, .int .i64 m21.kind, .int .i64 m21.story, .string m21.lang, .int .i64 m21.rev, .int .i64 m21.base, .string m21.title, .string m21.author, .slice m21tp m21.topics.length m21tc, .slice m21bp m21.blocks.length m21bc, .int .i64 m21.lab.unt, .slice m21ap m21.lab.after.length m21ac, .int .i64 m21.lab.appr, .int .i64 m21.lab.den, .int .i64 m21.editor, .int .i64 m21.block, .int .i64 m21.sentence, .string m21.text, .string m21.name, .int .i64 m21.partner, .int .i64 m21.cls, .int .i64 m21.unt] 28)]
abbrev eqFctsA0 (m21 : Fct) (m21tp : Option Addr) (m21tc : Nat) (m21bp : Option Addr) (m21bc : Nat) (m21ap : Option Addr) (m21ac : Nat) : Array Value := #[.int .i64 m21.n, .int .i64 m21.time, .int .i64 m21.kind, .int .i64 m21.story, .string m21.lang, .int .i64 m21.rev, .int .i64 m21.base, .string m21.title, .string m21.author, .slice m21tp m21.topics.length m21tc, .slice m21bp m21.blocks.length m21bc, .int .i64 m21.lab.unt, .slice m21ap m21.lab.after.length m21ac, .int .i64 m21.lab.appr, .int .i64 m21.lab.den, .int .i64 m21.editor, .int .i64 m21.block, .int .i64 m21.sentence, .string m21.text, .string m21.name, .int .i64 m21.partner, .int .i64 m21.cls, .int .i64 m21.unt]
abbrev eqFctsA1 (m1 : Fct) (m1tp : Option Addr) (m1tc : Nat) (m1bp : Option Addr) (m1bc : Nat) (m1ap : Option Addr) (m1ac : Nat) : Array Value := #[.int .i64 m1.n, .int .i64 m1.time, .int .i64 m1.kind, .int .i64 m1.story, .string m1.lang, .int .i64 m1.rev, .int .i64 m1.base, .string m1.title, .string m1.author, .slice m1tp m1.topics.length m1tc, .slice m1bp m1.blocks.length m1bc, .int .i64 m1.lab.unt, .slice m1ap m1.lab.after.length m1ac, .int .i64 m1.lab.appr, .int .i64 m1.lab.den, .int .i64 m1.editor, .int .i64 m1.block, .int .i64 m1.sentence, .string m1.text, .string m1.name, .int .i64 m1.partner, .int .i64 m1.cls, .int .i64 m1.unt]
abbrev eqFctsA2 : Array Value := #[.int .i64 (0 : Int), .int .i64 (0 : Int), .int .i64 (0 : Int), .int .i64 (0 : Int), .string (⟨#[]⟩), .int .i64 (0 : Int), .int .i64 (0 : Int), .string (⟨#[]⟩), .string (⟨#[]⟩), .slice none 0 0, .slice none 0 0, .int .i64 (0 : Int), .slice none 0 0, .int .i64 (0 : Int), .int .i64 (0 : Int), .int .i64 (0 : Int), .int .i64 (0 : Int), .int .i64 (0 : Int), .string (⟨#[]⟩), .string (⟨#[]⟩), .int .i64 (0 : Int), .int .i64 (0 : Int), .int .i64 (0 : Int)]
def eqFcts_c0 (s1_p : Option Addr) (s1_l : Nat) (s1_c : Nat) (s2_p : Option Addr) (s2_l : Nat) (s2_c : Nat) (t17 : Int) (w0 : World) (R : Ending → World → Prop) : Prop :=
 AtE Tryz.prog 64 32 [.code (sub (Eng.body Tryz.f64) [1,1,0,1,0,0]), .inLoop (sub (Eng.body Tryz.f64) [1,1,0,1,0,0]), .inBlock 0, .code (sub (Eng.body Tryz.f64) [1,1,1])] [(1, .slice s2_p s2_l s2_c), (2, .func (.func 22) #[] #[]), (15, .slice s1_p s1_l s1_c), (16, .int .i64 (s1_l : Int)), (17, .int .i64 t17)] [] [] w0 (nrm R)
theorem eqFcts_c0_vc (s1_p : Option Addr) (s1_l : Nat) (s1_c : Nat) (s2_p : Option Addr) (s2_l : Nat) (s2_c : Nat) (t17 : Int) {R : Ending → World → Prop} {w0 : World}
  (H :
   ((t17 < (s1_l : Int)) →
    ∃ s1_pb s1_po : Nat, s1_p = some ⟨s1_pb, s1_po, none⟩ ∧ (0 ≤ t17 ∧ t17 < s1_l) ∧
    ∃ (cw : List Value) (m1 : Fct) (m1tp : Option Addr) (m1tc : Nat) (m1bp : Option Addr) (m1bc : Nat) (m1ap : Option Addr) (m1ac : Nat), blkW w0 s1_pb = some cw ∧ ((cw.drop (s1_po + ((Int.toNat t17) * 23))).take 23 = [.int .i64 m1.n, .int .i64 m1.time, .int .i64 m1.kind, .int .i64 m1.story, .string m1.lang, .int .i64 m1.rev, .int .i64 m1.base, .string m1.title, .string m1.author, .slice m1tp m1.topics.length m1tc, .slice m1bp m1.blocks.length m1bc, .int .i64 m1.lab.unt, .slice m1ap m1.lab.after.length m1ac, .int .i64 m1.lab.appr, .int .i64 m1.lab.den, .int .i64 m1.editor, .int .i64 m1.block, .int .i64 m1.sentence, .string m1.text, .string m1.name, .int .i64 m1.partner, .int .i64 m1.cls, .int .i64 m1.unt] ∧ (s1_po + ((Int.toNat t17) * 23)) + 23 ≤ cw.length) ∧
    ∀ B : Nat,
    ∃ s2_pb s2_po : Nat, s2_p = some ⟨s2_pb, s2_po, none⟩ ∧ (0 ≤ t17 ∧ t17 < s2_l) ∧
    ∃ (cw1 : List Value) (m21 : Fct) (m21tp : Option Addr) (m21tc : Nat) (m21bp : Option Addr) (m21bc : Nat) (m21ap : Option Addr) (m21ac : Nat), blkW w0 s2_pb = some cw1 ∧ ((cw1.drop (s2_po + ((Int.toNat t17) * 23))).take 23 = [.int .i64 m21.n, .int .i64 m21.time, .int .i64 m21.kind, .int .i64 m21.story, .string m21.lang, .int .i64 m21.rev, .int .i64 m21.base, .string m21.title, .string m21.author, .slice m21tp m21.topics.length m21tc, .slice m21bp m21.blocks.length m21bc, .int .i64 m21.lab.unt, .slice m21ap m21.lab.after.length m21ac, .int .i64 m21.lab.appr, .int .i64 m21.lab.den, .int .i64 m21.editor, .int .i64 m21.block, .int .i64 m21.sentence, .string m21.text, .string m21.name, .int .i64 m21.partner, .int .i64 m21.cls, .int .i64 m21.unt] ∧ (s2_po + ((Int.toNat t17) * 23)) + 23 ≤ cw1.length) ∧
    ∀ B1 : Nat,
    CallH Tryz.prog 22 ⟨[.agg (eqFctsA1 m1 m1tp m1tc m1bp m1bc m1ap m1ac), .agg (eqFctsA0 m21 m21tp m21tc m21bp m21bc m21ap m21ac)]⟩ (eqFctsH0 B m1 m1tp m1tc m1bp m1bc m1ap m1ac B1 m21 m21tp m21tc m21bp m21bc m21ap m21ac) [] w0 (fun v L' => ∃ (r1 : Bool), v = (.bool r1) ∧ L' = (eqFctsH0 B m1 m1tp m1tc m1bp m1bc m1ap m1ac B1 m21 m21tp m21tc m21bp m21bc m21ap m21ac) ∧
     ((r1 = true) →
      eqFcts_c0 s1_p s1_l s1_c s2_p s2_l s2_c (IntKind.i64.wrap (t17 + (1 : Int))) w0 R) ∧
      ((r1 = false) →
      Fin R (eqFctsH0 B m1 m1tp m1tc m1bp m1bc m1ap m1ac B1 m21 m21tp m21tc m21bp m21bc m21ap m21ac) [] w0 (.bool false)))) ∧
    ((¬ (t17 < (s1_l : Int))) →
    Fin R [] [] w0 (.bool true))) :
  eqFcts_c0 s1_p s1_l s1_c s2_p s2_l s2_c t17 w0 R := by
 unfold eqFcts_c0
 refine AtE.ru 5 ?_
 refine AtE.splitP 18 (p := t17 < (s1_l : Int)) (by kernel_rfl) (fun h2' => ?_) (fun h2' => ?_)
 ·replace H := H.1 h2'
  refine AtE.ru 7 ?_
  obtain ⟨s1_pb, s1_po, hp, H⟩ := H
  refine AtE.indexAddrP (E := 28) (p := s1_p) (b := s1_pb) (o := s1_po) (len := s1_l) (cap := s1_c) (sz := 23) (o' := (s1_po + ((Int.toNat t17) * 23))) (kd := .i64) (i := t17) hp (by kernel_rfl) H.1 (by omega) ?_
  replace H := H.2
  obtain ⟨cw, m1, m1tp, m1tc, m1bp, m1bc, m1ap, m1ac, hw, hx, H⟩ := H
  refine AtE.loadW (b := s1_pb) (off := (s1_po + ((Int.toNat t17) * 23))) (T := 28) (v := .agg (eqFctsA1 m1 m1tp m1tc m1bp m1bc m1ap m1ac)) (by kernel_rfl) List.not_mem_nil hw (valAt_agg hx.1 hx.2 (by kernel_rfl) (by kernel_rfl)) ?_
  refine AtE.new (fun B => .pointer (some ⟨B, 0, none⟩)) (.cells eqFctsA2 28) (fun W => by kernel_rfl) (by kernel_rfl) (fun B => ?_)
  replace H := H B
  refine AtE.ru 1 ?_
  refine AtE.store 0 0 (T := 28) (v := .agg (eqFctsA1 m1 m1tp m1tc m1bp m1bc m1ap m1ac)) (by kernel_rfl) ?_
  refine AtE.ru 5 ?_
  obtain ⟨s2_pb, s2_po, hp, H⟩ := H
  refine AtE.indexAddrP (E := 28) (p := s2_p) (b := s2_pb) (o := s2_po) (len := s2_l) (cap := s2_c) (sz := 23) (o' := (s2_po + ((Int.toNat t17) * 23))) (kd := .i64) (i := t17) hp (by kernel_rfl) H.1 (by omega) ?_
  replace H := H.2
  obtain ⟨cw1, m21, m21tp, m21tc, m21bp, m21bc, m21ap, m21ac, hw, hx, H⟩ := H
  refine AtE.loadW (b := s2_pb) (off := (s2_po + ((Int.toNat t17) * 23))) (T := 28) (v := .agg (eqFctsA0 m21 m21tp m21tc m21bp m21bc m21ap m21ac)) (by kernel_rfl) List.not_mem_nil hw (valAt_agg hx.1 hx.2 (by kernel_rfl) (by kernel_rfl)) ?_
  refine AtE.norm (k' := [.inRegion (regOps [.code (sub (Eng.body Tryz.f64) [1,1,0,1,0,0,1,1,0,0,1,0])]) [4,5], .code (sub (Eng.body Tryz.f64) [1,1,0,1,0,0,1,1,0,0,1,1]), .inBlock 1, .code (sub (Eng.body Tryz.f64) [1,1,0,1,0,0,1,1,1]), .inLoop (sub (Eng.body Tryz.f64) [1,1,0,1,0,0]), .inBlock 0, .code (sub (Eng.body Tryz.f64) [1,1,1])]) (e' := [(1, .slice s2_p s2_l s2_c), (2, .func (.func 22) #[] #[]), (8, .pointer (some ⟨B, 0, none⟩)), (15, .slice s1_p s1_l s1_c), (16, .int .i64 (s1_l : Int)), (17, .int .i64 t17), (25, .agg (eqFctsA0 m21 m21tp m21tc m21bp m21bc m21ap m21ac))]) (L' := [(B, .cells (eqFctsA1 m1 m1tp m1tc m1bp m1bc m1ap m1ac) 28)]) ?_ (by kernel_rfl)
  refine AtE.new (fun B => .pointer (some ⟨B, 0, none⟩)) (.cells eqFctsA2 28) (fun W => by kernel_rfl) (by kernel_rfl) (fun B1 => ?_)
  replace H := H B1
  refine AtE.store 1 0 (T := 28) (v := .agg (eqFctsA0 m21 m21tp m21tc m21bp m21bc m21ap m21ac)) (by kernel_rfl) ?_
  refine AtE.ru 4 ?_
  refine AtE.load 0 0 (T := 28) (v := .agg (eqFctsA1 m1 m1tp m1tc m1bp m1bc m1ap m1ac)) (by kernel_rfl) ?_
  refine AtE.load 1 0 (T := 28) (v := .agg (eqFctsA0 m21 m21tp m21tc m21bp m21bc m21ap m21ac)) (by kernel_rfl) ?_
  refine AtE.call 22 ⟨[.agg (eqFctsA1 m1 m1tp m1tc m1bp m1bc m1ap m1ac), .agg (eqFctsA0 m21 m21tp m21tc m21bp m21bc m21ap m21ac)]⟩ (fun W => by kernel_rfl) (by kernel_rfl) H ?_
  clear H
  rintro _ _ ⟨r1, rfl, rfl, H⟩
  refine AtE.split 29 (b := r1) (by kernel_rfl) (fun h3' => ?_) (fun h3' => ?_)
  ·replace H := H.1 h3'
   refine AtE.ru 10 ?_
   exact AtE.cut [] H (by kernel_rfl)
  ·replace H := H.2 h3'
   refine AtE.ru 7 ?_
   exact AtE.ret Tryz.func64 (by kernel_rfl) H
 ·replace H := H.2 h2'
  refine AtE.ru 6 ?_
  exact AtE.ret Tryz.func64 (by kernel_rfl) H
theorem eqFcts_vc (s1_p : Option Addr) (s1_l : Nat) (s1_c : Nat) (s2_p : Option Addr) (s2_l : Nat) (s2_c : Nat) {R : Ending → World → Prop} {w0 W : World} (hm : Mem [] [] w0 W)
  (H :
   ((¬ ((s1_l : Int) = (s2_l : Int))) →
    Fin R [] [] w0 (.bool false)) ∧
    (((s1_l : Int) = (s2_l : Int)) →
    eqFcts_c0 s1_p s1_l s1_c s2_p s2_l s2_c (0 : Int) w0 R)) :
  Calls Tryz.prog 64 ⟨[.slice s1_p s1_l s1_c, .slice s2_p s2_l s2_c, .func (.func 22) #[] #[]]⟩ W R := by
 refine AtE.calls (nt := 32) Tryz.func64 (by kernel_rfl) hm ?_
 refine AtE.ru 13 ?_
 refine AtE.splitN 14 (p := (s1_l : Int) = (s2_l : Int)) (by kernel_rfl) (fun h1' => ?_) (fun h1' => ?_)
 ·replace H := H.1 h1'
  refine AtE.ru 5 ?_
  exact AtE.ret Tryz.func64 (by kernel_rfl) H
 ·replace H := H.2 h1'
  refine AtE.ru 11 ?_
  exact AtE.cut [] H (by kernel_rfl)
theorem fSameL_vc (a_p : Option Addr) (a_l : Nat) (a_c : Nat) (b_p : Option Addr) (b_l : Nat) (b_c : Nat) {R : Ending → World → Prop} {w0 W : World} (hm : Mem [] [] w0 W)
  (H :
   CallH Tryz.prog 64 ⟨[.slice a_p a_l a_c, .slice b_p b_l b_c, .func (.func 22) #[] #[]]⟩ [] [] w0 (fun v L' => ∃ (r1 : Bool), v = (.bool r1) ∧ L' = [] ∧
    Fin R [] [] w0 (.bool r1))) :
  Calls Tryz.prog 27 ⟨[.slice a_p a_l a_c, .slice b_p b_l b_c]⟩ W R := by
 refine AtE.calls (nt := 8) Tryz.func27 (by kernel_rfl) hm ?_
 refine AtE.ru 8 ?_
 refine AtE.call 64 ⟨[.slice a_p a_l a_c, .slice b_p b_l b_c, .func (.func 22) #[] #[]]⟩ (fun W => by kernel_rfl) (by kernel_rfl) H ?_
 clear H
 rintro _ _ ⟨r1, rfl, rfl, H⟩
 refine AtE.ru 2 ?_
 exact AtE.ret Tryz.func27 (by kernel_rfl) H
end Go.Eng
namespace Go.Eng
open Go Go.RowKit Go.Proofs Wire
set_option linter.unusedVariables false
theorem CallH.ex {P : Program} {L : SHeap} {S : List Nat} {w0 : World} {g : FuncId} {args : Array Value} {Q : Value → Prop} {K : Value → SHeap → Prop} (h : ∀ W, Mem L S w0 W → Calls P g args W fun e W' => ∃ v, e = .returned v ∧ Below W.heap.size W W' ∧ Q v) (hK : ∀ v, Q v → K v L) : CallH P g args L S w0 K :=
  fun W hm => (h W hm).mono fun e W' ⟨v, he, hb, hq⟩ => ⟨v, L, he, hm.after hb, hK v hq⟩
theorem finEx {Q : Value → Prop} {v : Value} {W : World} {L : SHeap} (h : Q v) : Fin (fun e W' => ∃ v, e = .returned v ∧ Below W.heap.size W W' ∧ Q v) L [] W v := fun _ hm => ⟨v, rfl, hm.kept.below, h⟩
theorem within_c (n a b : Int) : PureC Tryz.prog 58 ⟨[.int .i64 n, .int .i64 a, .int .i64 b]⟩ (.bool (decide (a ≤ n ∧ n ≤ b))) := fun W => by
  refine within_vc n a b (Mem.start [] W) ⟨fun h => finPure ?_, fun h => finPure ?_⟩
  · congr 1; rw [decide_eq_decide]; exact ⟨fun h2 => ⟨h, h2⟩, fun h2 => h2.2⟩
  · rw [decide_eq_false]; exact fun h2 => h h2.1
theorem isRev_c {W : World} {f : Fct} {tp bp ap : Option Addr} {tc bc ac : Nat} (h : FAt (lkW W) f tp tc bp bc ap ac) : PW Tryz.prog 101 ⟨[.agg ⟨f.cells tp tc bp bc ap ac⟩]⟩ W (.bool f.rvOk) := by
  obtain ⟨⟨s1, s2, s3, s4, s5⟩, ⟨t1, t2⟩, b1, a1⟩ := h.fits
  refine isRev_vc f tp tc bp bc ap ac (Mem.start [] W) fun B => ?_
  refine CallH.pure (fName_c _ s1) ⟨_, rfl, rfl, fun h1 => ?_, fun h1 => finPW (by rw [Fct.rvOk, h1]; rfl)⟩
  have no1 : ¬ (1 ≤ f.rev ∧ f.rev ≤ 100) → f.rvOk = false := fun hn => by rw [Fct.rvOk, decide_eq_false hn, Bool.false_and, Bool.and_false]
  refine ⟨fun h2 => ⟨fun h3 => ?_, fun h3 => finPW (by rw [no1 (by omega)])⟩, fun h2 => finPW (by rw [no1 (by omega)])⟩
  have no2 : ¬ (0 ≤ f.base ∧ f.base ≤ f.rev - 1) → f.rvOk = false := fun hn => by rw [Fct.rvOk, decide_eq_false hn, Bool.false_and, Bool.and_false, Bool.and_false]
  rw [wi64 (by omega)]
  refine ⟨fun h4 => ⟨fun h5 => ?_, fun h5 => finPW (by rw [no2 (by omega)])⟩, fun h4 => finPW (by rw [no2 (by omega)])⟩
  have e : f.rvOk = (fillOk f.title && (nameOk f.author && (topicsOk f.topics && (listOk f.blocks && f.lab.ok)))) := by
    rw [Fct.rvOk, h1, decide_eq_true (p := 1 ≤ f.rev ∧ f.rev ≤ 100) ⟨h2, h3⟩, decide_eq_true (p := 0 ≤ f.base ∧ f.base ≤ f.rev - 1) ⟨h4, h5⟩]; rfl
  rw [e]
  refine CallH.pure (fText_c _ s2) ⟨_, rfl, rfl, fun h6 => ?_, fun h6 => finPW (by rw [h6]; rfl)⟩
  refine CallH.pure (fName_c _ s3) ⟨_, rfl, rfl, fun h7 => ?_, fun h7 => finPW (by rw [h6, h7]; rfl)⟩
  refine CallH.pw (fun W' hm' => areTopics_c (h.tops.mono (lkW_kept hm')) t2 t1) ⟨_, rfl, rfl, fun h8 => ?_, fun h8 => finPW (by rw [h6, h7, h8]; rfl)⟩
  refine CallH.pw (fun W' hm' => validL_c (h.blks.mono (lkW_kept hm')) h.cb) ⟨_, rfl, rfl, fun h9 => ?_, fun h9 => finPW (by rw [h6, h7, h8, h9]; rfl)⟩
  exact CallH.pw (fun W' hm' => labValid_c (h.ints.mono (lkW_kept hm')) a1) ⟨_, rfl, rfl, finPW (by rw [h6, h7, h8, h9]; rfl)⟩
theorem isCor_c {W : World} {f : Fct} {tp bp ap : Option Addr} {tc bc ac : Nat} (h : FAt (lkW W) f tp tc bp bc ap ac) : PW Tryz.prog 103 ⟨[.agg ⟨f.cells tp tc bp bc ap ac⟩]⟩ W (.bool f.coOk) := by
  obtain ⟨⟨s1, s2, s3, s4, s5⟩, ⟨t1, t2⟩, b1, a1⟩ := h.fits
  refine isCor_vc f tp tc bp bc ap ac (Mem.start [] W) fun B => ?_
  refine CallH.pure (fName_c _ s1) ⟨_, rfl, rfl, fun h1 => ?_, fun h1 => finPW (by rw [Fct.coOk, h1]; rfl)⟩
  have no1 : ¬ (1 ≤ f.block ∧ f.block ≤ 1000) → f.coOk = false := fun hn => by rw [Fct.coOk, decide_eq_false hn, Bool.false_and, Bool.and_false]
  have no2 : ¬ (0 ≤ f.sentence ∧ f.sentence ≤ 299) → f.coOk = false := fun hn => by rw [Fct.coOk, decide_eq_false hn, Bool.false_and, Bool.and_false, Bool.and_false]
  refine ⟨fun h2 => ⟨fun h3 => ⟨fun h4 => ⟨fun h5 => ?_, fun h5 => finPW (by rw [no2 (by omega)])⟩, fun h4 => finPW (by rw [no2 (by omega)])⟩, fun h3 => finPW (by rw [no1 (by omega)])⟩, fun h2 => finPW (by rw [no1 (by omega)])⟩
  refine CallH.pure (fText_c _ s4) ⟨_, rfl, rfl, finPW ?_⟩
  rw [Fct.coOk, h1, decide_eq_true (p := 1 ≤ f.block ∧ f.block ≤ 1000) ⟨h2, h3⟩, decide_eq_true (p := 0 ≤ f.sentence ∧ f.sentence ≤ 299) ⟨h4, h5⟩]; rfl
def UsedQ (lk : Lk) (f : Fct) (v : Value) : Prop :=
  ∃ (u : Fct) (tp : Option Addr) (tc : Nat) (bp : Option Addr) (bc : Nat) (ap : Option Addr) (ac : Nat), v = .tuple #[.agg ⟨u.cells tp tc bp bc ap ac⟩, .bool f.vals] ∧ (f.vals = true → u = f.used) ∧ FAt lk u tp tc bp bc ap ac
theorem used_eq {f : Fct} {l : List Fld} (h : kfields f.kind = l) : f.used = l.foldl (fun g x => g.set x (f.get x)) (Fct.bare f.n f.time f.kind) := by rw [Fct.used, h]
theorem strs_nil {lk : Lk} {p : Option Addr} : StrsL lk p [] := fun h => absurd h (by simp)
theorem blks_nil {lk : Lk} {p : Option Addr} : BlksL lk p [] := fun h => absurd h (by simp)
theorem ints_nil {lk : Lk} {p : Option Addr} : IntsL lk p [] := fun h => absurd h (by simp)
theorem e0_sz : e0.size ≤ 9223372036854775807 := by show 0 ≤ _; omega
theorem kd {f : Fct} {n : Int} {l : List Fld} (h : f.kind = n) (e : kfields n = l) : kfields f.kind = l := by rw [h]; exact e
theorem used1 {f : Fct} (k : f.kind = 1) : ({ Fct.bare f.n f.time f.kind with story := f.story, lang := f.lang, rev := f.rev, base := f.base, title := f.title, author := f.author, topics := f.topics, blocks := f.blocks, lab := f.lab } : Fct) = f.used := by
  rw [used_eq (kd (l := [.story, .lang, .rev, .base, .title, .author, .topics, .blocks, .label]) k rfl)]
  simp only [List.foldl_cons, List.foldl_nil, Fct.set, Fct.get]
theorem vals1 {f : Fct} (k : f.kind = 1) : f.vals = (f.stOk && f.rvOk) := by
  unfold Fct.vals; simp only [k, reduceIte, Int.reduceEq]
theorem used2 {f : Fct} (k : f.kind = 2) : ({ Fct.bare f.n f.time f.kind with story := f.story, editor := f.editor } : Fct) = f.used := by
  rw [used_eq (kd (l := [.story, .editor]) k rfl)]
  simp only [List.foldl_cons, List.foldl_nil, Fct.set, Fct.get]
theorem vals2 {f : Fct} (k : f.kind = 2) : f.vals = (f.stOk && decide (1 ≤ f.editor ∧ f.editor ≤ 5)) := by
  unfold Fct.vals; simp only [k, reduceIte, Int.reduceEq]
theorem used3 {f : Fct} (k : f.kind = 3) : ({ Fct.bare f.n f.time f.kind with story := f.story, lab := f.lab } : Fct) = f.used := by
  rw [used_eq (kd (l := [.story, .label]) k rfl)]
  simp only [List.foldl_cons, List.foldl_nil, Fct.set, Fct.get]
theorem vals3 {f : Fct} (k : f.kind = 3) : f.vals = (f.stOk && f.lab.ok) := by
  unfold Fct.vals; simp only [k, reduceIte, Int.reduceEq]
theorem used4 {f : Fct} (k : f.kind = 4) : ({ Fct.bare f.n f.time f.kind with story := f.story, lang := f.lang, block := f.block, sentence := f.sentence, text := f.text } : Fct) = f.used := by
  rw [used_eq (kd (l := [.story, .lang, .block, .sentence, .text]) k rfl)]
  simp only [List.foldl_cons, List.foldl_nil, Fct.set, Fct.get]
theorem vals4 {f : Fct} (k : f.kind = 4) : f.vals = (f.stOk && f.coOk) := by
  unfold Fct.vals; simp only [k, reduceIte, Int.reduceEq]
theorem used5 {f : Fct} (k : f.kind = 5) : ({ Fct.bare f.n f.time f.kind with story := f.story, text := f.text } : Fct) = f.used := by
  rw [used_eq (kd (l := [.story, .text]) k rfl)]
  simp only [List.foldl_cons, List.foldl_nil, Fct.set, Fct.get]
theorem vals5 {f : Fct} (k : f.kind = 5) : f.vals = (f.stOk && fillOk f.text) := by
  unfold Fct.vals; simp only [k, reduceIte, Int.reduceEq]
theorem used6 {f : Fct} (k : f.kind = 6) : ({ Fct.bare f.n f.time f.kind with story := f.story } : Fct) = f.used := by
  rw [used_eq (kd (l := [.story]) k rfl)]
  simp only [List.foldl_cons, List.foldl_nil, Fct.set, Fct.get]
theorem vals6 {f : Fct} (k : f.kind = 6) : f.vals = (f.stOk) := by
  unfold Fct.vals; simp only [k, reduceIte, Int.reduceEq]
theorem used7 {f : Fct} (k : f.kind = 7) : ({ Fct.bare f.n f.time f.kind with name := f.name, text := f.text } : Fct) = f.used := by
  rw [used_eq (kd (l := [.name, .text]) k rfl)]
  simp only [List.foldl_cons, List.foldl_nil, Fct.set, Fct.get]
theorem vals7 {f : Fct} (k : f.kind = 7) : f.vals = (nameOk f.name && srcOk f.text) := by
  unfold Fct.vals; simp only [k, reduceIte, Int.reduceEq]
theorem used8 {f : Fct} (k : f.kind = 8) : ({ Fct.bare f.n f.time f.kind with partner := f.partner, cls := f.cls, unt := f.unt } : Fct) = f.used := by
  rw [used_eq (kd (l := [.partner, .cls, .unt]) k rfl)]
  simp only [List.foldl_cons, List.foldl_nil, Fct.set, Fct.get]
theorem vals8 {f : Fct} (k : f.kind = 8) : f.vals = (f.paOk && decide (0 ≤ f.cls ∧ f.cls ≤ 3)) := by
  unfold Fct.vals; simp only [k, reduceIte, Int.reduceEq]
theorem used9 {f : Fct} (k : f.kind = 9) : ({ Fct.bare f.n f.time f.kind with partner := f.partner, unt := f.unt } : Fct) = f.used := by
  rw [used_eq (kd (l := [.partner, .unt]) k rfl)]
  simp only [List.foldl_cons, List.foldl_nil, Fct.set, Fct.get]
theorem vals9 {f : Fct} (k : f.kind = 9) : f.vals = (f.paOk) := by
  unfold Fct.vals; simp only [k, reduceIte, Int.reduceEq]
theorem used10 {f : Fct} (k : f.kind = 10) : ({ Fct.bare f.n f.time f.kind with story := f.story } : Fct) = f.used := by
  rw [used_eq (kd (l := [.story]) k rfl)]
  simp only [List.foldl_cons, List.foldl_nil, Fct.set, Fct.get]
theorem vals10 {f : Fct} (k : f.kind = 10) : f.vals = (f.stOk) := by
  unfold Fct.vals; simp only [k, reduceIte, Int.reduceEq]
theorem usedQ {lk : Lk} {f u : Fct} {tp bp ap : Option Addr} {tc bc ac : Nat} {b : Bool} (hb : f.vals = b) (hu : u = f.used) (h : FAt lk u tp tc bp bc ap ac) : UsedQ lk f (.tuple #[.agg ⟨u.cells tp tc bp bc ap ac⟩, .bool b]) :=
  ⟨u, _, _, _, _, _, _, by rw [hb], fun _ => hu, h⟩
abbrev UR (W : World) (lk : Lk) (f : Fct) : Ending → World → Prop := fun e W' => ∃ v, e = .returned v ∧ Below W.heap.size W W' ∧ UsedQ lk f v
theorem noLists {lk : Lk} {u : Fct} (h1 : u.topics = []) (h2 : u.blocks = []) (h3 : u.lab.after = []) (h4 : u.lang.size ≤ 9223372036854775807 ∧ u.title.size ≤ 9223372036854775807 ∧ u.author.size ≤ 9223372036854775807 ∧ u.text.size ≤ 9223372036854775807 ∧ u.name.size ≤ 9223372036854775807) : FAt lk u none 0 none 0 none 0 :=
  ⟨by rw [h1]; exact strs_nil, by rw [h2]; exact blks_nil, by rw [h3]; exact ints_nil, by rw [h1]; exact Nat.le_refl _, by rw [h2]; exact Nat.le_refl _, by rw [h3]; exact Nat.le_refl _, h4, by rw [h1]; exact ⟨by simp, by simp⟩, by rw [h2]; simp, by rw [h3]; simp⟩
theorem used_loop {W : World} {lk : Lk} {f : Fct} {tp bp ap : Option Addr} {tc bc ac : Nat} (h : FAt (lkW W) f tp tc bp bc ap ac) (g : FAt lk f tp tc bp bc ap ac) {B3 B4 B5 : Nat} {story partner : Bool} (hst : story = f.stOk) (hpa : partner = f.paOk) :
    used_c0 f tp tc bp bc ap ac B3 B4 B5 story partner W (UR W lk f) := by
  obtain ⟨⟨s1, s2, s3, s4, s5⟩, ⟨t1, t2⟩, b1, a1⟩ := h.fits
  have z := e0_sz
  have n0 : (0 : Nat) ≤ 9223372036854775807 := by omega
  subst hst hpa
  apply used_c0_vc
  refine ⟨fun k => ?_, fun k1 => ⟨fun k => ?_, fun k2 => ⟨fun k => ?_, fun k3 => ⟨fun k => ?_, fun k4 => ⟨fun k => ?_, fun k5 => ⟨fun k => ?_, fun k6 => ⟨fun k => ?_, fun k10 => ⟨fun k => ?_, fun k7 => ⟨fun k => ?_, fun k8 => ⟨fun k => ?_, fun k9 => ?_⟩⟩⟩⟩⟩⟩⟩⟩⟩⟩
  · have ev := vals1 k
    have q := fun (b : Bool) (hb : f.vals = b) => usedQ (lk := lk) hb (used1 k) ⟨g.tops, g.blks, g.ints, g.ct, g.cb, g.ca, ⟨s1, s2, s3, z, z⟩, ⟨t1, t2⟩, b1, a1⟩
    exact ⟨fun hs => ⟨_, QCallB.pw fun W' hm' => isRev_c (h.mono (lkW_kept hm')), finEx (q _ (by rw [ev, hs]; rfl))⟩, fun hs => finEx (q _ (by rw [ev, hs]; rfl))⟩
  · have ev := vals2 k
    have q := fun (b : Bool) (hb : f.vals = b) => usedQ (lk := lk) hb (used2 k) (noLists rfl rfl rfl ⟨z, z, z, z, z⟩)
    exact ⟨fun hs => ⟨_, QCallB.of (within_c _ _ _), finEx (q _ (by rw [ev, hs]; rfl))⟩, fun hs => finEx (q _ (by rw [ev, hs]; rfl))⟩
  · have ev := vals3 k
    have q := fun (b : Bool) (hb : f.vals = b) => usedQ (lk := lk) (tp := none) (tc := 0) (bp := none) (bc := 0) (ap := ap) (ac := ac) hb (used3 k) ⟨strs_nil, blks_nil, g.ints, Nat.le_refl _, Nat.le_refl _, g.ca, ⟨z, z, z, z, z⟩, ⟨n0, by simp [Fct.bare, Fct.zero]⟩, n0, a1⟩
    exact ⟨fun hs => ⟨_, QCallB.pw fun W' hm' => labValid_c (h.ints.mono (lkW_kept hm')) a1, finEx (q _ (by rw [ev, hs]; rfl))⟩, fun hs => finEx (q _ (by rw [ev, hs]; rfl))⟩
  · have ev := vals4 k
    have q := fun (b : Bool) (hb : f.vals = b) => usedQ (lk := lk) hb (used4 k) (noLists rfl rfl rfl ⟨s1, z, z, s4, z⟩)
    exact ⟨fun hs => ⟨_, QCallB.pw fun W' hm' => isCor_c (h.mono (lkW_kept hm')), finEx (q _ (by rw [ev, hs]; rfl))⟩, fun hs => finEx (q _ (by rw [ev, hs]; rfl))⟩
  · have ev := vals5 k
    have q := fun (b : Bool) (hb : f.vals = b) => usedQ (lk := lk) hb (used5 k) (noLists rfl rfl rfl ⟨z, z, z, s4, z⟩)
    exact ⟨fun hs => ⟨_, QCallB.of (fText_c _ s4), finEx (q _ (by rw [ev, hs]; rfl))⟩, fun hs => finEx (q _ (by rw [ev, hs]; rfl))⟩
  · have ev := vals6 k
    have q := fun (b : Bool) (hb : f.vals = b) => usedQ (lk := lk) hb (used6 k) (noLists rfl rfl rfl ⟨z, z, z, z, z⟩)
    exact finEx (q _ ev)
  · have ev := vals10 k
    have q := fun (b : Bool) (hb : f.vals = b) => usedQ (lk := lk) hb (used10 k) (noLists rfl rfl rfl ⟨z, z, z, z, z⟩)
    exact finEx (q _ ev)
  · have ev := vals7 k
    have q := fun (b : Bool) (hb : f.vals = b) => usedQ (lk := lk) hb (used7 k) (noLists rfl rfl rfl ⟨z, z, z, s4, s5⟩)
    exact ⟨_, QCallB.of (fName_c _ s5), fun hs => ⟨_, QCallB.of (fSource_c _ s4), finEx (q _ (by rw [ev, hs]; rfl))⟩, fun hs => finEx (q _ (by rw [ev, hs]; rfl))⟩
  · have ev := vals8 k
    have q := fun (b : Bool) (hb : f.vals = b) => usedQ (lk := lk) hb (used8 k) (noLists rfl rfl rfl ⟨z, z, z, z, z⟩)
    exact ⟨fun hs => ⟨_, QCallB.of (within_c _ _ _), finEx (q _ (by rw [ev, hs]; rfl))⟩, fun hs => finEx (q _ (by rw [ev, hs]; rfl))⟩
  · have ev := vals9 k
    have q := fun (b : Bool) (hb : f.vals = b) => usedQ (lk := lk) hb (used9 k) (noLists rfl rfl rfl ⟨z, z, z, z, z⟩)
    exact finEx (q _ ev)
  · have ev : f.vals = false := by unfold Fct.vals; simp only [k1, k2, k3, k4, k5, k6, k7, k8, k9, k10, if_false]
    exact finEx ⟨({ Fct.bare f.n f.time f.kind with story := f.story } : Fct), none, 0, none, 0, none, 0, by rw [ev]; rfl, fun h => absurd h (by rw [ev]; decide), noLists rfl rfl rfl ⟨z, z, z, z, z⟩⟩
theorem used_c {W : World} {lk : Lk} {f : Fct} {tp bp ap : Option Addr} {tc bc ac : Nat} (h : FAt (lkW W) f tp tc bp bc ap ac) (g : FAt lk f tp tc bp bc ap ac) :
    Calls Tryz.prog 59 ⟨[.agg ⟨f.cells tp tc bp bc ap ac⟩]⟩ W (UR W lk f) := by
  refine used_vc f tp tc bp bc ap ac (Mem.start [] W) fun B B1 B2 => ?_
  refine CallH.pure (within_c _ _ _) ⟨_, rfl, rfl, ?_⟩
  refine CallH.pure (within_c _ _ _) ⟨_, rfl, rfl, fun h1 => ?_, fun h1 => ?_⟩
  · refine CallH.pure (within_c _ _ _) ⟨_, rfl, rfl, used_loop h g rfl ?_⟩
    have h1 := of_decide_eq_true h1
    rw [Fct.paOk, decide_eq_decide]
    constructor
    · intro h; omega
    · intro h; omega
  · refine used_loop h g rfl ?_
    have h1 := of_decide_eq_false h1
    rw [Fct.paOk, decide_eq_false]
    omega
theorem fValid_c {W : World} {f : Fct} {tp bp ap : Option Addr} {tc bc ac : Nat} (h : FAt (lkW W) f tp tc bp bc ap ac) : PW Tryz.prog 20 ⟨[.agg ⟨f.cells tp tc bp bc ap ac⟩]⟩ W (.bool f.ok) := by
  have nope : ¬ (0 ≤ f.n ∧ f.n ≤ 500 ∧ 0 ≤ f.time ∧ f.time ≤ 1000000000) → (Value.bool false) = .bool f.ok := fun hn => by rw [Fct.ok, decide_eq_false hn, Bool.false_and]
  refine fValid_vc f tp tc bp bc ap ac (Mem.start [] W) fun B => ⟨fun h1 => ⟨fun h2 => finPW (nope (by omega)), fun h2 => ⟨fun h3 => ⟨fun h4 => finPW (nope (by omega)), fun h4 => ?_⟩, fun h3 => finPW (nope (by omega))⟩⟩, fun h1 => finPW (nope (by omega))⟩
  have e : f.ok = (f.vals && decide (f = f.used)) := by rw [Fct.ok, decide_eq_true (p := 0 ≤ f.n ∧ f.n ≤ 500 ∧ 0 ≤ f.time ∧ f.time ≤ 1000000000) ⟨h1, h2, h3, h4⟩, Bool.true_and]
  rw [e]
  refine CallH.ex (Q := UsedQ (lkW W) f) (fun W' hm' => used_c (h.mono (lkW_kept hm')) h) ?_
  rintro v ⟨u, tp', tc', bp', bc', ap', ac', rfl, h5, h6⟩
  refine ⟨u, tp', tc', bp', bc', ap', ac', _, rfl, rfl, fun B1 => ⟨fun hv => ?_, fun hv => finPW (by rw [hv]; rfl)⟩⟩
  refine CallH.pw (fun W' hm' => fSame_c (h.mono (lkW_kept hm')) (h6.mono (lkW_kept hm'))) ⟨_, rfl, rfl, finPW ?_⟩
  rw [hv, h5 hv, Bool.true_and]
def FctsL (lk : Lk) (p : Option Addr) (l : List Fct) : Prop :=
  0 < l.length → ∃ (b o : Nat) (c : List Value), p = some ⟨b, o, none⟩ ∧ lk b c ∧ ∀ i (h : i < l.length), o + i * 23 + 23 ≤ c.length ∧ FctL lk ((c.drop (o + i * 23)).take 23) l[i]
theorem FctL.mono {lk lk' : Lk} {cs : List Value} {f : Fct} (h : FctL lk cs f) (hl : ∀ b c, lk b c → lk' b c) : FctL lk' cs f := by
  obtain ⟨tp, tc, bp, bc, ap, ac, h1, h2⟩ := h
  exact ⟨tp, tc, bp, bc, ap, ac, h1, h2.mono hl⟩
theorem FctsL.mono {lk lk' : Lk} {p : Option Addr} {l : List Fct} (h : FctsL lk p l) (hl : ∀ b c, lk b c → lk' b c) : FctsL lk' p l := by
  intro hp
  obtain ⟨b, o, c, h1, h2, h3⟩ := h hp
  exact ⟨b, o, c, h1, hl b c h2, fun i hi => ⟨(h3 i hi).1, (h3 i hi).2.mono hl⟩⟩
theorem FctsL.get {lk : Lk} {p : Option Addr} {l : List Fct} (h : FctsL lk p l) {i : Nat} (hi : i < l.length) :
    ∃ (b o : Nat) (c : List Value), p = some ⟨b, o, none⟩ ∧ lk b c ∧ o + i * 23 + 23 ≤ c.length ∧ FctL lk ((c.drop (o + i * 23)).take 23) l[i] := by
  obtain ⟨b, o, c, h1, h2, h3⟩ := h (by omega)
  exact ⟨b, o, c, h1, h2, (h3 i hi).1, (h3 i hi).2⟩
theorem eqFcts_loop {w0 : World} {p q : Option Addr} {cp cq : Nat} {R : Ending → World → Prop} {a b : List Fct} (ha : FctsL (lkW w0) p a) (hb : FctsL (lkW w0) q b) (hl : a.length = b.length) (hm : a.length ≤ 9223372036854775807) (HR : ∀ L v, Fin R [] [] w0 v → Fin R L [] w0 v) :
    ∀ (g i : Nat), g + i = a.length → Fin R [] [] w0 (.bool (decide (a.drop i = b.drop i))) → eqFcts_c0 p a.length cp q b.length cq (i : Int) w0 R
  | 0, i, hg, H => by
    apply eqFcts_c0_vc
    refine no (by omega) (finEq H ?_)
    rw [List.drop_of_length_le (by omega), List.drop_of_length_le (by omega)]
    simp
  | g + 1, i, hg, H => by
    apply eqFcts_c0_vc
    have h1 : i < a.length := by omega
    have h2 : i < b.length := by omega
    obtain ⟨B1, o1, c1, e1, e2, e3, tp, tc, bp, bc, ap, ac, e4, e5⟩ := ha.get h1
    obtain ⟨B2, o2, c2, f1, f2, f3, tp', tc', bp', bc', ap', ac', f4, f5⟩ := hb.get h2
    simp only [drop_eq h1 h2] at H
    refine yes (by omega) ⟨B1, o1, e1, by omega, c1, a[i], tp, tc, bp, bc, ap, ac, e2, ⟨by simpa using e4, by simpa using e3⟩, fun B3 =>
      ⟨B2, o2, f1, by omega, c2, b[i], tp', tc', bp', bc', ap', ac', f2, ⟨by simpa using f4, by simpa using f3⟩, fun B4 => ?_⟩⟩
    refine CallH.pw (fun W' hm' => fSame_c (e5.mono (lkW_kept hm')) (f5.mono (lkW_kept hm'))) ⟨_, rfl, rfl, fun h => ?_, fun h => HR _ _ (finEq H ?_)⟩
    · have h := of_decide_eq_true h
      rw [wi64 (by omega), show (i : Int) + 1 = ((i + 1 : Nat) : Int) by omega]
      refine eqFcts_loop ha hb hl hm HR g (i + 1) (by omega) (finEq H ?_)
      simp [h]
    · have h := of_decide_eq_false h
      simp [h]
theorem fSameL_c {W : World} {p q : Option Addr} {cp cq : Nat} {a b : List Fct} (ha : FctsL (lkW W) p a) (hb : FctsL (lkW W) q b) (hm : a.length ≤ 9223372036854775807) :
    PW Tryz.prog 27 ⟨[.slice p a.length cp, .slice q b.length cq]⟩ W (.bool (decide (a = b))) := by
  refine fSameL_vc p a.length cp q b.length cq (Mem.start [] W) (CallH.pw (v := .bool (decide (a = b))) (fun W' hm' => ?_) ⟨_, rfl, rfl, finPW rfl⟩)
  have ha := ha.mono (lkW_kept hm')
  have hb := hb.mono (lkW_kept hm')
  refine eqFcts_vc p a.length cp q b.length cq (Mem.start [] W') ⟨fun h => finPW ?_, fun h => eqFcts_loop ha hb (by omega) hm pwLoose a.length 0 (by omega) (finPW ?_)⟩
  · rw [decide_eq_false]
    intro hab; subst hab; exact h rfl
  · simp
end Go.Eng
namespace Go.Eng
open Go Go.RowKit Go.Proofs
set_option linter.unusedVariables false
set_option maxRecDepth 100000
theorem readI_vc (Rb : Nat) (tx : ByteArray) (ra : Int) (re : Int) {R : Ending → World → Prop} {S : List Nat} {w0 W : World} (hm : Mem [(Rb, .cells #[.string tx, .int .i64 ra, .int .i64 re] 239)] S w0 W)
  (H :
   ((¬ (re = (0 : Int))) →
    Fin R [(Rb, .cells #[.string tx, .int .i64 ra, .int .i64 re] 239)] S w0 (.int .i64 (0 : Int))) ∧
    ((re = (0 : Int)) →
    ∃ (r1 : Int) (r21 : Int) (r31 : Int), (QCall Tryz.prog 111 ⟨[.string tx, .int .i64 ra]⟩ [(Rb, .cells #[.string tx, .int .i64 ra, .int .i64 re] 239)] S w0 (.tuple #[.int .i64 r1, .int .i64 r21, .int .i64 r31])) ∧
    ((¬ (r31 = (0 : Int))) →
     Fin R [(Rb, .cells #[.string tx, .int .i64 ra, .int .i64 (10 : Int)] 239)] S w0 (.int .i64 (0 : Int))) ∧
     ((r31 = (0 : Int)) →
     Fin R [(Rb, .cells #[.string tx, .int .i64 r21, .int .i64 re] 239)] S w0 (.int .i64 r1)))) :
  Calls Tryz.prog 210 ⟨[.pointer (some ⟨Rb, 0, none⟩), .func (.func 111) #[] #[]]⟩ W R := by
 refine AtE.calls (nt := 40) Tryz.func210 (by kernel_rfl) hm ?_
 refine AtE.ru 14 ?_
 refine AtE.load 0 2 (T := 31) (v := .int .i64 re) (by kernel_rfl) ?_
 refine AtE.ru 2 ?_
 refine AtE.splitN 13 (p := re = (0 : Int)) (by kernel_rfl) (fun h1' => ?_) (fun h1' => ?_)
 ·replace H := H.1 h1'
  refine AtE.ru 6 ?_
  exact AtE.ret Tryz.func210 (by kernel_rfl) H
 ·replace H := H.2 h1'
  refine AtE.ru 3 ?_
  refine AtE.norm (k' := [.code (sub (Eng.body Tryz.f210) [1,1,1,0]), .code (sub (Eng.body Tryz.f210) [1,1,1,1])]) (e' := [(0, .pointer (some ⟨Rb, 0, none⟩)), (1, .func (.func 111) #[] #[]), (5, .int .i64 (0 : Int))]) (L' := [(Rb, .cells #[.string tx, .int .i64 ra, .int .i64 re] 239)]) ?_ (by kernel_rfl)
  refine AtE.draw 17 (by kernel_rfl) ?_
  refine AtQ.pu ?_
  refine AtQ.pu ?_
  refine AtQ.pu ?_
  refine AtQ.pu ?_
  refine AtQ.load 0 0 (T := 9) (v := .string tx) (by kernel_rfl) ?_
  refine AtQ.pu ?_
  refine AtQ.pu ?_
  refine AtQ.pu ?_
  refine AtQ.load 0 1 (T := 3) (v := .int .i64 ra) (by kernel_rfl) ?_
  obtain ⟨r1, r21, r31, hq, H⟩ := H
  refine AtQ.call 111 ⟨[.string tx, .int .i64 ra]⟩ (fun W => by kernel_rfl) (by kernel_rfl) hq ?_
  refine AtQ.pu ?_
  refine AtQ.pu ?_
  refine AtQ.pu ?_
  refine AtQ.pu ?_
  refine AtQ.pu ?_
  refine AtQ.pu ?_
  refine AtQ.pu ?_
  refine AtQ.done (by kernel_rfl) ?_
  refine AtE.ru 7 ?_
  refine AtE.splitN 30 (p := r31 = (0 : Int)) (by kernel_rfl) (fun h2' => ?_) (fun h2' => ?_)
  ·replace H := H.1 h2'
   refine AtE.ru 6 ?_
   refine AtE.store 0 2 (T := 31) (v := .int .i64 (10 : Int)) (by kernel_rfl) ?_
   refine AtE.ru 6 ?_
   exact AtE.ret Tryz.func210 (by kernel_rfl) H
  ·replace H := H.2 h2'
   refine AtE.ru 8 ?_
   refine AtE.store 0 1 (T := 3) (v := .int .i64 r21) (by kernel_rfl) ?_
   refine AtE.ru 6 ?_
   exact AtE.ret Tryz.func210 (by kernel_rfl) H
theorem readS_vc (Rb : Nat) (tx : ByteArray) (ra : Int) (re : Int) {R : Ending → World → Prop} {S : List Nat} {w0 W : World} (hm : Mem [(Rb, .cells #[.string tx, .int .i64 ra, .int .i64 re] 239)] S w0 W)
  (H :
   ((¬ (re = (0 : Int))) →
    Fin R [(Rb, .cells #[.string tx, .int .i64 ra, .int .i64 re] 239)] S w0 (.string (⟨#[]⟩))) ∧
    ((re = (0 : Int)) →
    ∃ (r1 : ByteArray) (r21 : Int) (r31 : Int), (QCall Tryz.prog 156 ⟨[.string tx, .int .i64 ra]⟩ [(Rb, .cells #[.string tx, .int .i64 ra, .int .i64 re] 239)] S w0 (.tuple #[.string r1, .int .i64 r21, .int .i64 r31])) ∧
    ((¬ (r31 = (0 : Int))) →
     Fin R [(Rb, .cells #[.string tx, .int .i64 ra, .int .i64 (10 : Int)] 239)] S w0 (.string (⟨#[]⟩))) ∧
     ((r31 = (0 : Int)) →
     Fin R [(Rb, .cells #[.string tx, .int .i64 r21, .int .i64 re] 239)] S w0 (.string r1)))) :
  Calls Tryz.prog 212 ⟨[.pointer (some ⟨Rb, 0, none⟩), .func (.func 156) #[] #[]]⟩ W R := by
 refine AtE.calls (nt := 40) Tryz.func212 (by kernel_rfl) hm ?_
 refine AtE.ru 14 ?_
 refine AtE.load 0 2 (T := 31) (v := .int .i64 re) (by kernel_rfl) ?_
 refine AtE.ru 2 ?_
 refine AtE.splitN 13 (p := re = (0 : Int)) (by kernel_rfl) (fun h1' => ?_) (fun h1' => ?_)
 ·replace H := H.1 h1'
  refine AtE.ru 6 ?_
  exact AtE.ret Tryz.func212 (by kernel_rfl) H
 ·replace H := H.2 h1'
  refine AtE.ru 3 ?_
  refine AtE.norm (k' := [.code (sub (Eng.body Tryz.f212) [1,1,1,0]), .code (sub (Eng.body Tryz.f212) [1,1,1,1])]) (e' := [(0, .pointer (some ⟨Rb, 0, none⟩)), (1, .func (.func 156) #[] #[]), (5, .string (⟨#[]⟩))]) (L' := [(Rb, .cells #[.string tx, .int .i64 ra, .int .i64 re] 239)]) ?_ (by kernel_rfl)
  refine AtE.draw 17 (by kernel_rfl) ?_
  refine AtQ.pu ?_
  refine AtQ.pu ?_
  refine AtQ.pu ?_
  refine AtQ.pu ?_
  refine AtQ.load 0 0 (T := 9) (v := .string tx) (by kernel_rfl) ?_
  refine AtQ.pu ?_
  refine AtQ.pu ?_
  refine AtQ.pu ?_
  refine AtQ.load 0 1 (T := 3) (v := .int .i64 ra) (by kernel_rfl) ?_
  obtain ⟨r1, r21, r31, hq, H⟩ := H
  refine AtQ.call 156 ⟨[.string tx, .int .i64 ra]⟩ (fun W => by kernel_rfl) (by kernel_rfl) hq ?_
  refine AtQ.pu ?_
  refine AtQ.pu ?_
  refine AtQ.pu ?_
  refine AtQ.pu ?_
  refine AtQ.pu ?_
  refine AtQ.pu ?_
  refine AtQ.pu ?_
  refine AtQ.done (by kernel_rfl) ?_
  refine AtE.ru 7 ?_
  refine AtE.splitN 30 (p := r31 = (0 : Int)) (by kernel_rfl) (fun h2' => ?_) (fun h2' => ?_)
  ·replace H := H.1 h2'
   refine AtE.ru 6 ?_
   refine AtE.store 0 2 (T := 31) (v := .int .i64 (10 : Int)) (by kernel_rfl) ?_
   refine AtE.ru 6 ?_
   exact AtE.ret Tryz.func212 (by kernel_rfl) H
  ·replace H := H.2 h2'
   refine AtE.ru 8 ?_
   refine AtE.store 0 1 (T := 3) (v := .int .i64 r21) (by kernel_rfl) ?_
   refine AtE.ru 6 ?_
   exact AtE.ret Tryz.func212 (by kernel_rfl) H
theorem readInt_vc (Rb : Nat) (tx : ByteArray) (ra : Int) (re : Int) {R : Ending → World → Prop} {S : List Nat} {w0 W : World} (hm : Mem [(Rb, .cells #[.string tx, .int .i64 ra, .int .i64 re] 239)] S w0 W)
  (H :
   CallH Tryz.prog 210 ⟨[.pointer (some ⟨Rb, 0, none⟩), .func (.func 111) #[] #[]]⟩ [(Rb, .cells #[.string tx, .int .i64 ra, .int .i64 re] 239)] S w0 (fun v L' => ∃ (r1 : Int) (ra1 : Int) (re1 : Int), v = (.int .i64 r1) ∧ L' = [(Rb, .cells #[.string tx, .int .i64 ra1, .int .i64 re1] 239)] ∧
    Fin R [(Rb, .cells #[.string tx, .int .i64 ra1, .int .i64 re1] 239)] S w0 (.int .i64 r1))) :
  Calls Tryz.prog 211 ⟨[.pointer (some ⟨Rb, 0, none⟩)]⟩ W R := by
 refine AtE.calls (nt := 5) Tryz.func211 (by kernel_rfl) hm ?_
 refine AtE.ru 7 ?_
 refine AtE.call 210 ⟨[.pointer (some ⟨Rb, 0, none⟩), .func (.func 111) #[] #[]]⟩ (fun W => by kernel_rfl) (by kernel_rfl) H ?_
 clear H
 rintro _ _ ⟨r1, ra1, re1, rfl, rfl, H⟩
 refine AtE.ru 2 ?_
 exact AtE.ret Tryz.func211 (by kernel_rfl) H
def readLI_c0 (B : Nat) (count : Int) (i : Int) (m0 : ByteArray) (m1 : Int) (m2 : Int) (S : List Nat) (w0 : World) (R : Ending → World → Prop) : Prop :=
 AtE Tryz.prog 213 48 [.code (sub (Eng.body Tryz.f213) [1,1,1,1,0,1,0,0]), .inLoop (sub (Eng.body Tryz.f213) [1,1,1,1,0,1,0,0]), .inBlock 0, .code (sub (Eng.body Tryz.f213) [1,1,1,1,1])] [(0, .pointer (some ⟨B, 0, none⟩)), (2, .func (.func 211) #[] #[]), (7, .int .i64 count), (8, .slice none 0 0), (9, .int .i64 i)] [(B, .cells #[.string m0, .int .i64 m1, .int .i64 m2] 239)] S w0 (nrm R)
def readLI_c1 (B3 : Nat) (B4 : Nat) (count1 : Int) (l_l : Nat) (l_c : Nat) (i2 : Int) (m01 : ByteArray) (m11 : Int) (m21 : Int) (cs : List Value) (S : List Nat) (w0 : World) (R : Ending → World → Prop) : Prop :=
 AtE Tryz.prog 213 48 [.code (sub (Eng.body Tryz.f213) [1,1,1,1,0,1,0,0]), .inLoop (sub (Eng.body Tryz.f213) [1,1,1,1,0,1,0,0]), .inBlock 0, .code (sub (Eng.body Tryz.f213) [1,1,1,1,1])] [(0, .pointer (some ⟨B3, 0, none⟩)), (2, .func (.func 211) #[] #[]), (7, .int .i64 count1), (8, .slice (some ⟨B4, 0, none⟩) l_l l_c), (9, .int .i64 i2)] [(B3, .cells #[.string m01, .int .i64 m11, .int .i64 m21] 239), (B4, .cells ⟨cs⟩ 3)] S w0 (nrm R)
theorem readLI_c0_vc (B : Nat) (count : Int) (i : Int) (m0 : ByteArray) (m1 : Int) (m2 : Int) {R : Ending → World → Prop} {S : List Nat} {w0 : World}
  (H :
   ((i < count) →
    ((m2 = (0 : Int)) →
     CallH Tryz.prog 211 ⟨[.pointer (some ⟨B, 0, none⟩)]⟩ [(B, .cells #[.string m0, .int .i64 m1, .int .i64 m2] 239)] S w0 (fun v L' => ∃ (r21 : Int) (ra2 : Int) (re2 : Int), v = (.int .i64 r21) ∧ L' = [(B, .cells #[.string m0, .int .i64 ra2, .int .i64 re2] 239)] ∧
      ∀ B1 : Nat,
      ∀ (B2 cap : Nat) (r3 : List Value), 1 ≤ cap → (([.int .i64 r21] : List Value) ++ r3).length = cap * 1 →
      ∀ i1 : Int, i1 = (IntKind.i64.wrap (i + (1 : Int))) →
      readLI_c1 B B2 count 1 cap i1 m0 ra2 re2 (([.int .i64 r21] : List Value) ++ r3) S w0 R)) ∧
     ((¬ (m2 = (0 : Int))) →
     Fin R [(B, .cells #[.string m0, .int .i64 m1, .int .i64 m2] 239)] S w0 (.slice none 0 0))) ∧
    ((¬ (i < count)) →
    Fin R [(B, .cells #[.string m0, .int .i64 m1, .int .i64 m2] 239)] S w0 (.slice none 0 0))) :
  readLI_c0 B count i m0 m1 m2 S w0 R := by
 unfold readLI_c0
 refine AtE.ru 7 ?_
 refine AtE.splitP 32 (p := i < count) (by kernel_rfl) (fun h4' => ?_) (fun h4' => ?_)
 ·replace H := H.1 h4'
  refine AtE.ru 3 ?_
  refine AtE.load 0 2 (T := 31) (v := .int .i64 m2) (by kernel_rfl) ?_
  refine AtE.ru 3 ?_
  refine AtE.splitP 38 (p := m2 = (0 : Int)) (by kernel_rfl) (fun h5' => ?_) (fun h5' => ?_)
  ·replace H := H.1 h5'
   refine AtE.ru 8 ?_
   refine AtE.call 211 ⟨[.pointer (some ⟨B, 0, none⟩)]⟩ (fun W => by kernel_rfl) (by kernel_rfl) H ?_
   clear H
   rintro _ _ ⟨r21, ra2, re2, rfl, rfl, H⟩
   refine AtE.new (fun B => .slice (some ⟨B, 0, none⟩) 1 1) (.cells #[.int .i64 r21] 3) (fun W => by kernel_rfl) (by kernel_rfl) (fun B1 => ?_)
   replace H := H B1
   refine AtE.appendN (T := 24) (E := 3) (z := .int .i64 (0 : Int)) (sz := 1) (bytes := 8) (a := ⟨B1, 0, none⟩) (m := 1) (c := 1) ([.int .i64 r21] : List Value) (by kernel_rfl) (show Src _ _ _ _ ([.int .i64 r21] : List Value) from Src.own (j := 1) (o := 0) (n := 1) (c := ([.int .i64 r21] : List Value)) (by kernel_rfl)) (by simp) (by omega) (by omega) (fun B2 cap r3 h1 h2 => ?_)
   replace H := H B2 cap r3 h1 h2
   refine AtE.ru 7 ?_
   refine AtE.letI 9 (kd := .i64) (n := (IntKind.i64.wrap (i + (1 : Int)))) (by kernel_rfl) (fun i1 hi1 => ?_)
   replace H := H i1 hi1
   refine AtE.norm (k' := [.inRegion (regOps [.code (sub (Eng.body Tryz.f213) [1,1,1,1,0,1,0,0,1,1])]) [], .inLoop (sub (Eng.body Tryz.f213) [1,1,1,1,0,1,0,0]), .inBlock 0, .code (sub (Eng.body Tryz.f213) [1,1,1,1,1])]) (e' := [(0, .pointer (some ⟨B, 0, none⟩)), (2, .func (.func 211) #[] #[]), (7, .int .i64 count), (8, .slice (some ⟨B2, 0, none⟩) 1 cap), (9, .int .i64 i1)]) (L' := [(B, .cells #[.string m0, .int .i64 ra2, .int .i64 re2] 239), (B1, .cells #[.int .i64 r21] 3), (B2, .cells ⟨(([.int .i64 r21] : List Value) ++ r3)⟩ 3)]) ?_ (by kernel_rfl)
   refine AtE.ru 2 ?_
   exact AtE.cut [0,2] H (by kernel_rfl)
  ·replace H := H.2 h5'
   refine AtE.ru 7 ?_
   exact AtE.ret Tryz.func213 (by kernel_rfl) H
 ·replace H := H.2 h4'
  refine AtE.ru 14 ?_
  exact AtE.ret Tryz.func213 (by kernel_rfl) H
theorem readLI_c1_vc (B3 : Nat) (B4 : Nat) (count1 : Int) (l_l : Nat) (l_c : Nat) (i2 : Int) (m01 : ByteArray) (m11 : Int) (m21 : Int) (cs : List Value) {R : Ending → World → Prop} {S : List Nat} {w0 : World}
  (H :
   ((i2 < count1) →
    ((m21 = (0 : Int)) →
     CallH Tryz.prog 211 ⟨[.pointer (some ⟨B3, 0, none⟩)]⟩ [(B3, .cells #[.string m01, .int .i64 m11, .int .i64 m21] 239), (B4, .cells ⟨cs⟩ 3)] S w0 (fun v L' => ∃ (r41 : Int) (ra3 : Int) (re3 : Int), v = (.int .i64 r41) ∧ L' = [(B3, .cells #[.string m01, .int .i64 ra3, .int .i64 re3] 239), (B4, .cells ⟨cs⟩ 3)] ∧
      ∀ B5 : Nat,
      (l_l ≤ l_c ∧ (cs).length = l_c * 1) ∧ ((l_l + 1) ≤ 9223372036854775807 ∧ (l_l + 1) * 8 ≤ 140737488355328) ∧
      ∀ (B6 cap1 : Nat) (r5 : List Value), (l_l + 1) ≤ cap1 → ((cs).take (l_l * 1) ++ ([.int .i64 r41] : List Value) ++ r5).length = cap1 * 1 →
      ∀ i3 : Int, i3 = (IntKind.i64.wrap (i2 + (1 : Int))) →
      readLI_c1 B3 B6 count1 (l_l + 1) cap1 i3 m01 ra3 re3 ((cs).take (l_l * 1) ++ ([.int .i64 r41] : List Value) ++ r5) S w0 R)) ∧
     ((¬ (m21 = (0 : Int))) →
     Fin R [(B3, .cells #[.string m01, .int .i64 m11, .int .i64 m21] 239), (B4, .cells ⟨cs⟩ 3)] S w0 (.slice (some ⟨B4, 0, none⟩) l_l l_c))) ∧
    ((¬ (i2 < count1)) →
    Fin R [(B3, .cells #[.string m01, .int .i64 m11, .int .i64 m21] 239), (B4, .cells ⟨cs⟩ 3)] S w0 (.slice (some ⟨B4, 0, none⟩) l_l l_c))) :
  readLI_c1 B3 B4 count1 l_l l_c i2 m01 m11 m21 cs S w0 R := by
 unfold readLI_c1
 refine AtE.ru 7 ?_
 refine AtE.splitP 32 (p := i2 < count1) (by kernel_rfl) (fun h6' => ?_) (fun h6' => ?_)
 ·replace H := H.1 h6'
  refine AtE.ru 3 ?_
  refine AtE.load 0 2 (T := 31) (v := .int .i64 m21) (by kernel_rfl) ?_
  refine AtE.ru 3 ?_
  refine AtE.splitP 38 (p := m21 = (0 : Int)) (by kernel_rfl) (fun h7' => ?_) (fun h7' => ?_)
  ·replace H := H.1 h7'
   refine AtE.ru 8 ?_
   refine AtE.call 211 ⟨[.pointer (some ⟨B3, 0, none⟩)]⟩ (fun W => by kernel_rfl) (by kernel_rfl) H ?_
   clear H
   rintro _ _ ⟨r41, ra3, re3, rfl, rfl, H⟩
   refine AtE.new (fun B => .slice (some ⟨B, 0, none⟩) 1 1) (.cells #[.int .i64 r41] 3) (fun W => by kernel_rfl) (by kernel_rfl) (fun B5 => ?_)
   replace H := H B5
   refine AtE.appendO 1 (T := 24) (E := 3) (z := .int .i64 (0 : Int)) (sz := 1) (bytes := 8) (n := l_l) (cap := l_c) (a := ⟨B5, 0, none⟩) (m := 1) (c := 1) (cs := cs) ([.int .i64 r41] : List Value) (by kernel_rfl) (show Src _ _ _ _ ([.int .i64 r41] : List Value) from Src.own (j := 2) (o := 0) (n := 1) (c := ([.int .i64 r41] : List Value)) (by kernel_rfl)) (by simp) (by simp [Value.oneCell']) H.1 H.2.1 (fun B6 cap1 r5 h1 h2 => ?_)
   replace H := H.2.2 B6 cap1 r5 h1 h2
   refine AtE.ru 7 ?_
   refine AtE.letI 9 (kd := .i64) (n := (IntKind.i64.wrap (i2 + (1 : Int)))) (by kernel_rfl) (fun i3 hi3 => ?_)
   replace H := H i3 hi3
   refine AtE.norm (k' := [.inRegion (regOps [.code (sub (Eng.body Tryz.f213) [1,1,1,1,0,1,0,0,1,1])]) [], .inLoop (sub (Eng.body Tryz.f213) [1,1,1,1,0,1,0,0]), .inBlock 0, .code (sub (Eng.body Tryz.f213) [1,1,1,1,1])]) (e' := [(0, .pointer (some ⟨B3, 0, none⟩)), (2, .func (.func 211) #[] #[]), (7, .int .i64 count1), (8, .slice (some ⟨B6, 0, none⟩) (l_l + 1) cap1), (9, .int .i64 i3)]) (L' := [(B3, .cells #[.string m01, .int .i64 ra3, .int .i64 re3] 239), (B5, .cells #[.int .i64 r41] 3), (B6, .cells ⟨((cs).take (l_l * 1) ++ ([.int .i64 r41] : List Value) ++ r5)⟩ 3)]) ?_ (by kernel_rfl)
   refine AtE.ru 2 ?_
   exact AtE.cut [0,2] H (by kernel_rfl)
  ·replace H := H.2 h7'
   refine AtE.ru 7 ?_
   exact AtE.ret Tryz.func213 (by kernel_rfl) H
 ·replace H := H.2 h6'
  refine AtE.ru 14 ?_
  exact AtE.ret Tryz.func213 (by kernel_rfl) H
theorem readLI_vc (Rb : Nat) (most : Int) (tx : ByteArray) (ra : Int) (re : Int) {R : Ending → World → Prop} {S : List Nat} {w0 W : World} (hm : Mem [(Rb, .cells #[.string tx, .int .i64 ra, .int .i64 re] 239)] S w0 W)
  (H :
   CallH Tryz.prog 210 ⟨[.pointer (some ⟨Rb, 0, none⟩), .func (.func 111) #[] #[]]⟩ [(Rb, .cells #[.string tx, .int .i64 ra, .int .i64 re] 239)] S w0 (fun v L' => ∃ (r1 : Int) (ra1 : Int) (re1 : Int), v = (.int .i64 r1) ∧ L' = [(Rb, .cells #[.string tx, .int .i64 ra1, .int .i64 re1] 239)] ∧
    ((re1 = (0 : Int)) →
     ((r1 < (0 : Int)) →
      readLI_c0 Rb r1 (0 : Int) tx ra1 (30 : Int) S w0 R) ∧
      ((¬ (r1 < (0 : Int))) →
      ((most < r1) →
       readLI_c0 Rb r1 (0 : Int) tx ra1 (30 : Int) S w0 R) ∧
       ((¬ (most < r1)) →
       readLI_c0 Rb r1 (0 : Int) tx ra1 re1 S w0 R))) ∧
     ((¬ (re1 = (0 : Int))) →
     readLI_c0 Rb r1 (0 : Int) tx ra1 re1 S w0 R))) :
  Calls Tryz.prog 213 ⟨[.pointer (some ⟨Rb, 0, none⟩), .int .i64 most, .func (.func 211) #[] #[]]⟩ W R := by
 refine AtE.calls (nt := 48) Tryz.func213 (by kernel_rfl) hm ?_
 refine AtE.ru 7 ?_
 refine AtE.call 210 ⟨[.pointer (some ⟨Rb, 0, none⟩), .func (.func 111) #[] #[]]⟩ (fun W => by kernel_rfl) (by kernel_rfl) H ?_
 clear H
 rintro _ _ ⟨r1, ra1, re1, rfl, rfl, H⟩
 refine AtE.ru 8 ?_
 refine AtE.load 0 2 (T := 31) (v := .int .i64 re1) (by kernel_rfl) ?_
 refine AtE.ru 2 ?_
 refine AtE.splitP 17 (p := re1 = (0 : Int)) (by kernel_rfl) (fun h1' => ?_) (fun h1' => ?_)
 ·replace H := H.1 h1'
  refine AtE.ru 3 ?_
  refine AtE.splitP 20 (p := r1 < (0 : Int)) (by kernel_rfl) (fun h2' => ?_) (fun h2' => ?_)
  ·replace H := H.1 h2'
   refine AtE.ru 11 ?_
   refine AtE.store 0 2 (T := 31) (v := .int .i64 (30 : Int)) (by kernel_rfl) ?_
   refine AtE.ru 12 ?_
   exact AtE.cut [0] H (by kernel_rfl)
  ·replace H := H.2 h2'
   refine AtE.ru 6 ?_
   refine AtE.splitP 25 (p := most < r1) (by kernel_rfl) (fun h3' => ?_) (fun h3' => ?_)
   ·replace H := H.1 h3'
    refine AtE.ru 5 ?_
    refine AtE.store 0 2 (T := 31) (v := .int .i64 (30 : Int)) (by kernel_rfl) ?_
    refine AtE.ru 12 ?_
    exact AtE.cut [0] H (by kernel_rfl)
   ·replace H := H.2 h3'
    refine AtE.ru 13 ?_
    exact AtE.cut [0] H (by kernel_rfl)
 ·replace H := H.2 h1'
  refine AtE.ru 22 ?_
  exact AtE.cut [0] H (by kernel_rfl)
abbrev readBH0 (Rb : Nat) (tx : ByteArray) (ra3 : Int) (re3 : Int) (B : Nat) (B1 : Nat) (r1 : Int) (r21 : Int) : SHeap := [(Rb, .cells #[.string tx, .int .i64 ra3, .int .i64 re3] 239), (B, .cells #[.int .i64 (0 : Int), .int .i64 (0 : Int), .string (⟨#[]⟩), .int .i64 (0 : Int), .int .i64 (0 : Int), .int .i64 (0 : Int), .slice none 0 0, .int .i64 (0 : Int), .int .i64 (0 : Int)] 89), (B1, .cells #[.int .i64 r1, .int .i64 r21, .string (⟨#[]⟩), .int .i64 (0 : Int), .int .i64 (0 : Int), .int .i64 (0 : Int), .slice none 0 0, .int .i64 (0 : Int), .int .i64 (0 : Int)] 89)]
abbrev readBH1 (Rb : Nat) (tx : ByteArray) (ra6 : Int) (re6 : Int) (B : Nat) (B1 : Nat) (r1 : Int) (r21 : Int) (r31 : ByteArray) (r41 : Int) (r51 : Int) (r61 : Int) : SHeap := [(Rb, .cells #[.string tx, .int .i64 ra6, .int .i64 re6] 239), (B, .cells #[.int .i64 (0 : Int), .int .i64 (0 : Int), .string (⟨#[]⟩), .int .i64 (0 : Int), .int .i64 (0 : Int), .int .i64 (0 : Int), .slice none 0 0, .int .i64 (0 : Int), .int .i64 (0 : Int)] 89), (B1, .cells #[.int .i64 r1, .int .i64 r21, .string r31, .int .i64 r41, .int .i64 r51, .int .i64 r61, .slice none 0 0, .int .i64 (0 : Int), .int .i64 (0 : Int)] 89)]
abbrev readBA0 : Array Value := #[.int .i64 (0 : Int), .int .i64 (0 : Int), .string (⟨#[]⟩), .int .i64 (0 : Int), .int .i64 (0 : Int), .int .i64 (0 : Int), .slice none 0 0, .int .i64 (0 : Int), .int .i64 (0 : Int)]
abbrev readBA1 (r1 : Int) (r21 : Int) (r31 : ByteArray) (r41 : Int) (r51 : Int) (r61 : Int) (r71_p : Option Addr) (r71_l : Nat) (r71_c : Nat) (r81 : Int) (r91 : Int) : Array Value := #[.int .i64 r1, .int .i64 r21, .string r31, .int .i64 r41, .int .i64 r51, .int .i64 r61, .slice r71_p r71_l r71_c, .int .i64 r81, .int .i64 r91]
theorem readB_vc (Rb : Nat) (tx : ByteArray) (ra : Int) (re : Int) {R : Ending → World → Prop} {S : List Nat} {w0 W : World} (hm : Mem [(Rb, .cells #[.string tx, .int .i64 ra, .int .i64 re] 239)] S w0 W)
  (H :
   ∀ B : Nat,
   ∀ B1 : Nat,
   CallH Tryz.prog 211 ⟨[.pointer (some ⟨Rb, 0, none⟩)]⟩ [(Rb, .cells #[.string tx, .int .i64 ra, .int .i64 re] 239), (B, .cells readBA0 89), (B1, .cells readBA0 89)] S w0 (fun v L' => ∃ (r1 : Int) (ra1 : Int) (re1 : Int), v = (.int .i64 r1) ∧ L' = [(Rb, .cells #[.string tx, .int .i64 ra1, .int .i64 re1] 239), (B, .cells readBA0 89), (B1, .cells readBA0 89)] ∧
    CallH Tryz.prog 211 ⟨[.pointer (some ⟨Rb, 0, none⟩)]⟩ [(Rb, .cells #[.string tx, .int .i64 ra1, .int .i64 re1] 239), (B, .cells readBA0 89), (B1, .cells #[.int .i64 r1, .int .i64 (0 : Int), .string (⟨#[]⟩), .int .i64 (0 : Int), .int .i64 (0 : Int), .int .i64 (0 : Int), .slice none 0 0, .int .i64 (0 : Int), .int .i64 (0 : Int)] 89)] S w0 (fun v L' => ∃ (r21 : Int) (ra2 : Int) (re2 : Int), v = (.int .i64 r21) ∧ L' = [(Rb, .cells #[.string tx, .int .i64 ra2, .int .i64 re2] 239), (B, .cells readBA0 89), (B1, .cells #[.int .i64 r1, .int .i64 (0 : Int), .string (⟨#[]⟩), .int .i64 (0 : Int), .int .i64 (0 : Int), .int .i64 (0 : Int), .slice none 0 0, .int .i64 (0 : Int), .int .i64 (0 : Int)] 89)] ∧
     CallH Tryz.prog 212 ⟨[.pointer (some ⟨Rb, 0, none⟩), .func (.func 156) #[] #[]]⟩ [(Rb, .cells #[.string tx, .int .i64 ra2, .int .i64 re2] 239), (B, .cells readBA0 89), (B1, .cells #[.int .i64 r1, .int .i64 r21, .string (⟨#[]⟩), .int .i64 (0 : Int), .int .i64 (0 : Int), .int .i64 (0 : Int), .slice none 0 0, .int .i64 (0 : Int), .int .i64 (0 : Int)] 89)] S w0 (fun v L' => ∃ (r31 : ByteArray) (ra3 : Int) (re3 : Int), v = (.string r31) ∧ L' = (readBH0 Rb tx ra3 re3 B B1 r1 r21) ∧
      CallH Tryz.prog 211 ⟨[.pointer (some ⟨Rb, 0, none⟩)]⟩ [(Rb, .cells #[.string tx, .int .i64 ra3, .int .i64 re3] 239), (B, .cells readBA0 89), (B1, .cells #[.int .i64 r1, .int .i64 r21, .string r31, .int .i64 (0 : Int), .int .i64 (0 : Int), .int .i64 (0 : Int), .slice none 0 0, .int .i64 (0 : Int), .int .i64 (0 : Int)] 89)] S w0 (fun v L' => ∃ (r41 : Int) (ra4 : Int) (re4 : Int), v = (.int .i64 r41) ∧ L' = [(Rb, .cells #[.string tx, .int .i64 ra4, .int .i64 re4] 239), (B, .cells readBA0 89), (B1, .cells #[.int .i64 r1, .int .i64 r21, .string r31, .int .i64 (0 : Int), .int .i64 (0 : Int), .int .i64 (0 : Int), .slice none 0 0, .int .i64 (0 : Int), .int .i64 (0 : Int)] 89)] ∧
       CallH Tryz.prog 211 ⟨[.pointer (some ⟨Rb, 0, none⟩)]⟩ [(Rb, .cells #[.string tx, .int .i64 ra4, .int .i64 re4] 239), (B, .cells readBA0 89), (B1, .cells #[.int .i64 r1, .int .i64 r21, .string r31, .int .i64 r41, .int .i64 (0 : Int), .int .i64 (0 : Int), .slice none 0 0, .int .i64 (0 : Int), .int .i64 (0 : Int)] 89)] S w0 (fun v L' => ∃ (r51 : Int) (ra5 : Int) (re5 : Int), v = (.int .i64 r51) ∧ L' = [(Rb, .cells #[.string tx, .int .i64 ra5, .int .i64 re5] 239), (B, .cells readBA0 89), (B1, .cells #[.int .i64 r1, .int .i64 r21, .string r31, .int .i64 r41, .int .i64 (0 : Int), .int .i64 (0 : Int), .slice none 0 0, .int .i64 (0 : Int), .int .i64 (0 : Int)] 89)] ∧
        CallH Tryz.prog 211 ⟨[.pointer (some ⟨Rb, 0, none⟩)]⟩ [(Rb, .cells #[.string tx, .int .i64 ra5, .int .i64 re5] 239), (B, .cells readBA0 89), (B1, .cells #[.int .i64 r1, .int .i64 r21, .string r31, .int .i64 r41, .int .i64 r51, .int .i64 (0 : Int), .slice none 0 0, .int .i64 (0 : Int), .int .i64 (0 : Int)] 89)] S w0 (fun v L' => ∃ (r61 : Int) (ra6 : Int) (re6 : Int), v = (.int .i64 r61) ∧ L' = [(Rb, .cells #[.string tx, .int .i64 ra6, .int .i64 re6] 239), (B, .cells readBA0 89), (B1, .cells #[.int .i64 r1, .int .i64 r21, .string r31, .int .i64 r41, .int .i64 r51, .int .i64 (0 : Int), .slice none 0 0, .int .i64 (0 : Int), .int .i64 (0 : Int)] 89)] ∧
         CallH Tryz.prog 213 ⟨[.pointer (some ⟨Rb, 0, none⟩), .int .i64 (64 : Int), .func (.func 211) #[] #[]]⟩ (readBH1 Rb tx ra6 re6 B B1 r1 r21 r31 r41 r51 r61) S w0 (fun v L' => ∃ (r71_p : Option Addr) (r71_l : Nat) (r71_c : Nat) (ra7 : Int) (re7 : Int) (F : SHeap), v = (.slice r71_p r71_l r71_c) ∧ L' = ((Rb, .cells #[.string tx, .int .i64 ra7, .int .i64 re7] 239) :: (B, .cells readBA0 89) :: (B1, .cells #[.int .i64 r1, .int .i64 r21, .string r31, .int .i64 r41, .int .i64 r51, .int .i64 r61, .slice none 0 0, .int .i64 (0 : Int), .int .i64 (0 : Int)] 89) :: F) ∧
          CallH Tryz.prog 211 ⟨[.pointer (some ⟨Rb, 0, none⟩)]⟩ ((Rb, .cells #[.string tx, .int .i64 ra7, .int .i64 re7] 239) :: (B, .cells readBA0 89) :: (B1, .cells #[.int .i64 r1, .int .i64 r21, .string r31, .int .i64 r41, .int .i64 r51, .int .i64 r61, .slice r71_p r71_l r71_c, .int .i64 (0 : Int), .int .i64 (0 : Int)] 89) :: F) S w0 (fun v L' => ∃ (r81 : Int) (ra8 : Int) (re8 : Int), v = (.int .i64 r81) ∧ L' = ((Rb, .cells #[.string tx, .int .i64 ra8, .int .i64 re8] 239) :: (B, .cells readBA0 89) :: (B1, .cells #[.int .i64 r1, .int .i64 r21, .string r31, .int .i64 r41, .int .i64 r51, .int .i64 r61, .slice r71_p r71_l r71_c, .int .i64 (0 : Int), .int .i64 (0 : Int)] 89) :: F) ∧
           CallH Tryz.prog 211 ⟨[.pointer (some ⟨Rb, 0, none⟩)]⟩ ((Rb, .cells #[.string tx, .int .i64 ra8, .int .i64 re8] 239) :: (B, .cells readBA0 89) :: (B1, .cells #[.int .i64 r1, .int .i64 r21, .string r31, .int .i64 r41, .int .i64 r51, .int .i64 r61, .slice r71_p r71_l r71_c, .int .i64 r81, .int .i64 (0 : Int)] 89) :: F) S w0 (fun v L' => ∃ (r91 : Int) (ra9 : Int) (re9 : Int), v = (.int .i64 r91) ∧ L' = ((Rb, .cells #[.string tx, .int .i64 ra9, .int .i64 re9] 239) :: (B, .cells readBA0 89) :: (B1, .cells #[.int .i64 r1, .int .i64 r21, .string r31, .int .i64 r41, .int .i64 r51, .int .i64 r61, .slice r71_p r71_l r71_c, .int .i64 r81, .int .i64 (0 : Int)] 89) :: F) ∧
            Fin R ((Rb, .cells #[.string tx, .int .i64 ra9, .int .i64 re9] 239) :: (B, .cells (readBA1 r1 r21 r31 r41 r51 r61 r71_p r71_l r71_c r81 r91) 89) :: (B1, .cells (readBA1 r1 r21 r31 r41 r51 r61 r71_p r71_l r71_c r81 r91) 89) :: F) S w0 (.agg (readBA1 r1 r21 r31 r41 r51 r61 r71_p r71_l r71_c r81 r91)))))))))))) :
  Calls Tryz.prog 194 ⟨[.pointer (some ⟨Rb, 0, none⟩)]⟩ W R := by
 refine AtE.calls (nt := 36) Tryz.func194 (by kernel_rfl) hm ?_
 refine AtE.ru 2 ?_
 refine AtE.new (fun B => .pointer (some ⟨B, 0, none⟩)) (.cells readBA0 89) (fun W => by kernel_rfl) (by kernel_rfl) (fun B => ?_)
 replace H := H B
 refine AtE.ru 3 ?_
 refine AtE.new (fun B => .pointer (some ⟨B, 0, none⟩)) (.cells readBA0 89) (fun W => by kernel_rfl) (by kernel_rfl) (fun B1 => ?_)
 replace H := H B1
 refine AtE.ru 4 ?_
 refine AtE.call 211 ⟨[.pointer (some ⟨Rb, 0, none⟩)]⟩ (fun W => by kernel_rfl) (by kernel_rfl) H ?_
 clear H
 rintro _ _ ⟨r1, ra1, re1, rfl, rfl, H⟩
 refine AtE.ru 1 ?_
 refine AtE.store 2 0 (T := 3) (v := .int .i64 r1) (by kernel_rfl) ?_
 refine AtE.ru 4 ?_
 refine AtE.call 211 ⟨[.pointer (some ⟨Rb, 0, none⟩)]⟩ (fun W => by kernel_rfl) (by kernel_rfl) H ?_
 clear H
 rintro _ _ ⟨r21, ra2, re2, rfl, rfl, H⟩
 refine AtE.ru 1 ?_
 refine AtE.store 2 1 (T := 3) (v := .int .i64 r21) (by kernel_rfl) ?_
 refine AtE.ru 4 ?_
 refine AtE.call 212 ⟨[.pointer (some ⟨Rb, 0, none⟩), .func (.func 156) #[] #[]]⟩ (fun W => by kernel_rfl) (by kernel_rfl) H ?_
 clear H
 rintro _ _ ⟨r31, ra3, re3, rfl, rfl, H⟩
 refine AtE.norm (k' := [.inRegion (regOps [.code (sub (Eng.body Tryz.f194) [1,1,1,1,0])]) [2,3], .code (sub (Eng.body Tryz.f194) [1,1,1,1,1])]) (e' := [(0, .pointer (some ⟨Rb, 0, none⟩)), (2, .pointer (some ⟨B, 0, none⟩)), (3, .pointer (some ⟨B1, 0, none⟩)), (11, .string r31)]) (L' := (readBH0 Rb tx ra3 re3 B B1 r1 r21)) ?_ (by kernel_rfl)
 refine AtE.ru 1 ?_
 refine AtE.store 2 2 (T := 9) (v := .string r31) (by kernel_rfl) ?_
 refine AtE.ru 4 ?_
 refine AtE.call 211 ⟨[.pointer (some ⟨Rb, 0, none⟩)]⟩ (fun W => by kernel_rfl) (by kernel_rfl) H ?_
 clear H
 rintro _ _ ⟨r41, ra4, re4, rfl, rfl, H⟩
 refine AtE.ru 1 ?_
 refine AtE.store 2 3 (T := 3) (v := .int .i64 r41) (by kernel_rfl) ?_
 refine AtE.ru 4 ?_
 refine AtE.call 211 ⟨[.pointer (some ⟨Rb, 0, none⟩)]⟩ (fun W => by kernel_rfl) (by kernel_rfl) H ?_
 clear H
 rintro _ _ ⟨r51, ra5, re5, rfl, rfl, H⟩
 refine AtE.ru 1 ?_
 refine AtE.store 2 4 (T := 3) (v := .int .i64 r51) (by kernel_rfl) ?_
 refine AtE.ru 4 ?_
 refine AtE.call 211 ⟨[.pointer (some ⟨Rb, 0, none⟩)]⟩ (fun W => by kernel_rfl) (by kernel_rfl) H ?_
 clear H
 rintro _ _ ⟨r61, ra6, re6, rfl, rfl, H⟩
 refine AtE.ru 2 ?_
 refine AtE.store 2 5 (T := 3) (v := .int .i64 r61) (by kernel_rfl) ?_
 refine AtE.norm (k' := [.inRegion (regOps [.code (sub (Eng.body Tryz.f194) [1,1,1,1,1,1,1,0])]) [], .code (sub (Eng.body Tryz.f194) [1,1,1,1,1,1,1,1])]) (e' := [(0, .pointer (some ⟨Rb, 0, none⟩)), (2, .pointer (some ⟨B, 0, none⟩)), (3, .pointer (some ⟨B1, 0, none⟩))]) (L' := (readBH1 Rb tx ra6 re6 B B1 r1 r21 r31 r41 r51 r61)) ?_ (by kernel_rfl)
 refine AtE.ru 4 ?_
 refine AtE.call 213 ⟨[.pointer (some ⟨Rb, 0, none⟩), .int .i64 (64 : Int), .func (.func 211) #[] #[]]⟩ (fun W => by kernel_rfl) (by kernel_rfl) H ?_
 clear H
 rintro _ _ ⟨r71_p, r71_l, r71_c, ra7, re7, F, rfl, rfl, H⟩
 refine AtE.ru 2 ?_
 refine AtE.store 2 6 (T := 24) (v := .slice r71_p r71_l r71_c) (by kernel_rfl) ?_
 refine AtE.ru 4 ?_
 refine AtE.call 211 ⟨[.pointer (some ⟨Rb, 0, none⟩)]⟩ (fun W => by kernel_rfl) (by kernel_rfl) H ?_
 clear H
 rintro _ _ ⟨r81, ra8, re8, rfl, rfl, H⟩
 refine AtE.ru 2 ?_
 refine AtE.store 2 7 (T := 3) (v := .int .i64 r81) (by kernel_rfl) ?_
 refine AtE.ru 4 ?_
 refine AtE.call 211 ⟨[.pointer (some ⟨Rb, 0, none⟩)]⟩ (fun W => by kernel_rfl) (by kernel_rfl) H ?_
 clear H
 rintro _ _ ⟨r91, ra9, re9, rfl, rfl, H⟩
 refine AtE.ru 2 ?_
 refine AtE.store 2 8 (T := 3) (v := .int .i64 r91) (by kernel_rfl) ?_
 refine AtE.ru 3 ?_
 refine AtE.load 2 0 (T := 89) (v := .agg (readBA1 r1 r21 r31 r41 r51 r61 r71_p r71_l r71_c r81 r91)) (by kernel_rfl) ?_
 refine AtE.norm (k' := [.inRegion (regOps [.code (sub (Eng.body Tryz.f194) [1,1,1,1,1,1,1,1,1,1,1,0])]) [1], .code (sub (Eng.body Tryz.f194) [1,1,1,1,1,1,1,1,1,1,1,1])]) (e' := [(2, .pointer (some ⟨B, 0, none⟩)), (35, .agg (readBA1 r1 r21 r31 r41 r51 r61 r71_p r71_l r71_c r81 r91))]) (L' := ((Rb, .cells #[.string tx, .int .i64 ra9, .int .i64 re9] 239) :: (B, .cells readBA0 89) :: (B1, .cells (readBA1 r1 r21 r31 r41 r51 r61 r71_p r71_l r71_c r81 r91) 89) :: F)) ?_ (by kernel_rfl)
 refine AtE.store 1 0 (T := 89) (v := .agg (readBA1 r1 r21 r31 r41 r51 r61 r71_p r71_l r71_c r81 r91)) (by kernel_rfl) ?_
 refine AtE.ru 1 ?_
 exact AtE.retC 1 0 (a := 2) (T := 89) (v := .agg (readBA1 r1 r21 r31 r41 r51 r61 r71_p r71_l r71_c r81 r91)) Tryz.func194 (by kernel_rfl) (by kernel_rfl) H
def readLB_c0 (B : Nat) (count : Int) (i : Int) (m0 : ByteArray) (m1 : Int) (m2 : Int) (F1 : SHeap) (S : List Nat) (w0 : World) (R : Ending → World → Prop) : Prop :=
 AtE Tryz.prog 193 48 [.code (sub (Eng.body Tryz.f193) [1,1,1,1,0,1,0,0]), .inLoop (sub (Eng.body Tryz.f193) [1,1,1,1,0,1,0,0]), .inBlock 0, .code (sub (Eng.body Tryz.f193) [1,1,1,1,1])] [(0, .pointer (some ⟨B, 0, none⟩)), (2, .func (.func 194) #[] #[]), (7, .int .i64 count), (8, .slice none 0 0), (9, .int .i64 i)] ((B, .cells #[.string m0, .int .i64 m1, .int .i64 m2] 239) :: F1) S w0 (nrm R)
def readLB_c1 (B3 : Nat) (B4 : Nat) (count1 : Int) (l_l : Nat) (l_c : Nat) (i2 : Int) (m01 : ByteArray) (m11 : Int) (m21 : Int) (cs : List Value) (F3 : SHeap) (S : List Nat) (w0 : World) (R : Ending → World → Prop) : Prop :=
 AtE Tryz.prog 193 48 [.code (sub (Eng.body Tryz.f193) [1,1,1,1,0,1,0,0]), .inLoop (sub (Eng.body Tryz.f193) [1,1,1,1,0,1,0,0]), .inBlock 0, .code (sub (Eng.body Tryz.f193) [1,1,1,1,1])] [(0, .pointer (some ⟨B3, 0, none⟩)), (2, .func (.func 194) #[] #[]), (7, .int .i64 count1), (8, .slice (some ⟨B4, 0, none⟩) l_l l_c), (9, .int .i64 i2)] ((B3, .cells #[.string m01, .int .i64 m11, .int .i64 m21] 239) :: (B4, .cells ⟨cs⟩ 89) :: F3) S w0 (nrm R)
theorem readLB_c0_vc (B : Nat) (count : Int) (i : Int) (m0 : ByteArray) (m1 : Int) (m2 : Int) (F1 : SHeap) {R : Ending → World → Prop} {S : List Nat} {w0 : World}
  (H :
   ((i < count) →
    ((m2 = (0 : Int)) →
     CallH Tryz.prog 194 ⟨[.pointer (some ⟨B, 0, none⟩)]⟩ ((B, .cells #[.string m0, .int .i64 m1, .int .i64 m2] 239) :: F1) S w0 (fun v L' => ∃ (r2_0 : Int) (r2_1 : Int) (r2_2 : ByteArray) (r2_3 : Int) (r2_4 : Int) (r2_5 : Int) (r2_6_p : Option Addr) (r2_6_l : Nat) (r2_6_c : Nat) (r2_7 : Int) (r2_8 : Int) (ra2 : Int) (re2 : Int) (F2 : SHeap), v = (.agg #[.int .i64 r2_0, .int .i64 r2_1, .string r2_2, .int .i64 r2_3, .int .i64 r2_4, .int .i64 r2_5, .slice r2_6_p r2_6_l r2_6_c, .int .i64 r2_7, .int .i64 r2_8]) ∧ L' = ((B, .cells #[.string m0, .int .i64 ra2, .int .i64 re2] 239) :: F2) ∧
      ∀ B1 : Nat,
      ∀ (B2 cap : Nat) (r3 : List Value), 1 ≤ cap → (([.int .i64 r2_0, .int .i64 r2_1, .string r2_2, .int .i64 r2_3, .int .i64 r2_4, .int .i64 r2_5, .slice r2_6_p r2_6_l r2_6_c, .int .i64 r2_7, .int .i64 r2_8] : List Value) ++ r3).length = cap * 9 →
      ∀ i1 : Int, i1 = (IntKind.i64.wrap (i + (1 : Int))) →
      readLB_c1 B B2 count 1 cap i1 m0 ra2 re2 (([.int .i64 r2_0, .int .i64 r2_1, .string r2_2, .int .i64 r2_3, .int .i64 r2_4, .int .i64 r2_5, .slice r2_6_p r2_6_l r2_6_c, .int .i64 r2_7, .int .i64 r2_8] : List Value) ++ r3) F2 S w0 R)) ∧
     ((¬ (m2 = (0 : Int))) →
     Fin R ((B, .cells #[.string m0, .int .i64 m1, .int .i64 m2] 239) :: F1) S w0 (.slice none 0 0))) ∧
    ((¬ (i < count)) →
    Fin R ((B, .cells #[.string m0, .int .i64 m1, .int .i64 m2] 239) :: F1) S w0 (.slice none 0 0))) :
  readLB_c0 B count i m0 m1 m2 F1 S w0 R := by
 unfold readLB_c0
 refine AtE.ru 7 ?_
 refine AtE.splitP 32 (p := i < count) (by kernel_rfl) (fun h4' => ?_) (fun h4' => ?_)
 ·replace H := H.1 h4'
  refine AtE.ru 3 ?_
  refine AtE.load 0 2 (T := 31) (v := .int .i64 m2) (by kernel_rfl) ?_
  refine AtE.ru 3 ?_
  refine AtE.splitP 38 (p := m2 = (0 : Int)) (by kernel_rfl) (fun h5' => ?_) (fun h5' => ?_)
  ·replace H := H.1 h5'
   refine AtE.ru 8 ?_
   refine AtE.call 194 ⟨[.pointer (some ⟨B, 0, none⟩)]⟩ (fun W => by kernel_rfl) (by kernel_rfl) H ?_
   clear H
   rintro _ _ ⟨r2_0, r2_1, r2_2, r2_3, r2_4, r2_5, r2_6_p, r2_6_l, r2_6_c, r2_7, r2_8, ra2, re2, F2, rfl, rfl, H⟩
   refine AtE.new (fun B => .slice (some ⟨B, 0, none⟩) 1 1) (.cells #[.int .i64 r2_0, .int .i64 r2_1, .string r2_2, .int .i64 r2_3, .int .i64 r2_4, .int .i64 r2_5, .slice r2_6_p r2_6_l r2_6_c, .int .i64 r2_7, .int .i64 r2_8] 89) (fun W => by kernel_rfl) (by kernel_rfl) (fun B1 => ?_)
   replace H := H B1
   refine AtE.front ?_
   refine AtE.appendN (T := 23) (E := 89) (z := .agg #[.int .i64 (0 : Int), .int .i64 (0 : Int), .string (⟨#[]⟩), .int .i64 (0 : Int), .int .i64 (0 : Int), .int .i64 (0 : Int), .slice none 0 0, .int .i64 (0 : Int), .int .i64 (0 : Int)]) (sz := 9) (bytes := 96) (a := ⟨B1, 0, none⟩) (m := 1) (c := 1) ([.int .i64 r2_0, .int .i64 r2_1, .string r2_2, .int .i64 r2_3, .int .i64 r2_4, .int .i64 r2_5, .slice r2_6_p r2_6_l r2_6_c, .int .i64 r2_7, .int .i64 r2_8] : List Value) (by kernel_rfl) (show Src _ _ _ _ ([.int .i64 r2_0, .int .i64 r2_1, .string r2_2, .int .i64 r2_3, .int .i64 r2_4, .int .i64 r2_5, .slice r2_6_p r2_6_l r2_6_c, .int .i64 r2_7, .int .i64 r2_8] : List Value) from Src.own (j := 0) (o := 0) (n := 9) (c := ([.int .i64 r2_0, .int .i64 r2_1, .string r2_2, .int .i64 r2_3, .int .i64 r2_4, .int .i64 r2_5, .slice r2_6_p r2_6_l r2_6_c, .int .i64 r2_7, .int .i64 r2_8] : List Value)) (by kernel_rfl)) (by simp) (by omega) (by omega) (fun B2 cap r3 h1 h2 => ?_)
   replace H := H B2 cap r3 h1 h2
   refine AtE.front ?_
   refine AtE.ru 7 ?_
   refine AtE.letI 9 (kd := .i64) (n := (IntKind.i64.wrap (i + (1 : Int)))) (by kernel_rfl) (fun i1 hi1 => ?_)
   replace H := H i1 hi1
   refine AtE.norm (k' := [.inRegion (regOps [.code (sub (Eng.body Tryz.f193) [1,1,1,1,0,1,0,0,1,1])]) [], .inLoop (sub (Eng.body Tryz.f193) [1,1,1,1,0,1,0,0]), .inBlock 0, .code (sub (Eng.body Tryz.f193) [1,1,1,1,1])]) (e' := [(0, .pointer (some ⟨B, 0, none⟩)), (2, .func (.func 194) #[] #[]), (7, .int .i64 count), (8, .slice (some ⟨B2, 0, none⟩) 1 cap), (9, .int .i64 i1)]) (L' := ((B2, .cells ⟨(([.int .i64 r2_0, .int .i64 r2_1, .string r2_2, .int .i64 r2_3, .int .i64 r2_4, .int .i64 r2_5, .slice r2_6_p r2_6_l r2_6_c, .int .i64 r2_7, .int .i64 r2_8] : List Value) ++ r3)⟩ 89) :: (B1, .cells #[.int .i64 r2_0, .int .i64 r2_1, .string r2_2, .int .i64 r2_3, .int .i64 r2_4, .int .i64 r2_5, .slice r2_6_p r2_6_l r2_6_c, .int .i64 r2_7, .int .i64 r2_8] 89) :: (B, .cells #[.string m0, .int .i64 ra2, .int .i64 re2] 239) :: F2)) ?_ (by kernel_rfl)
   refine AtE.ru 2 ?_
   exact AtE.cutT [2,0] 3 H (by kernel_rfl)
  ·replace H := H.2 h5'
   refine AtE.ru 7 ?_
   exact AtE.ret Tryz.func193 (by kernel_rfl) H
 ·replace H := H.2 h4'
  refine AtE.ru 14 ?_
  exact AtE.ret Tryz.func193 (by kernel_rfl) H
theorem readLB_c1_vc (B3 : Nat) (B4 : Nat) (count1 : Int) (l_l : Nat) (l_c : Nat) (i2 : Int) (m01 : ByteArray) (m11 : Int) (m21 : Int) (cs : List Value) (F3 : SHeap) {R : Ending → World → Prop} {S : List Nat} {w0 : World}
  (H :
   ((i2 < count1) →
    ((m21 = (0 : Int)) →
     CallH Tryz.prog 194 ⟨[.pointer (some ⟨B3, 0, none⟩)]⟩ ((B3, .cells #[.string m01, .int .i64 m11, .int .i64 m21] 239) :: (B4, .cells ⟨cs⟩ 89) :: F3) S w0 (fun v L' => ∃ (r4_0 : Int) (r4_1 : Int) (r4_2 : ByteArray) (r4_3 : Int) (r4_4 : Int) (r4_5 : Int) (r4_6_p : Option Addr) (r4_6_l : Nat) (r4_6_c : Nat) (r4_7 : Int) (r4_8 : Int) (ra3 : Int) (re3 : Int) (F4 : SHeap), v = (.agg #[.int .i64 r4_0, .int .i64 r4_1, .string r4_2, .int .i64 r4_3, .int .i64 r4_4, .int .i64 r4_5, .slice r4_6_p r4_6_l r4_6_c, .int .i64 r4_7, .int .i64 r4_8]) ∧ L' = ((B3, .cells #[.string m01, .int .i64 ra3, .int .i64 re3] 239) :: (B4, .cells ⟨cs⟩ 89) :: F4) ∧
      ∀ B5 : Nat,
      (l_l ≤ l_c ∧ (cs).length = l_c * 9) ∧ ((l_l + 1) ≤ 9223372036854775807 ∧ (l_l + 1) * 96 ≤ 140737488355328) ∧
      ∀ (B6 cap1 : Nat) (r5 : List Value), (l_l + 1) ≤ cap1 → ((cs).take (l_l * 9) ++ ([.int .i64 r4_0, .int .i64 r4_1, .string r4_2, .int .i64 r4_3, .int .i64 r4_4, .int .i64 r4_5, .slice r4_6_p r4_6_l r4_6_c, .int .i64 r4_7, .int .i64 r4_8] : List Value) ++ r5).length = cap1 * 9 →
      ∀ i3 : Int, i3 = (IntKind.i64.wrap (i2 + (1 : Int))) →
      readLB_c1 B3 B6 count1 (l_l + 1) cap1 i3 m01 ra3 re3 ((cs).take (l_l * 9) ++ ([.int .i64 r4_0, .int .i64 r4_1, .string r4_2, .int .i64 r4_3, .int .i64 r4_4, .int .i64 r4_5, .slice r4_6_p r4_6_l r4_6_c, .int .i64 r4_7, .int .i64 r4_8] : List Value) ++ r5) F4 S w0 R)) ∧
     ((¬ (m21 = (0 : Int))) →
     Fin R ((B3, .cells #[.string m01, .int .i64 m11, .int .i64 m21] 239) :: (B4, .cells ⟨cs⟩ 89) :: F3) S w0 (.slice (some ⟨B4, 0, none⟩) l_l l_c))) ∧
    ((¬ (i2 < count1)) →
    Fin R ((B3, .cells #[.string m01, .int .i64 m11, .int .i64 m21] 239) :: (B4, .cells ⟨cs⟩ 89) :: F3) S w0 (.slice (some ⟨B4, 0, none⟩) l_l l_c))) :
  readLB_c1 B3 B4 count1 l_l l_c i2 m01 m11 m21 cs F3 S w0 R := by
 unfold readLB_c1
 refine AtE.ru 7 ?_
 refine AtE.splitP 32 (p := i2 < count1) (by kernel_rfl) (fun h6' => ?_) (fun h6' => ?_)
 ·replace H := H.1 h6'
  refine AtE.ru 3 ?_
  refine AtE.load 0 2 (T := 31) (v := .int .i64 m21) (by kernel_rfl) ?_
  refine AtE.ru 3 ?_
  refine AtE.splitP 38 (p := m21 = (0 : Int)) (by kernel_rfl) (fun h7' => ?_) (fun h7' => ?_)
  ·replace H := H.1 h7'
   refine AtE.ru 8 ?_
   refine AtE.call 194 ⟨[.pointer (some ⟨B3, 0, none⟩)]⟩ (fun W => by kernel_rfl) (by kernel_rfl) H ?_
   clear H
   rintro _ _ ⟨r4_0, r4_1, r4_2, r4_3, r4_4, r4_5, r4_6_p, r4_6_l, r4_6_c, r4_7, r4_8, ra3, re3, F4, rfl, rfl, H⟩
   refine AtE.new (fun B => .slice (some ⟨B, 0, none⟩) 1 1) (.cells #[.int .i64 r4_0, .int .i64 r4_1, .string r4_2, .int .i64 r4_3, .int .i64 r4_4, .int .i64 r4_5, .slice r4_6_p r4_6_l r4_6_c, .int .i64 r4_7, .int .i64 r4_8] 89) (fun W => by kernel_rfl) (by kernel_rfl) (fun B5 => ?_)
   replace H := H B5
   refine AtE.front ?_
   refine AtE.appendO 2 (T := 23) (E := 89) (z := .agg #[.int .i64 (0 : Int), .int .i64 (0 : Int), .string (⟨#[]⟩), .int .i64 (0 : Int), .int .i64 (0 : Int), .int .i64 (0 : Int), .slice none 0 0, .int .i64 (0 : Int), .int .i64 (0 : Int)]) (sz := 9) (bytes := 96) (n := l_l) (cap := l_c) (a := ⟨B5, 0, none⟩) (m := 1) (c := 1) (cs := cs) ([.int .i64 r4_0, .int .i64 r4_1, .string r4_2, .int .i64 r4_3, .int .i64 r4_4, .int .i64 r4_5, .slice r4_6_p r4_6_l r4_6_c, .int .i64 r4_7, .int .i64 r4_8] : List Value) (by kernel_rfl) (show Src _ _ _ _ ([.int .i64 r4_0, .int .i64 r4_1, .string r4_2, .int .i64 r4_3, .int .i64 r4_4, .int .i64 r4_5, .slice r4_6_p r4_6_l r4_6_c, .int .i64 r4_7, .int .i64 r4_8] : List Value) from Src.own (j := 0) (o := 0) (n := 9) (c := ([.int .i64 r4_0, .int .i64 r4_1, .string r4_2, .int .i64 r4_3, .int .i64 r4_4, .int .i64 r4_5, .slice r4_6_p r4_6_l r4_6_c, .int .i64 r4_7, .int .i64 r4_8] : List Value)) (by kernel_rfl)) (by simp) (by simp [Value.oneCell']) H.1 H.2.1 (fun B6 cap1 r5 h1 h2 => ?_)
   replace H := H.2.2 B6 cap1 r5 h1 h2
   refine AtE.front ?_
   refine AtE.ru 7 ?_
   refine AtE.letI 9 (kd := .i64) (n := (IntKind.i64.wrap (i2 + (1 : Int)))) (by kernel_rfl) (fun i3 hi3 => ?_)
   replace H := H i3 hi3
   refine AtE.norm (k' := [.inRegion (regOps [.code (sub (Eng.body Tryz.f193) [1,1,1,1,0,1,0,0,1,1])]) [], .inLoop (sub (Eng.body Tryz.f193) [1,1,1,1,0,1,0,0]), .inBlock 0, .code (sub (Eng.body Tryz.f193) [1,1,1,1,1])]) (e' := [(0, .pointer (some ⟨B3, 0, none⟩)), (2, .func (.func 194) #[] #[]), (7, .int .i64 count1), (8, .slice (some ⟨B6, 0, none⟩) (l_l + 1) cap1), (9, .int .i64 i3)]) (L' := ((B6, .cells ⟨((cs).take (l_l * 9) ++ ([.int .i64 r4_0, .int .i64 r4_1, .string r4_2, .int .i64 r4_3, .int .i64 r4_4, .int .i64 r4_5, .slice r4_6_p r4_6_l r4_6_c, .int .i64 r4_7, .int .i64 r4_8] : List Value) ++ r5)⟩ 89) :: (B5, .cells #[.int .i64 r4_0, .int .i64 r4_1, .string r4_2, .int .i64 r4_3, .int .i64 r4_4, .int .i64 r4_5, .slice r4_6_p r4_6_l r4_6_c, .int .i64 r4_7, .int .i64 r4_8] 89) :: (B3, .cells #[.string m01, .int .i64 ra3, .int .i64 re3] 239) :: F4)) ?_ (by kernel_rfl)
   refine AtE.ru 2 ?_
   exact AtE.cutT [2,0] 3 H (by kernel_rfl)
  ·replace H := H.2 h7'
   refine AtE.ru 7 ?_
   exact AtE.ret Tryz.func193 (by kernel_rfl) H
 ·replace H := H.2 h6'
  refine AtE.ru 14 ?_
  exact AtE.ret Tryz.func193 (by kernel_rfl) H
theorem readLB_vc (Rb : Nat) (most : Int) (tx : ByteArray) (ra : Int) (re : Int) (F : SHeap) {R : Ending → World → Prop} {S : List Nat} {w0 W : World} (hm : Mem ((Rb, .cells #[.string tx, .int .i64 ra, .int .i64 re] 239) :: F) S w0 W)
  (H :
   CallH Tryz.prog 210 ⟨[.pointer (some ⟨Rb, 0, none⟩), .func (.func 111) #[] #[]]⟩ ((Rb, .cells #[.string tx, .int .i64 ra, .int .i64 re] 239) :: F) S w0 (fun v L' => ∃ (r1 : Int) (ra1 : Int) (re1 : Int), v = (.int .i64 r1) ∧ L' = ((Rb, .cells #[.string tx, .int .i64 ra1, .int .i64 re1] 239) :: F) ∧
    ((re1 = (0 : Int)) →
     ((r1 < (0 : Int)) →
      readLB_c0 Rb r1 (0 : Int) tx ra1 (30 : Int) F S w0 R) ∧
      ((¬ (r1 < (0 : Int))) →
      ((most < r1) →
       readLB_c0 Rb r1 (0 : Int) tx ra1 (30 : Int) F S w0 R) ∧
       ((¬ (most < r1)) →
       readLB_c0 Rb r1 (0 : Int) tx ra1 re1 F S w0 R))) ∧
     ((¬ (re1 = (0 : Int))) →
     readLB_c0 Rb r1 (0 : Int) tx ra1 re1 F S w0 R))) :
  Calls Tryz.prog 193 ⟨[.pointer (some ⟨Rb, 0, none⟩), .int .i64 most, .func (.func 194) #[] #[]]⟩ W R := by
 refine AtE.calls (nt := 48) Tryz.func193 (by kernel_rfl) hm ?_
 refine AtE.ru 7 ?_
 refine AtE.call 210 ⟨[.pointer (some ⟨Rb, 0, none⟩), .func (.func 111) #[] #[]]⟩ (fun W => by kernel_rfl) (by kernel_rfl) H ?_
 clear H
 rintro _ _ ⟨r1, ra1, re1, rfl, rfl, H⟩
 refine AtE.ru 8 ?_
 refine AtE.load 0 2 (T := 31) (v := .int .i64 re1) (by kernel_rfl) ?_
 refine AtE.ru 2 ?_
 refine AtE.splitP 17 (p := re1 = (0 : Int)) (by kernel_rfl) (fun h1' => ?_) (fun h1' => ?_)
 ·replace H := H.1 h1'
  refine AtE.ru 3 ?_
  refine AtE.splitP 20 (p := r1 < (0 : Int)) (by kernel_rfl) (fun h2' => ?_) (fun h2' => ?_)
  ·replace H := H.1 h2'
   refine AtE.ru 11 ?_
   refine AtE.store 0 2 (T := 31) (v := .int .i64 (30 : Int)) (by kernel_rfl) ?_
   refine AtE.ru 12 ?_
   exact AtE.cutT [0] 1 H (by kernel_rfl)
  ·replace H := H.2 h2'
   refine AtE.ru 6 ?_
   refine AtE.splitP 25 (p := most < r1) (by kernel_rfl) (fun h3' => ?_) (fun h3' => ?_)
   ·replace H := H.1 h3'
    refine AtE.ru 5 ?_
    refine AtE.store 0 2 (T := 31) (v := .int .i64 (30 : Int)) (by kernel_rfl) ?_
    refine AtE.ru 12 ?_
    exact AtE.cutT [0] 1 H (by kernel_rfl)
   ·replace H := H.2 h3'
    refine AtE.ru 13 ?_
    exact AtE.cutT [0] 1 H (by kernel_rfl)
 ·replace H := H.2 h1'
  refine AtE.ru 22 ?_
  exact AtE.cutT [0] 1 H (by kernel_rfl)
theorem decode_vc (s : ByteArray) {R : Ending → World → Prop} {w0 W : World} (hm : Mem [] [] w0 W)
  (H :
   ∀ B : Nat,
   CallH Tryz.prog 193 ⟨[.pointer (some ⟨B, 0, none⟩), .int .i64 (24 : Int), .func (.func 194) #[] #[]]⟩ [(B, .cells #[.string s, .int .i64 (0 : Int), .int .i64 (0 : Int)] 239)] [] w0 (fun v L' => ∃ (r1_p : Option Addr) (r1_l : Nat) (r1_c : Nat) (ra : Int) (re : Int) (F : SHeap), v = (.slice r1_p r1_l r1_c) ∧ L' = ((B, .cells #[.string s, .int .i64 ra, .int .i64 re] 239) :: F) ∧
    ((¬ (re = (0 : Int))) →
     Fin R ((B, .cells #[.string s, .int .i64 ra, .int .i64 re] 239) :: F) [] w0 (.tuple #[.slice none 0 0, .int .i64 re])) ∧
     ((re = (0 : Int)) →
     ((ra < (s.size : Int)) →
      Fin R ((B, .cells #[.string s, .int .i64 ra, .int .i64 re] 239) :: F) [] w0 (.tuple #[.slice none 0 0, .int .i64 (10 : Int)])) ∧
      ((¬ (ra < (s.size : Int))) →
      CallH Tryz.prog 148 ⟨[.slice r1_p r1_l r1_c]⟩ ((B, .cells #[.string s, .int .i64 ra, .int .i64 re] 239) :: F) [] w0 (fun v L' => ∃ (r21 : Bool), v = (.bool r21) ∧ L' = ((B, .cells #[.string s, .int .i64 ra, .int .i64 re] 239) :: F) ∧
       ((r21 = true) →
        Fin R ((B, .cells #[.string s, .int .i64 ra, .int .i64 re] 239) :: F) [] w0 (.tuple #[.slice r1_p r1_l r1_c, .int .i64 (0 : Int)])) ∧
        ((r21 = false) →
        Fin R ((B, .cells #[.string s, .int .i64 ra, .int .i64 re] 239) :: F) [] w0 (.tuple #[.slice none 0 0, .int .i64 (30 : Int)]))))))) :
  Calls Tryz.prog 175 ⟨[.string s]⟩ W R := by
 refine AtE.calls (nt := 34) Tryz.func175 (by kernel_rfl) hm ?_
 refine AtE.ru 9 ?_
 refine AtE.new (fun B => .pointer (some ⟨B, 0, none⟩)) (.cells #[.string s, .int .i64 (0 : Int), .int .i64 (0 : Int)] 239) (fun W => by kernel_rfl) (by kernel_rfl) (fun B => ?_)
 replace H := H B
 refine AtE.ru 5 ?_
 refine AtE.call 193 ⟨[.pointer (some ⟨B, 0, none⟩), .int .i64 (24 : Int), .func (.func 194) #[] #[]]⟩ (fun W => by kernel_rfl) (by kernel_rfl) H ?_
 clear H
 rintro _ _ ⟨r1_p, r1_l, r1_c, ra, re, F, rfl, rfl, H⟩
 refine AtE.ru 9 ?_
 refine AtE.load 0 2 (T := 31) (v := .int .i64 re) (by kernel_rfl) ?_
 refine AtE.ru 3 ?_
 refine AtE.splitN 11 (p := re = (0 : Int)) (by kernel_rfl) (fun h1' => ?_) (fun h1' => ?_)
 ·replace H := H.1 h1'
  refine AtE.ru 2 ?_
  refine AtE.norm (k' := [.code (sub (Eng.body Tryz.f175) [1,1,1,0,0,1,0,0]), .code (sub (Eng.body Tryz.f175) [1,1,1,0,0,1,0,1]), .inBlock 0, .code (sub (Eng.body Tryz.f175) [1,1,1,1])]) (e' := [(4, .pointer (some ⟨B, 0, none⟩))]) (L' := ((B, .cells #[.string s, .int .i64 ra, .int .i64 re] 239) :: F)) ?_ (by kernel_rfl)
  refine AtE.draw 6 (by kernel_rfl) ?_
  refine AtQ.pu ?_
  refine AtQ.pu ?_
  refine AtQ.pu ?_
  refine AtQ.load 0 2 (T := 31) (v := .int .i64 re) (by kernel_rfl) ?_
  refine AtQ.pu ?_
  refine AtQ.pu ?_
  refine AtQ.done (by kernel_rfl) ?_
  refine AtE.ru 1 ?_
  exact AtE.ret Tryz.func175 (by kernel_rfl) H
 ·replace H := H.2 h1'
  refine AtE.ru 6 ?_
  refine AtE.load 0 1 (T := 3) (v := .int .i64 ra) (by kernel_rfl) ?_
  refine AtE.ru 5 ?_
  refine AtE.splitP 21 (p := ra < (s.size : Int)) (by kernel_rfl) (fun h2' => ?_) (fun h2' => ?_)
  ·replace H := H.1 h2'
   refine AtE.ru 6 ?_
   exact AtE.ret Tryz.func175 (by kernel_rfl) H
  ·replace H := H.2 h2'
   refine AtE.ru 4 ?_
   refine AtE.call 148 ⟨[.slice r1_p r1_l r1_c]⟩ (fun W => by kernel_rfl) (by kernel_rfl) H ?_
   clear H
   rintro _ _ ⟨r21, rfl, rfl, H⟩
   refine AtE.norm (k' := [.inRegion (regOps [.code (sub (Eng.body Tryz.f175) [1,1,1,0,0,1,1,1,1,0])]) [2,3], .code (sub (Eng.body Tryz.f175) [1,1,1,0,0,1,1,1,1,1]), .inBlock 0, .code (sub (Eng.body Tryz.f175) [1,1,1,1])]) (e' := [(5, .slice r1_p r1_l r1_c), (31, .bool r21)]) (L' := ((B, .cells #[.string s, .int .i64 ra, .int .i64 re] 239) :: F)) ?_ (by kernel_rfl)
   refine AtE.split 31 (b := r21) (by kernel_rfl) (fun h3' => ?_) (fun h3' => ?_)
   ·replace H := H.1 h3'
    refine AtE.ru 12 ?_
    exact AtE.ret Tryz.func175 (by kernel_rfl) H
   ·replace H := H.2 h3'
    refine AtE.ru 9 ?_
    exact AtE.ret Tryz.func175 (by kernel_rfl) H
end Go.Eng
namespace Go.Eng
open Go Go.RowKit Go.Proofs Wire
set_option linter.unusedVariables false
abbrev rH (T Rb : Nat) (tx : ByteArray) (st : RS) : Nat × Obj := (Rb, .cells #[.string tx, .int .i64 (st.1 : Int), .int .i64 st.2] T)
def lkF (F : SHeap) : Lk := fun b c => ∃ t fz, (b, Obj.cells ⟨c⟩ t fz) ∈ F
theorem lkF_mono {F F' : SHeap} (h : ∀ x ∈ F, x ∈ F') : ∀ b c, lkF F b c → lkF F' b c := fun _ _ ⟨t, fz, h1⟩ => ⟨t, fz, h _ h1⟩
theorem lkF_W {F L : SHeap} {S : List Nat} {w0 W : World} (hm : Mem L S w0 W) (h : ∀ x ∈ F, x ∈ L) : ∀ b c, lkF F b c → lkW W b c := by
  rintro b c ⟨t, fz, h1⟩
  have := hm.here _ (h _ h1)
  simp only at this
  simp [lkW, blkW, this]
theorem CallH.one {P : Program} {S : List Nat} {w0 : World} {g : FuncId} {args : Array Value} {x y : Nat × Obj} {rest : SHeap} {v : Value} {K' : Value → SHeap → Prop} (h : EffC P g args [x] (fun v' L' => v' = v ∧ L' = [y])) (hK : K' v (y :: rest)) :
    CallH P g args (x :: rest) S w0 K' :=
  CallH.eff (L0 := [x]) (L1 := rest) h (List.Perm.refl _) fun v' L' ⟨hv, hl⟩ => ⟨y :: rest, by rw [hl]; exact List.Perm.refl _, by rw [hv]; exact hK⟩
theorem CallH.oneF {P : Program} {S : List Nat} {w0 : World} {g : FuncId} {args : Array Value} {x : Nat × Obj} {rest : SHeap} {K : Value → SHeap → Prop} {K' : Value → SHeap → Prop} (h : EffC P g args [x] K) (hK : ∀ v L', K v L' → ∃ y F, L' = y :: F ∧ K' v (y :: (rest ++ F))) :
    CallH P g args (x :: rest) S w0 K' :=
  CallH.eff (L0 := [x]) (L1 := rest) h (List.Perm.refl _) fun v' L' hk => by
    obtain ⟨y, F, rfl, h2⟩ := hK v' L' hk
    exact ⟨_, List.Perm.cons y List.perm_append_comm, h2⟩
theorem dkSelT (A : SHeap) (is : List Nat) {T : SHeap} {K : Value → SHeap → Prop} {L' : SHeap} {S : List Nat} {W : World} {v : Value} (hs : (selL A is, nodupB is) = (L', true)) (h : K v (L' ++ T)) :
    Fin (fun e W' => ∃ v L', e = .returned v ∧ Mem L' S W W' ∧ K v L') (A ++ T) S W v := by
  simp only [Prod.mk.injEq] at hs
  obtain ⟨rfl, h2⟩ := hs
  exact fun _ hm => ⟨v, _, rfl, hm.selT (nodupB_spec h2), h⟩
theorem row_old {cs x r : List Value} {n sz i : Nat} (hi : i < n) (hn : n * sz ≤ cs.length) : ((cs.take (n * sz) ++ x ++ r).drop (i * sz)).take sz = (cs.drop (i * sz)).take sz := by
  have h1 : i * sz + sz ≤ n * sz := by rw [← Nat.succ_mul]; exact Nat.mul_le_mul_right _ hi
  rw [List.append_assoc, List.drop_append_of_le_length (by rw [List.length_take]; omega), List.take_append_of_le_length (by rw [List.length_drop, List.length_take]; omega), List.drop_take, List.take_take]
  congr 1
  omega
theorem row_new {cs x r : List Value} {n sz : Nat} (hn : n * sz ≤ cs.length) (hx : x.length = sz) : ((cs.take (n * sz) ++ x ++ r).drop (n * sz)).take sz = x := by
  have h1 : (cs.take (n * sz)).length = n * sz := by rw [List.length_take]; omega
  rw [List.append_assoc, List.drop_left' h1, List.take_left' hx]
theorem at_old {cs x r : List Value} {n i : Nat} (hi : i < n) (hn : n ≤ cs.length) : (cs.take n ++ x ++ r)[i]? = cs[i]? := by
  rw [List.append_assoc, List.getElem?_append_left (by rw [List.length_take]; omega), List.getElem?_take_of_lt hi]
theorem at_new {cs r : List Value} {v : Value} {n : Nat} (hn : n ≤ cs.length) : (cs.take n ++ [v] ++ r)[n]? = some v := by
  have h1 : (cs.take n).length = n := by rw [List.length_take]; omega
  rw [List.append_assoc, List.getElem?_append_right (by omega), h1, Nat.sub_self]; rfl
theorem int_ans {s : ByteArray} {st : RS} (h : st.1 ≤ (bts s).length) (he : st.2 = 0) : intAns s (st.1 : Int) = match rdInt ((bts s).drop st.1) with
    | none => .tuple #[.int .i64 0, .int .i64 0, .int .i64 10]
    | some (n, k) => .tuple #[.int .i64 n, .int .i64 ((st.1 + k : Nat) : Int), .int .i64 0] := by
  rw [bts_len] at h
  rw [intAns, if_neg (by omega), Int.toNat_natCast]
  cases rdInt ((bts s).drop st.1) with
  | none => rfl
  | some p => rfl
theorem str_ans {s : ByteArray} {st : RS} (h : st.1 ≤ (bts s).length) (he : st.2 = 0) : strAns s (st.1 : Int) = match rdStr ((bts s).drop st.1) with
    | none => .tuple #[.string ⟨#[]⟩, .int .i64 0, .int .i64 10]
    | some (t, k) => .tuple #[.string ⟨t.toArray⟩, .int .i64 ((st.1 + k : Nat) : Int), .int .i64 0] := by
  rw [bts_len] at h
  rw [strAns, if_neg (by omega), Int.toNat_natCast]
  cases rdStr ((bts s).drop st.1) with
  | none => rfl
  | some p => rfl
theorem readI_e {Rb : Nat} {tx : ByteArray} {st : RS} (hs : tx.size < 4611686018427387904) (h : st.1 ≤ (bts tx).length) :
    EffC Tryz.prog 210 ⟨[.pointer (some ⟨Rb, 0, none⟩), .func (.func 111) #[] #[]]⟩ [rH 239 Rb tx st] (fun v L' => v = .int .i64 (rdI (bts tx) st).1 ∧ L' = [rH 239 Rb tx (rdI (bts tx) st).2]) := by
  intro W hm
  refine readI_vc Rb tx st.1 st.2 hm ⟨fun he => dkFin ?_, fun he => ?_⟩
  · rw [rdI, if_neg he]; exact ⟨rfl, rfl⟩
  · have hq : QCall Tryz.prog 111 ⟨[.string tx, .int .i64 (st.1 : Int)]⟩ [rH 239 Rb tx st] ([rH 239 Rb tx st].map (·.1)) W (intAns tx (st.1 : Int)) := QCall.of (Int_c tx _ hs)
    rw [int_ans h he] at hq
    rw [rdI, if_pos he]
    cases hr : rdInt ((bts tx).drop st.1) with
    | none =>
      rw [hr] at hq
      exact ⟨_, _, _, hq, fun _ => dkFin ⟨rfl, rfl⟩, fun h0 => absurd h0 (by decide)⟩
    | some p =>
      rw [hr] at hq
      exact ⟨_, _, _, hq, fun h0 => absurd rfl h0, fun _ => dkFin ⟨rfl, by rw [he]⟩⟩
theorem readS_e {Rb : Nat} {tx : ByteArray} {st : RS} (hs : tx.size < 4611686018427387904) (h : st.1 ≤ (bts tx).length) :
    EffC Tryz.prog 212 ⟨[.pointer (some ⟨Rb, 0, none⟩), .func (.func 156) #[] #[]]⟩ [rH 239 Rb tx st] (fun v L' => v = .string (rdT (bts tx) st).1 ∧ L' = [rH 239 Rb tx (rdT (bts tx) st).2]) := by
  intro W hm
  refine readS_vc Rb tx st.1 st.2 hm ⟨fun he => dkFin ?_, fun he => ?_⟩
  · rw [rdT, if_neg he]; exact ⟨rfl, rfl⟩
  · have hq : QCall Tryz.prog 156 ⟨[.string tx, .int .i64 (st.1 : Int)]⟩ [rH 239 Rb tx st] ([rH 239 Rb tx st].map (·.1)) W (strAns tx (st.1 : Int)) := QCall.of (String_c tx _ hs)
    rw [str_ans h he] at hq
    rw [rdT, if_pos he]
    cases hr : rdStr ((bts tx).drop st.1) with
    | none =>
      rw [hr] at hq
      exact ⟨_, _, _, hq, fun _ => dkFin ⟨rfl, rfl⟩, fun h0 => absurd h0 (by decide)⟩
    | some p =>
      rw [hr] at hq
      exact ⟨_, _, _, hq, fun h0 => absurd rfl h0, fun _ => dkFin ⟨rfl, by rw [he]⟩⟩
theorem readInt_e {Rb : Nat} {tx : ByteArray} {st : RS} (hs : tx.size < 4611686018427387904) (h : st.1 ≤ (bts tx).length) :
    EffC Tryz.prog 211 ⟨[.pointer (some ⟨Rb, 0, none⟩)]⟩ [rH 239 Rb tx st] (fun v L' => v = .int .i64 (rdI (bts tx) st).1 ∧ L' = [rH 239 Rb tx (rdI (bts tx) st).2]) := by
  intro W hm
  exact readInt_vc Rb tx st.1 st.2 hm (CallH.one (readI_e hs h) ⟨_, _, _, rfl, rfl, dkFin ⟨rfl, rfl⟩⟩)
def IntsOut (T Rb : Nat) (tx : ByteArray) (r : List Int × RS) (v : Value) (L' : SHeap) : Prop :=
  ∃ (p : Option Addr) (c : Nat) (F : SHeap), v = .slice p r.1.length c ∧ r.1.length ≤ c ∧ L' = rH T Rb tx r.2 :: F ∧ IntsL (lkF F) p r.1
theorem readLI_loop1 {Rb : Nat} {tx : ByteArray} (hs : tx.size < 4611686018427387904) {count : Int} (hc : count ≤ 64) {S : List Nat} {w0 : World} : ∀ (g : Nat) (l : List Int) (st : RS) (B4 cap : Nat) (cs : List Value), (g : Int) + l.length = count → st.1 ≤ (bts tx).length → l.length ≤ cap → cs.length = cap * 1 → (∀ i (h : i < l.length), cs[i]? = some (.int .i64 l[i])) →
      readLI_c1 Rb B4 count l.length cap (l.length : Int) tx st.1 st.2 cs S w0 (fun e W' => ∃ v L', e = .returned v ∧ Mem L' S w0 W' ∧ IntsOut 239 Rb tx (l ++ (rdMany (rdI (bts tx)) g st).1, (rdMany (rdI (bts tx)) g st).2) v L')
  | g, l, st, B4, cap, cs, hg, hst, h1, h2, h3 => by
    apply readLI_c1_vc
    have stop : IntsOut 239 Rb tx (l, st) (.slice (some ⟨B4, 0, none⟩) l.length cap) [rH 239 Rb tx st, (B4, .cells ⟨cs⟩ 3)] :=
      ⟨some ⟨B4, 0, none⟩, cap, [(B4, .cells ⟨cs⟩ 3)], rfl, h1, rfl, fun _ => ⟨B4, 0, cs, rfl, ⟨3, _, List.mem_singleton.2 rfl⟩, fun i hi => by rw [Nat.zero_add]; exact h3 i hi⟩⟩
    match g with
    | 0 =>
      refine no (by omega) (dkFin ?_)
      simpa [rdMany] using stop
    | g + 1 =>
      refine yes (by omega) ⟨fun he => ?_, fun he => dkFin ?_⟩
      · refine CallH.one (readInt_e hs hst) ⟨_, _, _, rfl, rfl, fun B5 => ⟨⟨h1, h2⟩, by omega, fun B6 cap1 r5 q1 q2 => ?_⟩⟩
        rintro _ rfl
        rw [Nat.mul_one] at q2 ⊢
        have hlen : l.length ≤ cs.length := by omega
        rw [wi64 (by omega), show (l.length : Int) + 1 = ((l ++ [(rdI (bts tx) st).1]).length : Int) by simp, show l.length + 1 = (l ++ [(rdI (bts tx) st).1]).length by simp]
        have := readLI_loop1 (Rb := Rb) hs hc (S := S) (w0 := w0) g (l ++ [(rdI (bts tx) st).1]) (rdI (bts tx) st).2 B6 cap1 (cs.take l.length ++ [.int .i64 (rdI (bts tx) st).1] ++ r5) (by simp; omega) (rdI_le hst) (by simpa using q1) q2 (fun i hi => ?_)
        · rw [rdMany, if_pos he]
          simpa using this
        · rcases Nat.lt_or_ge i l.length with hi2 | hi2
          · rw [at_old hi2 hlen, h3 i hi2, List.getElem_append_left hi2]
          · have : i = l.length := by simp at hi; omega
            subst this
            rw [at_new hlen]; simp
      · rw [rdMany_err he]
        simpa using stop
theorem readLI_loop0 {Rb : Nat} {tx : ByteArray} (hs : tx.size < 4611686018427387904) {count : Int} {S : List Nat} {w0 : World} {st : RS} (hst : st.1 ≤ (bts tx).length) (hc : st.2 = 0 → count ≤ 64) :
    readLI_c0 Rb count 0 tx st.1 st.2 S w0 (fun e W' => ∃ v L', e = .returned v ∧ Mem L' S w0 W' ∧ IntsOut 239 Rb tx (rdMany (rdI (bts tx)) count.toNat st) v L') := by
  apply readLI_c0_vc
  have stop : IntsOut 239 Rb tx ([], st) (.slice none 0 0) [rH 239 Rb tx st] := ⟨none, 0, [], rfl, Nat.le_refl _, rfl, fun h => absurd h (by simp)⟩
  refine ⟨fun hlt => ⟨fun he => ?_, fun he => dkFin ?_⟩, fun hlt => dkFin ?_⟩
  · refine CallH.one (readInt_e hs hst) ⟨_, _, _, rfl, rfl, fun B1 B2 cap r3 q1 q2 => ?_⟩
    rintro _ rfl
    obtain ⟨g, hg⟩ : ∃ g : Nat, count.toNat = g + 1 := ⟨count.toNat - 1, by omega⟩
    have hcc := hc he
    have := readLI_loop1 (Rb := Rb) hs hcc (S := S) (w0 := w0) g [(rdI (bts tx) st).1] (rdI (bts tx) st).2 B2 cap ([.int .i64 (rdI (bts tx) st).1] ++ r3) (by simp; omega) (rdI_le hst) q1 q2 (fun i hi => ?_)
    · rw [hg, rdMany, if_pos he]
      exact this
    · have : i = 0 := by simp at hi; omega
      subst this; rfl
  · rw [rdMany_err he]; exact stop
  · have : count.toNat = 0 := by omega
    rw [this]; exact stop
theorem readLI_e {Rb : Nat} {tx : ByteArray} {st : RS} (hs : tx.size < 4611686018427387904) (h : st.1 ≤ (bts tx).length) :
    EffC Tryz.prog 213 ⟨[.pointer (some ⟨Rb, 0, none⟩), .int .i64 64, .func (.func 211) #[] #[]]⟩ [rH 239 Rb tx st] (IntsOut 239 Rb tx (rdList (rdI (bts tx)) (bts tx) 64 st)) := by
  intro W hm
  refine readLI_vc Rb 64 tx st.1 st.2 hm (CallH.one (readI_e hs h) ⟨_, _, _, rfl, rfl, ?_⟩)
  unfold rdList rdCount
  refine ⟨fun he => ⟨fun h1 => ?_, fun h1 => ⟨fun h2 => ?_, fun h2 => ?_⟩⟩, fun he => ?_⟩
  · rw [if_pos ⟨he, .inl h1⟩]
    exact readLI_loop0 hs (st := ((rdI (bts tx) st).2.1, 30)) (rdI_le h) (fun h => absurd h (by simp))
  · rw [if_pos ⟨he, .inr h2⟩]
    exact readLI_loop0 hs (st := ((rdI (bts tx) st).2.1, 30)) (rdI_le h) (fun h => absurd h (by simp))
  · rw [if_neg (fun hh => by rcases hh.2 with h3 | h3 <;> omega)]
    exact readLI_loop0 hs (rdI_le h) (fun _ => by omega)
  · rw [if_neg (fun hh => he hh.1)]
    exact readLI_loop0 hs (rdI_le h) (fun h => absurd h he)
end Go.Eng
namespace Go.Eng
open Go Go.RowKit Go.Proofs Wire
set_option linter.unusedVariables false
def BlkOut (T Rb : Nat) (tx : ByteArray) (r : Blk × RS) (v : Value) (L' : SHeap) : Prop :=
  ∃ (p : Option Addr) (c : Nat) (F : SHeap), v = .agg ⟨r.1.cells p c⟩ ∧ L' = rH T Rb tx r.2 :: F ∧ IntsL (lkF F) p r.1.lab.after
theorem readB_e {Rb : Nat} {tx : ByteArray} {st : RS} (hs : tx.size < 4611686018427387904) (h : st.1 ≤ (bts tx).length) :
    EffC Tryz.prog 194 ⟨[.pointer (some ⟨Rb, 0, none⟩)]⟩ [rH 239 Rb tx st] (BlkOut 239 Rb tx (rdBlk (bts tx) st)) := by
  intro W hm
  obtain ⟨h1, h2, h3, h4, h5, h6, h7, h8, h9⟩ := rdB_le h
  refine readB_vc Rb tx st.1 st.2 hm fun B B1 => ?_
  refine CallH.one (readInt_e hs h) ⟨_, _, _, rfl, rfl, ?_⟩
  refine CallH.one (readInt_e hs h1) ⟨_, _, _, rfl, rfl, ?_⟩
  refine CallH.one (readS_e hs h2) ⟨_, _, _, rfl, rfl, ?_⟩
  refine CallH.one (readInt_e hs h3) ⟨_, _, _, rfl, rfl, ?_⟩
  refine CallH.one (readInt_e hs h4) ⟨_, _, _, rfl, rfl, ?_⟩
  refine CallH.one (readInt_e hs h5) ⟨_, _, _, rfl, rfl, ?_⟩
  refine CallH.oneF (readLI_e hs h6) fun v L' ⟨p, c, F, hv, hc, hL, hi⟩ => ⟨_, F, hL, p, _, c, _, _, F, hv, rfl, ?_⟩
  refine CallH.one (readInt_e hs h7) ⟨_, _, _, rfl, rfl, ?_⟩
  refine CallH.one (readInt_e hs h8) ⟨_, _, _, rfl, rfl, ?_⟩
  exact dkSelT [_, _, _] [0] rfl ⟨p, c, F, rfl, rfl, hi⟩
def BlksOut (T Rb : Nat) (tx : ByteArray) (r : List Blk × RS) (v : Value) (L' : SHeap) : Prop :=
  ∃ (p : Option Addr) (c : Nat) (F : SHeap), v = .slice p r.1.length c ∧ r.1.length ≤ c ∧ L' = rH T Rb tx r.2 :: F ∧ BlksL (lkF F) p r.1
def BRow (F : SHeap) (cs : List Value) (l : List Blk) : Prop := ∀ i (h : i < l.length), i * 9 + 9 ≤ cs.length ∧ BlkL (lkF F) ((cs.drop (i * 9)).take 9) l[i]
theorem BRow.mono {F F' : SHeap} {cs : List Value} {l : List Blk} (h : BRow F cs l) (hl : ∀ x ∈ F, x ∈ F') : BRow F' cs l := fun i hi => ⟨(h i hi).1, (h i hi).2.mono (lkF_mono hl)⟩
theorem BRow.app {F : SHeap} {cs r : List Value} {l : List Blk} {b : Blk} {p : Option Addr} {c cap cap1 : Nat} (h : BRow F cs l) (h1 : l.length ≤ cap) (h2 : cs.length = cap * 9) (hb : IntsL (lkF F) p b.lab.after) (hf : b.Fits)
    (q1 : l.length + 1 ≤ cap1) (q2 : (cs.take (l.length * 9) ++ b.cells p c ++ r).length = cap1 * 9) : BRow F (cs.take (l.length * 9) ++ b.cells p c ++ r) (l ++ [b]) := by
  have hn : l.length * 9 ≤ cs.length := by rw [h2]; exact Nat.mul_le_mul_right _ h1
  intro i hi
  have hi' : i < l.length + 1 := by simpa using hi
  refine ⟨by rw [q2]; omega, ?_⟩
  rcases Nat.lt_or_ge i l.length with hlt | hge
  · rw [row_old hlt hn, List.getElem_append_left hlt]
    exact (h i hlt).2
  · have : i = l.length := by omega
    subst this
    rw [row_new hn rfl]
    simp only [List.getElem_append_right (Nat.le_refl _), Nat.sub_self, List.getElem_cons_zero]
    exact ⟨p, c, rfl, hb, hf⟩
theorem BRow.one {F : SHeap} {r : List Value} {b : Blk} {p : Option Addr} {c cap : Nat} (hb : IntsL (lkF F) p b.lab.after) (hf : b.Fits) (q1 : 1 ≤ cap) (q2 : (b.cells p c ++ r).length = cap * 9) : BRow F (b.cells p c ++ r) [b] := by
  intro i hi
  have : i = 0 := by simp at hi; omega
  subst this
  refine ⟨by rw [q2]; omega, p, c, ?_, hb, hf⟩
  simp
theorem BRow.sl {F : SHeap} {cs : List Value} {l : List Blk} {B4 : Nat} (h : BRow F cs l) : BlksL (lkF ((B4, .cells ⟨cs⟩ 89) :: F)) (some ⟨B4, 0, none⟩) l :=
  fun _ => ⟨B4, 0, cs, rfl, ⟨89, _, List.mem_cons_self⟩, fun i hi => ⟨by rw [Nat.zero_add]; exact (h i hi).1, by rw [Nat.zero_add]; exact (h i hi).2.mono (lkF_mono fun x hx => List.mem_cons_of_mem _ hx)⟩⟩
theorem readLB_loop1 {Rb : Nat} {tx : ByteArray} (hs : tx.size < 4611686018427387904) {count : Int} (hc : count ≤ 24) {S : List Nat} {w0 : World} : ∀ (g : Nat) (l : List Blk) (st : RS) (B4 cap : Nat) (cs : List Value) (F : SHeap), (g : Int) + l.length = count → st.1 ≤ (bts tx).length → l.length ≤ cap → cs.length = cap * 9 → BRow F cs l →
      readLB_c1 Rb B4 count l.length cap (l.length : Int) tx st.1 st.2 cs F S w0 (fun e W' => ∃ v L', e = .returned v ∧ Mem L' S w0 W' ∧ BlksOut 239 Rb tx (l ++ (rdMany (rdBlk (bts tx)) g st).1, (rdMany (rdBlk (bts tx)) g st).2) v L')
  | g, l, st, B4, cap, cs, F, hg, hst, h1, h2, h3 => by
    apply readLB_c1_vc
    have stop : BlksOut 239 Rb tx (l, st) (.slice (some ⟨B4, 0, none⟩) l.length cap) (rH 239 Rb tx st :: (B4, .cells ⟨cs⟩ 89) :: F) :=
      ⟨some ⟨B4, 0, none⟩, cap, (B4, .cells ⟨cs⟩ 89) :: F, rfl, h1, rfl, h3.sl⟩
    match g with
    | 0 =>
      refine no (by omega) (dkFin ?_)
      simpa [rdMany] using stop
    | g + 1 =>
      refine yes (by omega) ⟨fun he => ?_, fun he => dkFin ?_⟩
      · refine CallH.oneF (readB_e hs hst) fun v L' ⟨p, c, F4, hv, hL, hi⟩ => ⟨_, F4, hL, _, _, _, _, _, _, p, _, c, _, _, _, _, F ++ F4, hv, rfl, fun B5 => ⟨⟨h1, h2⟩, by omega, fun B6 cap1 r5 q1 q2 => ?_⟩⟩
        rintro _ rfl
        have h3' : BRow (F ++ F4) cs l := h3.mono fun x hx => List.mem_append_left _ hx
        have hi' := hi.mono (lkF_mono (F' := F ++ F4) fun x hx => List.mem_append_right _ hx)
        have hrow := h3'.app h1 h2 hi' (rdBlk_fits hst) q1 q2
        rw [wi64 (by omega), show (l.length : Int) + 1 = ((l ++ [(rdBlk (bts tx) st).1]).length : Int) by simp]
        have := readLB_loop1 (Rb := Rb) hs hc (S := S) (w0 := w0) g (l ++ [(rdBlk (bts tx) st).1]) (rdBlk (bts tx) st).2 B6 cap1 _ (F ++ F4) (by simp; omega) (rdBlk_le hst) (by simpa using q1) q2 hrow
        rw [rdMany, if_pos he]
        have e : (l ++ [(rdBlk (bts tx) st).1]).length = l.length + 1 := by simp
        rw [e] at this
        simpa using this
      · rw [rdMany_err he]
        simpa using stop
theorem readLB_loop0 {Rb : Nat} {tx : ByteArray} (hs : tx.size < 4611686018427387904) {count : Int} {S : List Nat} {w0 : World} {st : RS} (hst : st.1 ≤ (bts tx).length) (hc : st.2 = 0 → count ≤ 24) :
    readLB_c0 Rb count 0 tx st.1 st.2 [] S w0 (fun e W' => ∃ v L', e = .returned v ∧ Mem L' S w0 W' ∧ BlksOut 239 Rb tx (rdMany (rdBlk (bts tx)) count.toNat st) v L') := by
  apply readLB_c0_vc
  have stop : BlksOut 239 Rb tx ([], st) (.slice none 0 0) [rH 239 Rb tx st] := ⟨none, 0, [], rfl, Nat.le_refl _, rfl, fun h => absurd h (by simp)⟩
  refine ⟨fun hlt => ⟨fun he => ?_, fun he => dkFin ?_⟩, fun hlt => dkFin ?_⟩
  · refine CallH.oneF (readB_e hs hst) fun v L' ⟨p, c, F4, hv, hL, hi⟩ => ⟨_, F4, hL, _, _, _, _, _, _, p, _, c, _, _, _, _, F4, hv, rfl, fun B1 B2 cap r3 q1 q2 => ?_⟩
    rintro _ rfl
    obtain ⟨g, hg⟩ : ∃ g : Nat, count.toNat = g + 1 := ⟨count.toNat - 1, by omega⟩
    have hcc := hc he
    have hrow := BRow.one hi (rdBlk_fits hst) q1 q2
    have := readLB_loop1 (Rb := Rb) hs hcc (S := S) (w0 := w0) g [(rdBlk (bts tx) st).1] (rdBlk (bts tx) st).2 B2 cap _ F4 (by simp; omega) (rdBlk_le hst) q1 q2 hrow
    rw [hg, rdMany, if_pos he]
    exact this
  · rw [rdMany_err he]; exact stop
  · have : count.toNat = 0 := by omega
    rw [this]; exact stop
theorem readLB_e {Rb : Nat} {tx : ByteArray} {st : RS} (hs : tx.size < 4611686018427387904) (h : st.1 ≤ (bts tx).length) :
    EffC Tryz.prog 193 ⟨[.pointer (some ⟨Rb, 0, none⟩), .int .i64 24, .func (.func 194) #[] #[]]⟩ [rH 239 Rb tx st] (BlksOut 239 Rb tx (rdList (rdBlk (bts tx)) (bts tx) 24 st)) := by
  intro W hm
  refine readLB_vc Rb 24 tx st.1 st.2 [] hm (CallH.one (readI_e hs h) ⟨_, _, _, rfl, rfl, ?_⟩)
  unfold rdList rdCount
  refine ⟨fun he => ⟨fun h1 => ?_, fun h1 => ⟨fun h2 => ?_, fun h2 => ?_⟩⟩, fun he => ?_⟩
  · rw [if_pos ⟨he, .inl h1⟩]
    exact readLB_loop0 hs (st := ((rdI (bts tx) st).2.1, 30)) (rdI_le h) (fun h => absurd h (by simp))
  · rw [if_pos ⟨he, .inr h2⟩]
    exact readLB_loop0 hs (st := ((rdI (bts tx) st).2.1, 30)) (rdI_le h) (fun h => absurd h (by simp))
  · rw [if_neg (fun hh => by rcases hh.2 with h3 | h3 <;> omega)]
    exact readLB_loop0 hs (rdI_le h) (fun _ => by omega)
  · rw [if_neg (fun hh => he hh.1)]
    exact readLB_loop0 hs (rdI_le h) (fun h => absurd h he)
def DecOut (r : List Blk × Int) (v : Value) (F : SHeap) : Prop := ∃ (p : Option Addr) (c : Nat), v = .tuple #[.slice p r.1.length c, .int .i64 r.2] ∧ r.1.length ≤ c ∧ BlksL (lkF F) p r.1
theorem DecOut.nil {e : Int} {F : SHeap} : DecOut ([], e) (.tuple #[.slice none 0 0, .int .i64 e]) F := ⟨none, 0, rfl, Nat.le_refl _, fun h => absurd h (by simp)⟩
theorem decRun_le (s : List UInt8) : (decRun s).2.1 ≤ s.length ∧ (decRun s).1.length ≤ 24 := rdList_le (f := rdBlk s) (most := 24) (fun st => rdBlk_le) (Nat.zero_le _)
theorem decode_e (s : ByteArray) (hs : s.size < 4611686018427387904) : EffC Tryz.prog 175 ⟨[.string s]⟩ [] (DecOut (decSpec (bts s))) := by
  intro W hm
  refine decode_vc s (Mem.start [] W) fun B => ?_
  have hE : EffC Tryz.prog 193 ⟨[.pointer (some ⟨B, 0, none⟩), .int .i64 24, .func (.func 194) #[] #[]]⟩ [rH 239 B s (0, 0)] (BlksOut 239 B s (decRun (bts s))) := readLB_e (st := (0, 0)) hs (Nat.zero_le _)
  refine CallH.oneF hE fun v L' ⟨p, c, F, hv, hc, hL, hb⟩ => ⟨_, F, hL, p, _, c, _, _, F, hv, rfl, ?_⟩
  have hle := (decRun_le (bts s)).1
  have hl : (bts s).length = s.size := bts_len s
  have fin : ∀ r v, decSpec (bts s) = r → DecOut r v F → Fin (fun e W' => ∃ v L', e = .returned v ∧ Mem L' [] W W' ∧ DecOut (decSpec (bts s)) v L') (rH 239 B s (decRun (bts s)).2 :: F) [] W v := fun r v hr hd => by
    rw [hr]; exact dkSelT [_] [] rfl hd
  refine ⟨fun he => ?_, fun he => ⟨fun h1 => ?_, fun h1 => ?_⟩⟩
  · exact fin _ _ (by rw [decSpec, if_pos he]) DecOut.nil
  · exact fin _ _ (by rw [decSpec, if_neg (by omega), if_pos (show (decRun (bts s)).2.1 < (bts s).length from by have : ((decRun (bts s)).2.1 : Int) < (s.size : Int) := h1; omega)]) DecOut.nil
  · have h1' : ¬ (decRun (bts s)).2.1 < (bts s).length := by have : ¬ ((decRun (bts s)).2.1 : Int) < (s.size : Int) := h1; omega
    refine CallH.pw (fun W' hm' => validL_c (hb.mono (lkF_W hm' fun x hx => List.mem_cons_of_mem _ hx)) hc) ⟨_, rfl, rfl, fun hok => ?_, fun hok => ?_⟩
    · exact fin _ _ (by rw [decSpec, if_neg (by omega), if_neg h1', if_pos hok]) ⟨p, c, rfl, hc, hb⟩
    · exact fin _ _ (by rw [decSpec, if_neg (by omega), if_neg h1', if_neg (by rw [hok]; simp)]) DecOut.nil
end Go.Eng
namespace Go.Eng
open Go Go.RowKit Go.Proofs
set_option linter.unusedVariables false
set_option maxRecDepth 100000
theorem cw0_vc (B : Nat) (s : ByteArray) (tx : ByteArray) (ca : Int) {R : Ending → World → Prop} {S : List Nat} {w0 W : World} (hm : Mem [(B, .cells #[.bool false, .string tx, .int .i64 ca, .pointer none, .slice none 0 0] 95)] S w0 W)
  (H :
   (s.size ≤ 9223372036854775807 ∧ s.size * 1 ≤ 140737488355328) ∧ ((s.size = 0 →
    ∀ t4 : Int, t4 = (s.size : Int) →
    Fin R [(B, .cells #[.bool false, .string tx, .int .i64 ca, .pointer (some ⟨B, 3, none⟩), .slice none 0 0] 95)] S w0 (.tuple #[.int .i64 t4, .nilIface])) ∧
    (0 < s.size → ∀ (B1 cap : Nat) (r2 : List Value), s.size ≤ cap → ((bytesL s.data.toList) ++ r2).length = cap * 1 →
    ∀ t41 : Int, t41 = (s.size : Int) →
    Fin R [(B, .cells #[.bool false, .string tx, .int .i64 ca, .pointer (some ⟨B, 3, none⟩), .slice (some ⟨B1, 0, none⟩) s.size cap] 95), (B1, .cells ⟨((bytesL s.data.toList) ++ r2)⟩ 5)] S w0 (.tuple #[.int .i64 t41, .nilIface])))) :
  Calls Tryz.prog 125 ⟨[.pointer (some ⟨B, 3, none⟩), .string s]⟩ W R := by
 refine AtE.calls (nt := 19) Tryz.func125 (by kernel_rfl) hm ?_
 refine AtE.ru 8 ?_
 refine AtE.inl 162 ⟨[.pointer (some ⟨B, 3, none⟩)]⟩ (fun W => by kernel_rfl) (by kernel_rfl) (fun W hm => AtE.calls (nt := 20) Tryz.func162 (by kernel_rfl) hm ?_)
 refine AtE.ru 5 ?_
 refine AtE.load 0 3 (T := 91) (v := .pointer none) (by kernel_rfl) ?_
 refine AtE.ru 6 ?_
 refine AtE.ptrConv 0 (t := 93) (B := B) (off := 3) (c := ([.bool false, .string tx, .int .i64 ca, .pointer none, .slice none 0 0] : List Value)) (E := 95) (fz := (0, 0)) (sz := 1) (by kernel_rfl) (by simp) ?_
 refine AtE.ru 1 ?_
 refine AtE.ptrBack 0 (u := 93) (B := B) (off := 3) (n := 5) (c := ([.bool false, .string tx, .int .i64 ca, .pointer none, .slice none 0 0] : List Value)) (E := 95) (fz := (0, 0)) (by kernel_rfl) rfl ?_
 refine AtE.ru 2 ?_
 refine AtE.store 0 3 (T := 91) (v := .pointer (some ⟨B, 3, none⟩)) (by kernel_rfl) ?_
 refine AtE.ru 1 ?_
 refine AtE.retK (v := .tuple #[]) Tryz.func162 (by kernel_rfl) ?_
 refine AtE.norm (k' := [.inRegion (regOps [.code (sub (Eng.body Tryz.f125) [1,0])]) [], .code (sub (Eng.body Tryz.f125) [1,1])]) (e' := [(0, .pointer (some ⟨B, 3, none⟩)), (1, .string s)]) (L' := [(B, .cells #[.bool false, .string tx, .int .i64 ca, .pointer (some ⟨B, 3, none⟩), .slice none 0 0] 95)]) ?_ (by kernel_rfl)
 refine AtE.ru 7 ?_
 refine AtE.load 0 4 (T := 59) (v := .slice none 0 0) (by kernel_rfl) ?_
 refine AtE.ru 1 ?_
 refine AtE.appendS (T := 59) (U := 9) (E := 5) (z := .int .u8 (0 : Int)) (sz := 1) (bytes := 1) (x := .string s) s.size (bytesL s.data.toList) (by kernel_rfl) (srcStr (by kernel_rfl) _) H.1 (fun h0 => ?_) (fun h0 B1 cap r2 h1 h2 => ?_)
 ·replace H := H.2.1 h0
  refine AtE.ru 2 ?_
  refine AtE.store 0 4 (T := 59) (v := .slice none 0 0) (by kernel_rfl) ?_
  refine AtE.ru 6 ?_
  refine AtE.letI 4 (kd := .i64) (n := (s.size : Int)) (by kernel_rfl) (fun t4 ht4 => ?_)
  replace H := H t4 ht4
  refine AtE.ru 2 ?_
  exact AtE.ret Tryz.func125 (by kernel_rfl) H
 ·skip
  replace H := H.2.2 h0 B1 cap r2 h1 h2
  refine AtE.ru 2 ?_
  refine AtE.store 0 4 (T := 59) (v := .slice (some ⟨B1, 0, none⟩) s.size cap) (by kernel_rfl) ?_
  refine AtE.ru 6 ?_
  refine AtE.letI 4 (kd := .i64) (n := (s.size : Int)) (by kernel_rfl) (fun t41 ht41 => ?_)
  replace H := H t41 ht41
  refine AtE.ru 2 ?_
  exact AtE.ret Tryz.func125 (by kernel_rfl) H
theorem cw1_vc (B : Nat) (s : ByteArray) (tx : ByteArray) (ca : Int) {R : Ending → World → Prop} {S : List Nat} {w0 W : World} (hm : Mem [(B, .cells #[.bool false, .string tx, .int .i64 ca, .pointer (some ⟨B, 3, none⟩), .slice none 0 0] 95)] S w0 W)
  (H :
   (s.size ≤ 9223372036854775807 ∧ s.size * 1 ≤ 140737488355328) ∧ ((s.size = 0 →
    ∀ t4 : Int, t4 = (s.size : Int) →
    Fin R [(B, .cells #[.bool false, .string tx, .int .i64 ca, .pointer (some ⟨B, 3, none⟩), .slice none 0 0] 95)] S w0 (.tuple #[.int .i64 t4, .nilIface])) ∧
    (0 < s.size → ∀ (B1 cap : Nat) (r : List Value), s.size ≤ cap → ((bytesL s.data.toList) ++ r).length = cap * 1 →
    ∀ t41 : Int, t41 = (s.size : Int) →
    Fin R [(B, .cells #[.bool false, .string tx, .int .i64 ca, .pointer (some ⟨B, 3, none⟩), .slice (some ⟨B1, 0, none⟩) s.size cap] 95), (B1, .cells ⟨((bytesL s.data.toList) ++ r)⟩ 5)] S w0 (.tuple #[.int .i64 t41, .nilIface])))) :
  Calls Tryz.prog 125 ⟨[.pointer (some ⟨B, 3, none⟩), .string s]⟩ W R := by
 refine AtE.calls (nt := 19) Tryz.func125 (by kernel_rfl) hm ?_
 refine AtE.ru 8 ?_
 refine AtE.inl 162 ⟨[.pointer (some ⟨B, 3, none⟩)]⟩ (fun W => by kernel_rfl) (by kernel_rfl) (fun W hm => AtE.calls (nt := 20) Tryz.func162 (by kernel_rfl) hm ?_)
 refine AtE.ru 5 ?_
 refine AtE.load 0 3 (T := 91) (v := .pointer (some ⟨B, 3, none⟩)) (by kernel_rfl) ?_
 refine AtE.ru 8 ?_
 refine AtE.load 0 3 (T := 91) (v := .pointer (some ⟨B, 3, none⟩)) (by kernel_rfl) ?_
 refine AtE.ru 1 ?_
 refine AtE.neqSame (T := 91) (E := 93) (a := ⟨B, 3, none⟩) (by kernel_rfl) ?_
 refine AtE.ru 3 ?_
 refine AtE.retK (v := .tuple #[]) Tryz.func162 (by kernel_rfl) ?_
 refine AtE.ru 7 ?_
 refine AtE.load 0 4 (T := 59) (v := .slice none 0 0) (by kernel_rfl) ?_
 refine AtE.ru 1 ?_
 refine AtE.appendS (T := 59) (U := 9) (E := 5) (z := .int .u8 (0 : Int)) (sz := 1) (bytes := 1) (x := .string s) s.size (bytesL s.data.toList) (by kernel_rfl) (srcStr (by kernel_rfl) _) H.1 (fun h0 => ?_) (fun h0 B1 cap r h1 h2 => ?_)
 ·replace H := H.2.1 h0
  refine AtE.norm (k' := [.inRegion (regOps [.code (sub (Eng.body Tryz.f125) [1,1,0])]) [7,8,9], .code (sub (Eng.body Tryz.f125) [1,1,1])]) (e' := [(1, .string s), (8, .pointer (some ⟨B, 3, none⟩)), (14, .slice none 0 0)]) (L' := [(B, .cells #[.bool false, .string tx, .int .i64 ca, .pointer (some ⟨B, 3, none⟩), .slice none 0 0] 95)]) ?_ (by kernel_rfl)
  refine AtE.ru 2 ?_
  refine AtE.store 0 4 (T := 59) (v := .slice none 0 0) (by kernel_rfl) ?_
  refine AtE.ru 6 ?_
  refine AtE.letI 4 (kd := .i64) (n := (s.size : Int)) (by kernel_rfl) (fun t4 ht4 => ?_)
  replace H := H t4 ht4
  refine AtE.ru 2 ?_
  exact AtE.ret Tryz.func125 (by kernel_rfl) H
 ·skip
  replace H := H.2.2 h0 B1 cap r h1 h2
  refine AtE.norm (k' := [.inRegion (regOps [.code (sub (Eng.body Tryz.f125) [1,1,0])]) [7,8,9], .code (sub (Eng.body Tryz.f125) [1,1,1])]) (e' := [(1, .string s), (8, .pointer (some ⟨B, 3, none⟩)), (14, .slice (some ⟨B1, 0, none⟩) s.size cap)]) (L' := [(B, .cells #[.bool false, .string tx, .int .i64 ca, .pointer (some ⟨B, 3, none⟩), .slice none 0 0] 95), (B1, .cells ⟨((bytesL s.data.toList) ++ r)⟩ 5)]) ?_ (by kernel_rfl)
  refine AtE.ru 2 ?_
  refine AtE.store 0 4 (T := 59) (v := .slice (some ⟨B1, 0, none⟩) s.size cap) (by kernel_rfl) ?_
  refine AtE.ru 6 ?_
  refine AtE.letI 4 (kd := .i64) (n := (s.size : Int)) (by kernel_rfl) (fun t41 ht41 => ?_)
  replace H := H t41 ht41
  refine AtE.ru 2 ?_
  exact AtE.ret Tryz.func125 (by kernel_rfl) H
theorem cw2_vc (B : Nat) (s : ByteArray) (tx : ByteArray) (ca : Int) (Q : Nat) (n : Nat) (cap : Nat) (cs : List Value) {R : Ending → World → Prop} {S : List Nat} {w0 W : World} (hm : Mem [(B, .cells #[.bool false, .string tx, .int .i64 ca, .pointer (some ⟨B, 3, none⟩), .slice (some ⟨Q, 0, none⟩) n (cap + 1)] 95), (Q, .cells ⟨cs⟩ 5)] S w0 W)
  (H :
   (n ≤ (cap + 1) ∧ (cs).length = (cap + 1) * 1) ∧ ((n + s.size) ≤ 9223372036854775807 ∧ (n + s.size) * 1 ≤ 140737488355328) ∧
   ∀ (B1 cap1 : Nat) (r : List Value), (n + s.size) ≤ cap1 → ((cs).take (n * 1) ++ (bytesL s.data.toList) ++ r).length = cap1 * 1 →
   ∀ t4 : Int, t4 = (s.size : Int) →
   Fin R [(B, .cells #[.bool false, .string tx, .int .i64 ca, .pointer (some ⟨B, 3, none⟩), .slice (some ⟨B1, 0, none⟩) (n + s.size) cap1] 95), (B1, .cells ⟨((cs).take (n * 1) ++ (bytesL s.data.toList) ++ r)⟩ 5)] S w0 (.tuple #[.int .i64 t4, .nilIface])) :
  Calls Tryz.prog 125 ⟨[.pointer (some ⟨B, 3, none⟩), .string s]⟩ W R := by
 refine AtE.calls (nt := 19) Tryz.func125 (by kernel_rfl) hm ?_
 refine AtE.ru 8 ?_
 refine AtE.inl 162 ⟨[.pointer (some ⟨B, 3, none⟩)]⟩ (fun W => by kernel_rfl) (by kernel_rfl) (fun W hm => AtE.calls (nt := 20) Tryz.func162 (by kernel_rfl) hm ?_)
 refine AtE.ru 5 ?_
 refine AtE.load 0 3 (T := 91) (v := .pointer (some ⟨B, 3, none⟩)) (by kernel_rfl) ?_
 refine AtE.ru 8 ?_
 refine AtE.load 0 3 (T := 91) (v := .pointer (some ⟨B, 3, none⟩)) (by kernel_rfl) ?_
 refine AtE.ru 1 ?_
 refine AtE.neqSame (T := 91) (E := 93) (a := ⟨B, 3, none⟩) (by kernel_rfl) ?_
 refine AtE.ru 3 ?_
 refine AtE.retK (v := .tuple #[]) Tryz.func162 (by kernel_rfl) ?_
 refine AtE.ru 7 ?_
 refine AtE.load 0 4 (T := 59) (v := .slice (some ⟨Q, 0, none⟩) n (cap + 1)) (by kernel_rfl) ?_
 refine AtE.ru 1 ?_
 refine AtE.appendOS 1 (T := 59) (U := 9) (E := 5) (z := .int .u8 (0 : Int)) (sz := 1) (bytes := 1) (len := n) (cap := (cap + 1)) (x := .string s) (cs := cs) s.size (bytesL s.data.toList) (by kernel_rfl) (srcStr (by kernel_rfl) _) H.1 H.2.1 (fun B1 cap1 r h1 h2 => ?_)
 replace H := H.2.2 B1 cap1 r h1 h2
 refine AtE.norm (k' := [.inRegion (regOps [.code (sub (Eng.body Tryz.f125) [1,1,0])]) [7,8,9], .code (sub (Eng.body Tryz.f125) [1,1,1])]) (e' := [(1, .string s), (8, .pointer (some ⟨B, 3, none⟩)), (14, .slice (some ⟨B1, 0, none⟩) (n + s.size) cap1)]) (L' := [(B, .cells #[.bool false, .string tx, .int .i64 ca, .pointer (some ⟨B, 3, none⟩), .slice (some ⟨Q, 0, none⟩) n (cap + 1)] 95), (B1, .cells ⟨((cs).take (n * 1) ++ (bytesL s.data.toList) ++ r)⟩ 5)]) ?_ (by kernel_rfl)
 refine AtE.ru 2 ?_
 refine AtE.store 0 4 (T := 59) (v := .slice (some ⟨B1, 0, none⟩) (n + s.size) cap1) (by kernel_rfl) ?_
 refine AtE.ru 6 ?_
 refine AtE.letI 4 (kd := .i64) (n := (s.size : Int)) (by kernel_rfl) (fun t4 ht4 => ?_)
 replace H := H t4 ht4
 refine AtE.ru 2 ?_
 exact AtE.ret Tryz.func125 (by kernel_rfl) H
theorem cs0_vc (B : Nat) (tx : ByteArray) (ca : Int) {R : Ending → World → Prop} {S : List Nat} {w0 W : World} (hm : Mem [(B, .cells #[.bool false, .string tx, .int .i64 ca, .pointer none, .slice none 0 0] 95)] S w0 W)
  (H :
   Fin R [(B, .cells #[.bool false, .string tx, .int .i64 ca, .pointer none, .slice none 0 0] 95)] S w0 (.string (⟨#[]⟩))) :
  Calls Tryz.prog 57 ⟨[.pointer (some ⟨B, 3, none⟩)]⟩ W R := by
 refine AtE.calls (nt := 14) Tryz.func57 (by kernel_rfl) hm ?_
 refine AtE.ru 5 ?_
 refine AtE.norm (k' := [.code (sub (Eng.body Tryz.f57) [1,0]), .code (sub (Eng.body Tryz.f57) [1,1])]) (e' := [(0, .pointer (some ⟨B, 3, none⟩))]) (L' := [(B, .cells #[.bool false, .string tx, .int .i64 ca, .pointer none, .slice none 0 0] 95)]) ?_ (by kernel_rfl)
 refine AtE.draw 10 (by kernel_rfl) ?_
 refine AtQ.pu ?_
 refine AtQ.pu ?_
 refine AtQ.pu ?_
 refine AtQ.load 0 4 (T := 59) (v := .slice none 0 0) (by kernel_rfl) ?_
 refine AtQ.pu ?_
 refine AtQ.pu ?_
 refine AtQ.pu ?_
 refine AtQ.pu ?_
 refine AtQ.load 0 4 (T := 59) (v := .slice none 0 0) (by kernel_rfl) ?_
 refine AtQ.pu ?_
 refine AtQ.done (by kernel_rfl) ?_
 refine AtE.ru 3 ?_
 exact AtE.ret Tryz.func57 (by kernel_rfl) H
theorem cs1_vc (B : Nat) (tx : ByteArray) (ca : Int) {R : Ending → World → Prop} {S : List Nat} {w0 W : World} (hm : Mem [(B, .cells #[.bool false, .string tx, .int .i64 ca, .pointer (some ⟨B, 3, none⟩), .slice none 0 0] 95)] S w0 W)
  (H :
   Fin R [(B, .cells #[.bool false, .string tx, .int .i64 ca, .pointer (some ⟨B, 3, none⟩), .slice none 0 0] 95)] S w0 (.string (⟨#[]⟩))) :
  Calls Tryz.prog 57 ⟨[.pointer (some ⟨B, 3, none⟩)]⟩ W R := by
 refine AtE.calls (nt := 14) Tryz.func57 (by kernel_rfl) hm ?_
 refine AtE.ru 5 ?_
 refine AtE.norm (k' := [.code (sub (Eng.body Tryz.f57) [1,0]), .code (sub (Eng.body Tryz.f57) [1,1])]) (e' := [(0, .pointer (some ⟨B, 3, none⟩))]) (L' := [(B, .cells #[.bool false, .string tx, .int .i64 ca, .pointer (some ⟨B, 3, none⟩), .slice none 0 0] 95)]) ?_ (by kernel_rfl)
 refine AtE.draw 10 (by kernel_rfl) ?_
 refine AtQ.pu ?_
 refine AtQ.pu ?_
 refine AtQ.pu ?_
 refine AtQ.load 0 4 (T := 59) (v := .slice none 0 0) (by kernel_rfl) ?_
 refine AtQ.pu ?_
 refine AtQ.pu ?_
 refine AtQ.pu ?_
 refine AtQ.pu ?_
 refine AtQ.load 0 4 (T := 59) (v := .slice none 0 0) (by kernel_rfl) ?_
 refine AtQ.pu ?_
 refine AtQ.done (by kernel_rfl) ?_
 refine AtE.ru 3 ?_
 exact AtE.ret Tryz.func57 (by kernel_rfl) H
theorem cs2_vc (B : Nat) (tx : ByteArray) (ca : Int) (Q : Nat) (n : Nat) (cap : Nat) (cs : List Value) {R : Ending → World → Prop} {S : List Nat} {w0 W : World} (hm : Mem [(B, .cells #[.bool false, .string tx, .int .i64 ca, .pointer (some ⟨B, 3, none⟩), .slice (some ⟨Q, 0, none⟩) n (cap + 1)] 95), (Q, .cells ⟨cs⟩ 5)] S w0 W)
  (H :
   ∃ bs : List UInt8, ((cs).take n = bytesL bs ∧ bs.length = n ∧ 0 < n ∧ n ≤ 9223372036854775807) ∧
   ∀ t2 : ByteArray, t2 = ⟨bs.toArray⟩ →
   Fin R [(B, .cells #[.bool false, .string tx, .int .i64 ca, .pointer (some ⟨B, 3, none⟩), .slice (some ⟨Q, 0, none⟩) n (cap + 1)] 95)] S w0 (.string t2)) :
  Calls Tryz.prog 57 ⟨[.pointer (some ⟨B, 3, none⟩)]⟩ W R := by
 refine AtE.calls (nt := 14) Tryz.func57 (by kernel_rfl) hm ?_
 refine AtE.ru 5 ?_
 refine AtE.norm (k' := [.code (sub (Eng.body Tryz.f57) [1,0]), .code (sub (Eng.body Tryz.f57) [1,1])]) (e' := [(0, .pointer (some ⟨B, 3, none⟩))]) (L' := [(B, .cells #[.bool false, .string tx, .int .i64 ca, .pointer (some ⟨B, 3, none⟩), .slice (some ⟨Q, 0, none⟩) n (cap + 1)] 95), (Q, .cells ⟨cs⟩ 5)]) ?_ (by kernel_rfl)
 refine AtE.draw 10 (by kernel_rfl) ?_
 refine AtQ.pu ?_
 refine AtQ.pu ?_
 refine AtQ.pu ?_
 refine AtQ.load 0 4 (T := 59) (v := .slice (some ⟨Q, 0, none⟩) n (cap + 1)) (by kernel_rfl) ?_
 refine AtQ.pu ?_
 refine AtQ.pu ?_
 refine AtQ.pu ?_
 refine AtQ.pu ?_
 refine AtQ.load 0 4 (T := 59) (v := .slice (some ⟨Q, 0, none⟩) n (cap + 1)) (by kernel_rfl) ?_
 refine AtQ.pu ?_
 refine AtQ.done (by kernel_rfl) ?_
 obtain ⟨bs, hb, H⟩ := H
 refine AtE.unsafeStr 1 (B := Q) (E := 5) (pt := 147) (it := 3) (n := n) (c := cs) (l := bs) (by kernel_rfl) hb ?_
 refine AtE.ru 1 ?_
 refine AtE.letS 2 (n := ⟨bs.toArray⟩) (by kernel_rfl) (fun t2 ht2 => ?_)
 replace H := H t2 ht2
 refine AtE.ru 1 ?_
 exact AtE.ret Tryz.func57 (by kernel_rfl) H
end Go.Eng
namespace Go.Eng
open Go Go.RowKit Go.Proofs
set_option linter.unusedVariables false
set_option maxRecDepth 100000
theorem wNum_vc (B : Nat) (NB : Nat) (no : Nat) (tx : ByteArray) (ca : Int) (cp : Value) (cb : Value) (F : SHeap) {R : Ending → World → Prop} {S : List Nat} {w0 W : World} (hm : Mem ((B, .cells #[.bool false, .string tx, .int .i64 ca, cp, cb] 95) :: F) S w0 W)
  (H :
   ∃ (cw : List Value) (m1 : Int), NB ∉ S ∧ blkW w0 NB = some cw ∧ cw[no]? = some (.int .i64 m1) ∧
   CallH Tryz.prog 72 ⟨[.int .i64 m1]⟩ ((B, .cells #[.bool false, .string tx, .int .i64 ca, cp, cb] 95) :: F) S w0 (fun v L' => ∃ (r1 : ByteArray) (r21 : Int), v = (.tuple #[.string r1, .int .i64 r21]) ∧ L' = ((B, .cells #[.bool false, .string tx, .int .i64 ca, cp, cb] 95) :: F) ∧
    CallH Tryz.prog 125 ⟨[.pointer (some ⟨B, 3, none⟩), .string r1]⟩ ((B, .cells #[.bool false, .string tx, .int .i64 ca, cp, cb] 95) :: F) S w0 (fun v L' => ∃ (r31 : Int) (r41 : Value) (cp1 : Value) (cb1 : Value) (F1 : SHeap), v = (.tuple #[.int .i64 r31, r41]) ∧ L' = ((B, .cells #[.bool false, .string tx, .int .i64 ca, cp1, cb1] 95) :: F1) ∧
     Fin R ((B, .cells #[.bool false, .string tx, .int .i64 ca, cp1, cb1] 95) :: F1) S w0 (.tuple #[])))) :
  Calls Tryz.prog 99 ⟨[.pointer (some ⟨B, 0, none⟩), .pointer (some ⟨NB, no, none⟩)]⟩ W R := by
 refine AtE.calls (nt := 49) Tryz.func99 (by kernel_rfl) hm ?_
 refine AtE.ru 6 ?_
 refine AtE.load 0 0 (T := 4) (v := .bool false) (by kernel_rfl) ?_
 refine AtE.ru 7 ?_
 obtain ⟨cw, m1, hs, hw, hx, H⟩ := H
 refine AtE.loadW (b := NB) (off := no) (T := 3) (v := .int .i64 m1) (by kernel_rfl) hs hw (valAt_one hx (by kernel_rfl)) ?_
 refine AtE.call 72 ⟨[.int .i64 m1]⟩ (fun W => by kernel_rfl) (by kernel_rfl) H ?_
 clear H
 rintro _ _ ⟨r1, r21, rfl, rfl, H⟩
 refine AtE.ru 12 ?_
 refine AtE.call 125 ⟨[.pointer (some ⟨B, 3, none⟩), .string r1]⟩ (fun W => by kernel_rfl) (by kernel_rfl) H ?_
 clear H
 rintro _ _ ⟨r31, r41, cp1, cb1, F1, rfl, rfl, H⟩
 refine AtE.ru 1 ?_
 exact AtE.ret Tryz.func99 (by kernel_rfl) H
theorem wWord_vc (B : Nat) (NB : Nat) (no : Nat) (tx : ByteArray) (ca : Int) (cp : Value) (cb : Value) (F : SHeap) {R : Ending → World → Prop} {S : List Nat} {w0 W : World} (hm : Mem ((B, .cells #[.bool false, .string tx, .int .i64 ca, cp, cb] 95) :: F) S w0 W)
  (H :
   ∃ (cw : List Value) (m1 : ByteArray), NB ∉ S ∧ blkW w0 NB = some cw ∧ cw[no]? = some (.string m1) ∧
   CallH Tryz.prog 118 ⟨[.string m1]⟩ ((B, .cells #[.bool false, .string tx, .int .i64 ca, cp, cb] 95) :: F) S w0 (fun v L' => ∃ (r1 : ByteArray) (r21 : Int), v = (.tuple #[.string r1, .int .i64 r21]) ∧ L' = ((B, .cells #[.bool false, .string tx, .int .i64 ca, cp, cb] 95) :: F) ∧
    CallH Tryz.prog 125 ⟨[.pointer (some ⟨B, 3, none⟩), .string r1]⟩ ((B, .cells #[.bool false, .string tx, .int .i64 ca, cp, cb] 95) :: F) S w0 (fun v L' => ∃ (r31 : Int) (r41 : Value) (cp1 : Value) (cb1 : Value) (F1 : SHeap), v = (.tuple #[.int .i64 r31, r41]) ∧ L' = ((B, .cells #[.bool false, .string tx, .int .i64 ca, cp1, cb1] 95) :: F1) ∧
     Fin R ((B, .cells #[.bool false, .string tx, .int .i64 ca, cp1, cb1] 95) :: F1) S w0 (.tuple #[])))) :
  Calls Tryz.prog 140 ⟨[.pointer (some ⟨B, 0, none⟩), .pointer (some ⟨NB, no, none⟩)]⟩ W R := by
 refine AtE.calls (nt := 49) Tryz.func140 (by kernel_rfl) hm ?_
 refine AtE.ru 6 ?_
 refine AtE.load 0 0 (T := 4) (v := .bool false) (by kernel_rfl) ?_
 refine AtE.ru 7 ?_
 obtain ⟨cw, m1, hs, hw, hx, H⟩ := H
 refine AtE.loadW (b := NB) (off := no) (T := 9) (v := .string m1) (by kernel_rfl) hs hw (valAt_one hx (by kernel_rfl)) ?_
 refine AtE.call 118 ⟨[.string m1]⟩ (fun W => by kernel_rfl) (by kernel_rfl) H ?_
 clear H
 rintro _ _ ⟨r1, r21, rfl, rfl, H⟩
 refine AtE.ru 12 ?_
 refine AtE.call 125 ⟨[.pointer (some ⟨B, 3, none⟩), .string r1]⟩ (fun W => by kernel_rfl) (by kernel_rfl) H ?_
 clear H
 rintro _ _ ⟨r31, r41, cp1, cb1, F1, rfl, rfl, H⟩
 refine AtE.ru 1 ?_
 exact AtE.ret Tryz.func140 (by kernel_rfl) H
theorem wCount_vc (B : Nat) (size : Int) (most : Int) (tx : ByteArray) (ca : Int) (cp : Value) (cb : Value) (F : SHeap) {R : Ending → World → Prop} {S : List Nat} {w0 W : World} (hm : Mem ((B, .cells #[.bool false, .string tx, .int .i64 ca, cp, cb] 95) :: F) S w0 W)
  (H :
   ∀ B1 : Nat,
   CallH Tryz.prog 99 ⟨[.pointer (some ⟨B, 0, none⟩), .pointer (some ⟨B1, 0, none⟩)]⟩ ((B1, .cells #[.int .i64 size] 3) :: (B, .cells #[.bool false, .string tx, .int .i64 ca, cp, cb] 95) :: F) S w0 (fun v L' => ∃ (cp1 : Value) (cb1 : Value) (F1 : SHeap), v = (.tuple #[]) ∧ L' = ((B1, .cells #[.int .i64 size] 3) :: (B, .cells #[.bool false, .string tx, .int .i64 ca, cp1, cb1] 95) :: F1) ∧
    Fin R ((B1, .cells #[.int .i64 size] 3) :: (B, .cells #[.bool false, .string tx, .int .i64 ca, cp1, cb1] 95) :: F1) S w0 (.int .i64 size))) :
  Calls Tryz.prog 173 ⟨[.pointer (some ⟨B, 0, none⟩), .int .i64 size, .int .i64 most]⟩ W R := by
 refine AtE.calls (nt := 21) Tryz.func173 (by kernel_rfl) hm ?_
 refine AtE.ru 2 ?_
 refine AtE.new (fun B => .pointer (some ⟨B, 0, none⟩)) (.cells #[.int .i64 size] 3) (fun W => by kernel_rfl) (by kernel_rfl) (fun B1 => ?_)
 replace H := H B1
 refine AtE.front ?_
 refine AtE.ru 5 ?_
 refine AtE.call 99 ⟨[.pointer (some ⟨B, 0, none⟩), .pointer (some ⟨B1, 0, none⟩)]⟩ (fun W => by kernel_rfl) (by kernel_rfl) H ?_
 clear H
 rintro _ _ ⟨cp1, cb1, F1, rfl, rfl, H⟩
 refine AtE.ru 7 ?_
 refine AtE.load 1 0 (T := 4) (v := .bool false) (by kernel_rfl) ?_
 refine AtE.ru 11 ?_
 refine AtE.load 0 0 (T := 3) (v := .int .i64 size) (by kernel_rfl) ?_
 refine AtE.ru 2 ?_
 exact AtE.ret Tryz.func173 (by kernel_rfl) H
def wTopics_c0 (B1 : Nat) (l_b : Nat) (t23 : Int) (t24 : Int) (m0 : Bool) (m11 : ByteArray) (m22 : Int) (m3 : Value) (m4 : Value) (F2 : SHeap) (S : List Nat) (w0 : World) (R : Ending → World → Prop) : Prop :=
 AtE Tryz.prog 142 35 [.code (sub (Eng.body Tryz.f142) [1,1,1,0,0]), .inLoop (sub (Eng.body Tryz.f142) [1,1,1,0,0]), .inBlock 0] [(0, .pointer (some ⟨B1, 0, none⟩)), (1, .pointer (some ⟨l_b, 9, none⟩)), (23, .int .i64 t23), (24, .int .i64 t24)] ((B1, .cells #[.bool m0, .string m11, .int .i64 m22, m3, m4] 95) :: F2) S w0 (nrm R)
theorem wTopics_c0_vc (B1 : Nat) (l_b : Nat) (t23 : Int) (t24 : Int) (m0 : Bool) (m11 : ByteArray) (m22 : Int) (m3 : Value) (m4 : Value) (F2 : SHeap) {R : Ending → World → Prop} {S : List Nat} {w0 : World}
  (H :
   ((t24 < t23) →
    ∃ (cw2 : List Value) (m51_p : Option Addr) (m51_l : Nat) (m51_c : Nat), l_b ∉ S ∧ blkW w0 l_b = some cw2 ∧ cw2[9]? = some (.slice m51_p m51_l m51_c) ∧
    ∃ m51_pb m51_po : Nat, m51_p = some ⟨m51_pb, m51_po, none⟩ ∧
    (0 ≤ t24 ∧ t24 < m51_l) ∧
    CallH Tryz.prog 140 ⟨[.pointer (some ⟨B1, 0, none⟩), .pointer (some ⟨m51_pb, (m51_po + (Int.toNat t24)), none⟩)]⟩ ((B1, .cells #[.bool m0, .string m11, .int .i64 m22, m3, m4] 95) :: F2) S w0 (fun v L' => ∃ (cp2 : Value) (cb2 : Value) (F3 : SHeap), v = (.tuple #[]) ∧ L' = ((B1, .cells #[.bool m0, .string m11, .int .i64 m22, cp2, cb2] 95) :: F3) ∧
     wTopics_c0 B1 l_b t23 (IntKind.i64.wrap (t24 + (1 : Int))) m0 m11 m22 cp2 cb2 F3 S w0 R)) ∧
    ((¬ (t24 < t23)) →
    Fin R ((B1, .cells #[.bool m0, .string m11, .int .i64 m22, m3, m4] 95) :: F2) S w0 (.tuple #[]))) :
  wTopics_c0 B1 l_b t23 t24 m0 m11 m22 m3 m4 F2 S w0 R := by
 unfold wTopics_c0
 refine AtE.ru 5 ?_
 refine AtE.splitP 25 (p := t24 < t23) (by kernel_rfl) (fun h1' => ?_) (fun h1' => ?_)
 ·replace H := H.1 h1'
  refine AtE.ru 13 ?_
  obtain ⟨cw2, m51_p, m51_l, m51_c, hs, hw, hx, H⟩ := H
  refine AtE.loadW (b := l_b) (off := 9) (T := 22) (v := .slice m51_p m51_l m51_c) (by kernel_rfl) hs hw (valAt_one hx (by kernel_rfl)) ?_
  refine AtE.ru 1 ?_
  obtain ⟨m51_pb, m51_po, rfl, H⟩ := H
  refine AtE.indexAddrL (E := 9) (b := m51_pb) (o := m51_po) (len := m51_l) (cap := m51_c) (sz := 1) (o' := (m51_po + (Int.toNat t24))) (kd := .i64) (i := t24) (by kernel_rfl) H.1 (by omega) ?_
  replace H := H.2
  refine AtE.call 140 ⟨[.pointer (some ⟨B1, 0, none⟩), .pointer (some ⟨m51_pb, (m51_po + (Int.toNat t24)), none⟩)]⟩ (fun W => by kernel_rfl) (by kernel_rfl) H ?_
  clear H
  rintro _ _ ⟨cp2, cb2, F3, rfl, rfl, H⟩
  refine AtE.ru 7 ?_
  exact AtE.cutT [0] 1 H (by kernel_rfl)
 ·replace H := H.2 h1'
  refine AtE.ru 2 ?_
  exact AtE.ret Tryz.func142 (by kernel_rfl) H
theorem wTopics_vc (B : Nat) (FB : Nat) (tx : ByteArray) (ca : Int) (cp : Value) (cb : Value) (F : SHeap) {R : Ending → World → Prop} {S : List Nat} {w0 W : World} (hm : Mem ((B, .cells #[.bool false, .string tx, .int .i64 ca, cp, cb] 95) :: F) S w0 W)
  (H :
   ∃ (cw : List Value) (m1_p : Option Addr) (m1_l : Nat) (m1_c : Nat), FB ∉ S ∧ blkW w0 FB = some cw ∧ cw[9]? = some (.slice m1_p m1_l m1_c) ∧
   CallH Tryz.prog 173 ⟨[.pointer (some ⟨B, 0, none⟩), .int .i64 (m1_l : Int), .int .i64 (4 : Int)]⟩ ((B, .cells #[.bool false, .string tx, .int .i64 ca, cp, cb] 95) :: F) S w0 (fun v L' => ∃ (r1 : Int) (cp1 : Value) (cb1 : Value) (F1 : SHeap), v = (.int .i64 r1) ∧ L' = ((B, .cells #[.bool false, .string tx, .int .i64 ca, cp1, cb1] 95) :: F1) ∧
    ∃ (cw1 : List Value) (m21_p : Option Addr) (m21_l : Nat) (m21_c : Nat), FB ∉ S ∧ blkW w0 FB = some cw1 ∧ cw1[9]? = some (.slice m21_p m21_l m21_c) ∧
    wTopics_c0 B FB (m21_l : Int) (0 : Int) false tx ca cp1 cb1 F1 S w0 R)) :
  Calls Tryz.prog 142 ⟨[.pointer (some ⟨B, 0, none⟩), .pointer (some ⟨FB, 9, none⟩)]⟩ W R := by
 refine AtE.calls (nt := 35) Tryz.func142 (by kernel_rfl) hm ?_
 refine AtE.ru 5 ?_
 obtain ⟨cw, m1_p, m1_l, m1_c, hs, hw, hx, H⟩ := H
 refine AtE.loadW (b := FB) (off := 9) (T := 22) (v := .slice m1_p m1_l m1_c) (by kernel_rfl) hs hw (valAt_one hx (by kernel_rfl)) ?_
 refine AtE.ru 1 ?_
 refine AtE.call 173 ⟨[.pointer (some ⟨B, 0, none⟩), .int .i64 (m1_l : Int), .int .i64 (4 : Int)]⟩ (fun W => by kernel_rfl) (by kernel_rfl) H ?_
 clear H
 rintro _ _ ⟨r1, cp1, cb1, F1, rfl, rfl, H⟩
 refine AtE.ru 8 ?_
 refine AtE.load 0 0 (T := 4) (v := .bool false) (by kernel_rfl) ?_
 refine AtE.ru 7 ?_
 obtain ⟨cw1, m21_p, m21_l, m21_c, hs, hw, hx, H⟩ := H
 refine AtE.loadW (b := FB) (off := 9) (T := 22) (v := .slice m21_p m21_l m21_c) (by kernel_rfl) hs hw (valAt_one hx (by kernel_rfl)) ?_
 refine AtE.ru 5 ?_
 exact AtE.cutT [0] 1 H (by kernel_rfl)
theorem wBlocks_vc (B : Nat) (FB : Nat) (tx : ByteArray) (ca : Int) (cp : Value) (cb : Value) (F : SHeap) {R : Ending → World → Prop} {S : List Nat} {w0 W : World} (hm : Mem ((B, .cells #[.bool false, .string tx, .int .i64 ca, cp, cb] 95) :: F) S w0 W)
  (H :
   ∀ B1 : Nat,
   ∃ (cw : List Value) (m1_p : Option Addr) (m1_l : Nat) (m1_c : Nat), FB ∉ S ∧ blkW w0 FB = some cw ∧ cw[10]? = some (.slice m1_p m1_l m1_c) ∧
   CallH Tryz.prog 174 ⟨[.slice m1_p m1_l m1_c]⟩ ((B1, .cells #[.string (⟨#[]⟩)] 9) :: (B, .cells #[.bool false, .string tx, .int .i64 ca, cp, cb] 95) :: F) S w0 (fun v L' => ∃ (r1 : ByteArray) (r21 : Int), v = (.tuple #[.string r1, .int .i64 r21]) ∧ L' = ((B1, .cells #[.string (⟨#[]⟩)] 9) :: (B, .cells #[.bool false, .string tx, .int .i64 ca, cp, cb] 95) :: F) ∧
    CallH Tryz.prog 140 ⟨[.pointer (some ⟨B, 0, none⟩), .pointer (some ⟨B1, 0, none⟩)]⟩ ((B1, .cells #[.string r1] 9) :: (B, .cells #[.bool false, .string tx, .int .i64 ca, cp, cb] 95) :: F) S w0 (fun v L' => ∃ (cp1 : Value) (cb1 : Value) (F1 : SHeap), v = (.tuple #[]) ∧ L' = ((B1, .cells #[.string r1] 9) :: (B, .cells #[.bool false, .string tx, .int .i64 ca, cp1, cb1] 95) :: F1) ∧
     Fin R ((B1, .cells #[.string r1] 9) :: (B, .cells #[.bool false, .string tx, .int .i64 ca, cp1, cb1] 95) :: F1) S w0 (.tuple #[])))) :
  Calls Tryz.prog 144 ⟨[.pointer (some ⟨B, 0, none⟩), .pointer (some ⟨FB, 10, none⟩)]⟩ W R := by
 refine AtE.calls (nt := 36) Tryz.func144 (by kernel_rfl) hm ?_
 refine AtE.ru 2 ?_
 refine AtE.new (fun B => .pointer (some ⟨B, 0, none⟩)) (.cells #[.string (⟨#[]⟩)] 9) (fun W => by kernel_rfl) (by kernel_rfl) (fun B1 => ?_)
 replace H := H B1
 refine AtE.front ?_
 refine AtE.store 0 0 (T := 9) (v := .string (⟨#[]⟩)) (by kernel_rfl) ?_
 refine AtE.ru 7 ?_
 refine AtE.load 1 0 (T := 4) (v := .bool false) (by kernel_rfl) ?_
 refine AtE.ru 6 ?_
 obtain ⟨cw, m1_p, m1_l, m1_c, hs, hw, hx, H⟩ := H
 refine AtE.loadW (b := FB) (off := 10) (T := 23) (v := .slice m1_p m1_l m1_c) (by kernel_rfl) hs hw (valAt_one hx (by kernel_rfl)) ?_
 refine AtE.call 174 ⟨[.slice m1_p m1_l m1_c]⟩ (fun W => by kernel_rfl) (by kernel_rfl) H ?_
 clear H
 rintro _ _ ⟨r1, r21, rfl, rfl, H⟩
 refine AtE.ru 3 ?_
 refine AtE.store 0 0 (T := 9) (v := .string r1) (by kernel_rfl) ?_
 refine AtE.ru 4 ?_
 refine AtE.call 140 ⟨[.pointer (some ⟨B, 0, none⟩), .pointer (some ⟨B1, 0, none⟩)]⟩ (fun W => by kernel_rfl) (by kernel_rfl) H ?_
 clear H
 rintro _ _ ⟨cp1, cb1, F1, rfl, rfl, H⟩
 refine AtE.norm (k' := [.inRegion (regOps [.code (sub (Eng.body Tryz.f144) [1,1,0])]) [], .code (sub (Eng.body Tryz.f144) [1,1,1])]) (e' := [(0, .pointer (some ⟨B, 0, none⟩)), (1, .pointer (some ⟨FB, 10, none⟩)), (4, .pointer (some ⟨B1, 0, none⟩))]) (L' := ((B1, .cells #[.string r1] 9) :: (B, .cells #[.bool false, .string tx, .int .i64 ca, cp1, cb1] 95) :: F1)) ?_ (by kernel_rfl)
 refine AtE.ru 6 ?_
 refine AtE.load 1 0 (T := 4) (v := .bool false) (by kernel_rfl) ?_
 refine AtE.ru 3 ?_
 exact AtE.ret Tryz.func144 (by kernel_rfl) H
end Go.Eng
namespace Go.Eng
open Go Go.RowKit Go.Proofs
set_option linter.unusedVariables false
set_option maxRecDepth 100000
def wLabel_c0 (B1 : Nat) (l_b : Nat) (t31 : Int) (t32 : Int) (m0 : Bool) (m11 : ByteArray) (m22 : Int) (m3 : Value) (m4 : Value) (F3 : SHeap) (S : List Nat) (w0 : World) (R : Ending → World → Prop) : Prop :=
 AtE Tryz.prog 146 54 [.code (sub (Eng.body Tryz.f146) [1,1,1,0,1,0,0]), .inLoop (sub (Eng.body Tryz.f146) [1,1,1,0,1,0,0]), .inBlock 0, .code (sub (Eng.body Tryz.f146) [1,1,1,1])] [(0, .pointer (some ⟨B1, 0, none⟩)), (1, .pointer (some ⟨l_b, 11, none⟩)), (31, .int .i64 t31), (32, .int .i64 t32)] ((B1, .cells #[.bool m0, .string m11, .int .i64 m22, m3, m4] 95) :: F3) S w0 (nrm R)
theorem wLabel_c0_vc (B1 : Nat) (l_b : Nat) (t31 : Int) (t32 : Int) (m0 : Bool) (m11 : ByteArray) (m22 : Int) (m3 : Value) (m4 : Value) (F3 : SHeap) {R : Ending → World → Prop} {S : List Nat} {w0 : World}
  (H :
   ((t32 < t31) →
    ∃ (cw2 : List Value) (m51_p : Option Addr) (m51_l : Nat) (m51_c : Nat), l_b ∉ S ∧ blkW w0 l_b = some cw2 ∧ cw2[12]? = some (.slice m51_p m51_l m51_c) ∧
    ∃ m51_pb m51_po : Nat, m51_p = some ⟨m51_pb, m51_po, none⟩ ∧
    (0 ≤ t32 ∧ t32 < m51_l) ∧
    CallH Tryz.prog 99 ⟨[.pointer (some ⟨B1, 0, none⟩), .pointer (some ⟨m51_pb, (m51_po + (Int.toNat t32)), none⟩)]⟩ ((B1, .cells #[.bool m0, .string m11, .int .i64 m22, m3, m4] 95) :: F3) S w0 (fun v L' => ∃ (cp3 : Value) (cb3 : Value) (F4 : SHeap), v = (.tuple #[]) ∧ L' = ((B1, .cells #[.bool m0, .string m11, .int .i64 m22, cp3, cb3] 95) :: F4) ∧
     wLabel_c0 B1 l_b t31 (IntKind.i64.wrap (t32 + (1 : Int))) m0 m11 m22 cp3 cb3 F4 S w0 R)) ∧
    ((¬ (t32 < t31)) →
    CallH Tryz.prog 99 ⟨[.pointer (some ⟨B1, 0, none⟩), .pointer (some ⟨l_b, 13, none⟩)]⟩ ((B1, .cells #[.bool m0, .string m11, .int .i64 m22, m3, m4] 95) :: F3) S w0 (fun v L' => ∃ (cp4 : Value) (cb4 : Value) (F5 : SHeap), v = (.tuple #[]) ∧ L' = ((B1, .cells #[.bool m0, .string m11, .int .i64 m22, cp4, cb4] 95) :: F5) ∧
     CallH Tryz.prog 99 ⟨[.pointer (some ⟨B1, 0, none⟩), .pointer (some ⟨l_b, 14, none⟩)]⟩ ((B1, .cells #[.bool m0, .string m11, .int .i64 m22, cp4, cb4] 95) :: F5) S w0 (fun v L' => ∃ (cp5 : Value) (cb5 : Value) (F6 : SHeap), v = (.tuple #[]) ∧ L' = ((B1, .cells #[.bool m0, .string m11, .int .i64 m22, cp5, cb5] 95) :: F6) ∧
      Fin R ((B1, .cells #[.bool m0, .string m11, .int .i64 m22, cp5, cb5] 95) :: F6) S w0 (.tuple #[]))))) :
  wLabel_c0 B1 l_b t31 t32 m0 m11 m22 m3 m4 F3 S w0 R := by
 unfold wLabel_c0
 refine AtE.ru 5 ?_
 refine AtE.splitP 33 (p := t32 < t31) (by kernel_rfl) (fun h1' => ?_) (fun h1' => ?_)
 ·replace H := H.1 h1'
  refine AtE.ru 14 ?_
  obtain ⟨cw2, m51_p, m51_l, m51_c, hs, hw, hx, H⟩ := H
  refine AtE.loadW (b := l_b) (off := 12) (T := 24) (v := .slice m51_p m51_l m51_c) (by kernel_rfl) hs hw (valAt_one hx (by kernel_rfl)) ?_
  refine AtE.ru 1 ?_
  obtain ⟨m51_pb, m51_po, rfl, H⟩ := H
  refine AtE.indexAddrL (E := 3) (b := m51_pb) (o := m51_po) (len := m51_l) (cap := m51_c) (sz := 1) (o' := (m51_po + (Int.toNat t32))) (kd := .i64) (i := t32) (by kernel_rfl) H.1 (by omega) ?_
  replace H := H.2
  refine AtE.call 99 ⟨[.pointer (some ⟨B1, 0, none⟩), .pointer (some ⟨m51_pb, (m51_po + (Int.toNat t32)), none⟩)]⟩ (fun W => by kernel_rfl) (by kernel_rfl) H ?_
  clear H
  rintro _ _ ⟨cp3, cb3, F4, rfl, rfl, H⟩
  refine AtE.ru 7 ?_
  exact AtE.cutT [0] 1 H (by kernel_rfl)
 ·replace H := H.2 h1'
  refine AtE.ru 8 ?_
  refine AtE.call 99 ⟨[.pointer (some ⟨B1, 0, none⟩), .pointer (some ⟨l_b, 13, none⟩)]⟩ (fun W => by kernel_rfl) (by kernel_rfl) H ?_
  clear H
  rintro _ _ ⟨cp4, cb4, F5, rfl, rfl, H⟩
  refine AtE.ru 6 ?_
  refine AtE.call 99 ⟨[.pointer (some ⟨B1, 0, none⟩), .pointer (some ⟨l_b, 14, none⟩)]⟩ (fun W => by kernel_rfl) (by kernel_rfl) H ?_
  clear H
  rintro _ _ ⟨cp5, cb5, F6, rfl, rfl, H⟩
  refine AtE.ru 1 ?_
  exact AtE.ret Tryz.func146 (by kernel_rfl) H
theorem wLabel_vc (B : Nat) (FB : Nat) (tx : ByteArray) (ca : Int) (cp : Value) (cb : Value) (F : SHeap) {R : Ending → World → Prop} {S : List Nat} {w0 W : World} (hm : Mem ((B, .cells #[.bool false, .string tx, .int .i64 ca, cp, cb] 95) :: F) S w0 W)
  (H :
   CallH Tryz.prog 99 ⟨[.pointer (some ⟨B, 0, none⟩), .pointer (some ⟨FB, 11, none⟩)]⟩ ((B, .cells #[.bool false, .string tx, .int .i64 ca, cp, cb] 95) :: F) S w0 (fun v L' => ∃ (cp1 : Value) (cb1 : Value) (F1 : SHeap), v = (.tuple #[]) ∧ L' = ((B, .cells #[.bool false, .string tx, .int .i64 ca, cp1, cb1] 95) :: F1) ∧
    ∃ (cw : List Value) (m1_p : Option Addr) (m1_l : Nat) (m1_c : Nat), FB ∉ S ∧ blkW w0 FB = some cw ∧ cw[12]? = some (.slice m1_p m1_l m1_c) ∧
    CallH Tryz.prog 173 ⟨[.pointer (some ⟨B, 0, none⟩), .int .i64 (m1_l : Int), .int .i64 (64 : Int)]⟩ ((B, .cells #[.bool false, .string tx, .int .i64 ca, cp1, cb1] 95) :: F1) S w0 (fun v L' => ∃ (r1 : Int) (cp2 : Value) (cb2 : Value) (F2 : SHeap), v = (.int .i64 r1) ∧ L' = ((B, .cells #[.bool false, .string tx, .int .i64 ca, cp2, cb2] 95) :: F2) ∧
     ∃ (cw1 : List Value) (m21_p : Option Addr) (m21_l : Nat) (m21_c : Nat), FB ∉ S ∧ blkW w0 FB = some cw1 ∧ cw1[12]? = some (.slice m21_p m21_l m21_c) ∧
     wLabel_c0 B FB (m21_l : Int) (0 : Int) false tx ca cp2 cb2 F2 S w0 R))) :
  Calls Tryz.prog 146 ⟨[.pointer (some ⟨B, 0, none⟩), .pointer (some ⟨FB, 11, none⟩)]⟩ W R := by
 refine AtE.calls (nt := 54) Tryz.func146 (by kernel_rfl) hm ?_
 refine AtE.ru 6 ?_
 refine AtE.call 99 ⟨[.pointer (some ⟨B, 0, none⟩), .pointer (some ⟨FB, 11, none⟩)]⟩ (fun W => by kernel_rfl) (by kernel_rfl) H ?_
 clear H
 rintro _ _ ⟨cp1, cb1, F1, rfl, rfl, H⟩
 refine AtE.ru 7 ?_
 obtain ⟨cw, m1_p, m1_l, m1_c, hs, hw, hx, H⟩ := H
 refine AtE.loadW (b := FB) (off := 12) (T := 24) (v := .slice m1_p m1_l m1_c) (by kernel_rfl) hs hw (valAt_one hx (by kernel_rfl)) ?_
 refine AtE.ru 1 ?_
 refine AtE.call 173 ⟨[.pointer (some ⟨B, 0, none⟩), .int .i64 (m1_l : Int), .int .i64 (64 : Int)]⟩ (fun W => by kernel_rfl) (by kernel_rfl) H ?_
 clear H
 rintro _ _ ⟨r1, cp2, cb2, F2, rfl, rfl, H⟩
 refine AtE.ru 8 ?_
 refine AtE.load 0 0 (T := 4) (v := .bool false) (by kernel_rfl) ?_
 refine AtE.ru 9 ?_
 obtain ⟨cw1, m21_p, m21_l, m21_c, hs, hw, hx, H⟩ := H
 refine AtE.loadW (b := FB) (off := 12) (T := 24) (v := .slice m21_p m21_l m21_c) (by kernel_rfl) hs hw (valAt_one hx (by kernel_rfl)) ?_
 refine AtE.ru 5 ?_
 exact AtE.cutT [0] 1 H (by kernel_rfl)
end Go.Eng
