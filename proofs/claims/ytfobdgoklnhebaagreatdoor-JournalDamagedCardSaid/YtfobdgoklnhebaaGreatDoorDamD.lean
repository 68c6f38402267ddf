/- A part of the proof. -/
import Derived.Test.YtfobdgoklnhebaaGreatDoorChecked
import Derived.Test.YtfobdgoklnhebaaGreatDoorDamC
set_option linter.unusedVariables false
set_option linter.unusedSimpArgs false
set_option maxRecDepth 100000
namespace Go.Eng
open Go Go.RowKit Go.Proofs
variable {P : Program} {R : Ending → World → Prop} {S : List Nat} {w0 W : World} {lk : Lk} {tp bp ap : OA} {tc bc ac : Nat} {K K' : Value → SHeap → Prop} {args : Array Value} {g : FuncId}
abbrev zF2aa (a : Fct) (b x2 x3 : Nat) (x4 x5 c : OA) : Array Value := #[IV a.n, IV a.time, IV a.kind, IV a.story, .string a.lang, IV a.rev, IV a.base, .string a.title, .string a.author, .slice x4 a.topics.length b, .slice x5 a.blocks.length x2, IV a.lab.unt, .slice c a.lab.after.length x3, IV a.lab.appr, IV a.lab.den, IV a.editor, IV a.block, IV a.sentence, .string a.text, .string a.name, IV a.partner, IV a.cls, IV a.unt]
theorem isRev_vc (b : Fct) (h : OA) (g : Nat) (f : OA) (e : Nat) (d : OA) (c : Nat) (hm : Mem [] [] w0 W) (H : VP [] w0 R (.np 2 (.cells (zF2aa b g e c h f d) 38) fun B => .hp [(B, .cells (zF2aa b g e c h f d) 38)] fun a => .ru [5,200] <| .cl 0 104 [.string b.lang] a <| .ex fun i => .rt (.bool i) a <| .B 1 6 i (.ru [1,200] <| .il 0 Tryz.func64 [IV b.rev, IV 1, IV 100] <| .P 10 10 (1 ≤ b.rev) (.rk 6 <| .P 2 11 (b.rev ≤ 100) (.ru [1,200,1,200] <| .il 1 Tryz.func64 [IV b.base, IV 0, IV (IntKind.i64.wrap (b.rev - 1))] <| .P 10 10 (0 ≤ b.base) (.rk 6 <| .P 2 19 (b.base ≤ (IntKind.i64.wrap (b.rev - 1))) (.ru [1,200] <| .cl 0 103 [.string b.title] a <| .ex fun j => .rt (.bool j) a <| .B 2 24 j (.ru [1,200] <| .cl 0 104 [.string b.author] a <| .ex fun k => .rt (.bool k) a <| .B 2 29 k (.ru [1,200] <| .cl 0 140 [.slice h b.topics.length g] a <| .ex fun l => .rt (.bool l) a <| .B 2 34 l (.ru [1,200] <| .cl 0 141 [.slice f b.blocks.length e] a <| .ex fun m => .rt (.bool m) a <| .B 2 39 m (.ru [1,200] <| .cl 0 101 [.agg #[IV b.lab.unt, .slice d b.lab.after.length c, IV b.lab.appr, IV b.lab.den]] a <| .ex fun n => .rt (.bool n) a <| .re 3 (.bool n) a) <| .re 6 (.bool false) a) <| .re 11 (.bool false) a) <| .re 16 (.bool false) a) <| .re 21 (.bool false) a) <| .re 26 (.bool false) a) <| .rk 6 <| .re 28 (.bool false) a) <| .re 34 (.bool false) a) <| .rk 6 <| .re 36 (.bool false) a) <| .re 39 (.bool false) a)) : Calls TP 100 ⟨[.agg (zF2aa b g e c h f d)]⟩ W R := VC.cs Tryz.func100 hm _ H
theorem isCor_vc (a : Fct) (h : OA) (g : Nat) (f : OA) (e : Nat) (d : OA) (c : Nat) (hm : Mem [] [] w0 W) (H : VP [] w0 R (.np 2 (.cells (zF2aa a g e c h f d) 38) fun B => .hp [(B, .cells (zF2aa a g e c h f d) 38)] fun b => .ru [5,200] <| .cl 0 104 [.string a.lang] b <| .ex fun i => .rt (.bool i) b <| .B 1 6 i (.ru [1,200] <| .il 0 Tryz.func64 [IV a.block, IV 1, IV 1000] <| .P 10 10 (1 ≤ a.block) (.rk 6 <| .P 2 11 (a.block ≤ 1000) (.ru [1,200] <| .il 0 Tryz.func64 [IV a.sentence, IV 0, IV 299] <| .P 10 10 (0 ≤ a.sentence) (.rk 6 <| .P 2 16 (a.sentence ≤ 299) (.ru [1,200] <| .cl 0 103 [.string a.text] b <| .ex fun j => .rt (.bool j) b <| .re 3 (.bool j) b) <| .re 6 (.bool false) b) <| .rk 6 <| .re 8 (.bool false) b) <| .re 11 (.bool false) b) <| .rk 6 <| .re 13 (.bool false) b) <| .re 16 (.bool false) b)) : Calls TP 102 ⟨[.agg (zF2aa a g e c h f d)]⟩ W R := VC.cs Tryz.func102 hm _ H
theorem fSame_vc (b : Fct) (i : OA) (h : Nat) (g : OA) (f : Nat) (e : OA) (d : Nat) (c : Fct) (p : OA) (o : Nat) (m : OA) (l : Nat) (k : OA) (j : Nat) (hm : Mem [] [] w0 W) (H : VP [] w0 R (.np 2 (.cells (zF2aa b h f d i g e) 38) fun B => .np 0 (.cells (zF2aa c o l j p m k) 38) fun u => .hp [(B, .cells (zF2aa b h f d i g e) 38), (u, .cells (zF2aa c o l j p m k) 38)] fun a => .ru [5,200,1,201] <| .P 2 10 (b.n = c.n) (.ru [1,200,1,201] <| .P 3 17 (b.time = c.time) (.ru [1,200,1,201] <| .P 3 24 (b.kind = c.kind) (.ru [1,200,1,201] <| .P 3 31 (b.story = c.story) (.ru [1,200,1,201] <| .sE 3 38 b.lang c.lang (.ru [1,200,1,201] <| .P 3 45 (b.rev = c.rev) (.ru [1,200,1,201] <| .P 3 52 (b.base = c.base) (.ru [1,200,1,201] <| .sE 3 59 b.title c.title (.ru [1,200,1,201] <| .sE 3 66 b.author c.author (.ru [1,200,1,201] <| .cl 0 106 [.slice i b.topics.length h, .slice p c.topics.length o] a <| .ex fun q => .rt (.bool q) a <| .B 2 73 q (.ru [1,200,1,201] <| .cl 0 107 [.slice g b.blocks.length f, .slice m c.blocks.length l] a <| .ex fun s => .rt (.bool s) a <| .B 2 80 s (.ru [1,200,1,201] <| .cl 0 108 [.agg #[IV b.lab.unt, .slice e b.lab.after.length d, IV b.lab.appr, IV b.lab.den], .agg #[IV c.lab.unt, .slice k c.lab.after.length j, IV c.lab.appr, IV c.lab.den]] a <| .ex fun t => .rt (.bool t) a <| .B 2 87 t (.ru [1,200,1,201] <| .P 3 94 (b.editor = c.editor) (.ru [1,200,1,201] <| .P 3 101 (b.block = c.block) (.ru [1,200,1,201] <| .P 3 108 (b.sentence = c.sentence) (.ru [1,200,1,201] <| .sE 3 115 b.text c.text (.ru [1,200,1,201] <| .sE 3 122 b.name c.name (.ru [1,200,1,201] <| .P 3 129 (b.partner = c.partner) (.ru [1,200,1,201] <| .P 3 136 (b.cls = c.cls) (.ru [1,200,1,201] <| .re 4 (.bool (decide (b.unt = c.unt))) a) <| .re 8 (.bool false) a) <| .re 15 (.bool false) a) <| .re 22 (.bool false) a) <| .re 29 (.bool false) a) <| .re 36 (.bool false) a) <| .re 43 (.bool false) a) <| .re 50 (.bool false) a) <| .re 57 (.bool false) a) <| .re 64 (.bool false) a) <| .re 71 (.bool false) a) <| .re 78 (.bool false) a) <| .re 85 (.bool false) a) <| .ru [90] <| .re 2 (.bool false) a) <| .ru [90] <| .re 9 (.bool false) a) <| .ru [90] <| .re 16 (.bool false) a) <| .ru [90] <| .re 23 (.bool false) a) <| .ru [90] <| .re 30 (.bool false) a) <| .ru [90] <| .re 37 (.bool false) a) <| .ru [90] <| .re 44 (.bool false) a)) : Calls TP 66 ⟨[.agg (zF2aa b h f d i g e), .agg (zF2aa c o l j p m k)]⟩ W R := VC.cs Tryz.func66 hm _ H
open Wire
def Fct.Fits (f : Fct) : Prop :=
 (f.lang.size ≤ 9223372036854775807 ∧ f.title.size ≤ 9223372036854775807 ∧ f.author.size ≤ 9223372036854775807 ∧ f.text.size ≤ 9223372036854775807 ∧ f.name.size ≤ 9223372036854775807) ∧
 (f.topics.length ≤ 9223372036854775807 ∧ ∀ t ∈ f.topics, t.size ≤ 9223372036854775807) ∧ f.blocks.length ≤ 9223372036854775807 ∧ f.lab.after.length ≤ 9223372036854775807
structure FAt (lk : Lk) (f : Fct) (tp : OA) (tc : Nat) (bp : OA) (bc : Nat) (ap : OA) (ac : Nat) : Prop where
 tops : StrsL lk tp f.topics
 blks : BlksL lk bp f.blocks
 ints : IntsL lk ap f.lab.after
 ct : f.topics.length ≤ tc
 cb : f.blocks.length ≤ bc
 ca : f.lab.after.length ≤ ac
 fits : f.Fits
theorem FAt.mono {lk O : Lk} {f : Fct} {tp : OA} {tc : Nat} {bp : OA} {bc : Nat} {ap : OA} {ac : Nat} (h : FAt lk f tp tc bp bc ap ac) (M : ∀ b c, lk b c → O b c) : FAt O f tp tc bp bc ap ac :=
 ⟨h.tops.mono M, h.blks.mono M, h.ints.mono M, h.ct, h.cb, h.ca, h.fits⟩
def FctL (lk : Lk) (cs : List Value) (f : Fct) : Prop := ∃ tp tc bp bc ap ac, cs = f.cells tp tc bp bc ap ac ∧ FAt lk f tp tc bp bc ap ac
theorem consN_loop {s : BA} (M : s.size ≤ 9223372036854775807) : ∀ (g i : Nat), g + i = s.size → Fin R [] [] w0 (.bool (scan s nameB i)) → consN_c0 s (i : Int) w0 R
 | 0, i, hg, H => by
  apply consN_c0_vc
  exact no (by omega) (finEq H (by rw [scan_end (by omega)]))
 | g + 1, i, hg, H => by
  apply consN_c0_vc
  have hi : i < s.size := by omega
  have next : nameB (bat s i) = true → ∀ x : Int, x = IntKind.i64.wrap ((i : Int) + 1) → consN_c0 s x w0 R := by
   rintro hn _ rfl
   rw [wi64 (by omega), show (i : Int) + 1 = ((i + 1 : Nat) : Int) by omega]
   rw [scan_yes hi hn] at H
   exact consN_loop M g (i + 1) (by omega) H
  have stop : nameB (bat s i) = false → Fin R [] [] w0 (.bool false) := fun hn => finEq H (by rw [scan_no hi hn])
  refine yes (by omega) ?_
  repeat' (first
   | refine And.intro ?_ ?_
   | omega
   | exact stop (decide_eq_false (by omega))
   | exact next (decide_eq_true (by omega))
   | intro _)
theorem consT_loop {s : BA} (M : s.size ≤ 9223372036854775807) : ∀ (g i : Nat), g + i = s.size → Fin R [] [] w0 (.bool (scan s txtB i)) → consT_c0 s (i : Int) w0 R
 | 0, i, hg, H => by
  apply consT_c0_vc
  exact no (by omega) (finEq H (by rw [scan_end (by omega)]))
 | g + 1, i, hg, H => by
  apply consT_c0_vc
  have hi : i < s.size := by omega
  have next : txtB (bat s i) = true → ∀ x : Int, x = IntKind.i64.wrap ((i : Int) + 1) → consT_c0 s x w0 R := by
   rintro hn _ rfl
   rw [wi64 (by omega), show (i : Int) + 1 = ((i + 1 : Nat) : Int) by omega]
   rw [scan_yes hi hn] at H
   exact consT_loop M g (i + 1) (by omega) H
  have stop : txtB (bat s i) = false → Fin R [] [] w0 (.bool false) := fun hn => finEq H (by rw [scan_no hi hn])
  refine yes (by omega) ?_
  repeat' (first
   | refine And.intro ?_ ?_
   | omega
   | exact stop (decide_eq_false (by omega))
   | exact next (decide_eq_true (by omega))
   | intro _)
theorem srcB_yes {b : Int} (h : b = 10 ∨ (32 ≤ b ∧ b ≤ 126)) : srcB b = true := by
 simp only [srcB, txtB, Bool.or_eq_true, decide_eq_true_eq]; exact h
theorem srcB_no {b : Int} (h : ¬ (b = 10 ∨ (32 ≤ b ∧ b ≤ 126))) : srcB b = false := by
 cases hb : srcB b with
 | false => rfl
 | true => simp only [srcB, txtB, Bool.or_eq_true, decide_eq_true_eq] at hb; exact absurd hb h
theorem consS_loop {s : BA} (M : s.size ≤ 9223372036854775807) : ∀ (g i : Nat), g + i = s.size → Fin R [] [] w0 (.bool (scan s srcB i)) → consS_c0 s (i : Int) w0 R
 | 0, i, hg, H => by
  apply consS_c0_vc
  exact no (by omega) (finEq H (by rw [scan_end (by omega)]))
 | g + 1, i, hg, H => by
  apply consS_c0_vc
  have hi : i < s.size := by omega
  have next : srcB (bat s i) = true → ∀ x : Int, x = IntKind.i64.wrap ((i : Int) + 1) → consS_c0 s x w0 R := by
   rintro hn _ rfl
   rw [wi64 (by omega), show (i : Int) + 1 = ((i + 1 : Nat) : Int) by omega]
   rw [scan_yes hi hn] at H
   exact consS_loop M g (i + 1) (by omega) H
  have stop : srcB (bat s i) = false → Fin R [] [] w0 (.bool false) := fun hn => finEq H (by rw [scan_no hi hn])
  refine yes (by omega) ?_
  repeat' (first
   | refine And.intro ?_ ?_
   | omega
   | exact stop (srcB_no (by omega))
   | exact next (srcB_yes (by omega))
   | intro _)
theorem fName_c (s : BA) (O : s.size ≤ 9223372036854775807) : PureC TP 104 ⟨[.string s]⟩ (.bool (nameOk s)) := by
 have h : PureC TP 143 ⟨[.string s, .int .i64 1, .int .i64 20, .func (.func 145) #[] #[]]⟩ (.bool (nameOk s)) := fun W => by
  refine consN_vc s 1 20 (Mem.start [] W) ⟨fun h => ⟨fun M => finPure ?_, fun M => consN_loop O s.size 0 (by omega) (finPure ?_)⟩, fun h => finPure ?_⟩
  ·rw [nameOk, decide_eq_false (by omega), Bool.false_and]
  ·rw [nameOk, decide_eq_true (by omega), Bool.true_and]
  ·rw [nameOk, decide_eq_false (by omega), Bool.false_and]
 exact fun W => fName_vc s (Mem.start [] W) (CallH.pure h ⟨_, rfl, rfl, finPure rfl⟩)
theorem fText_c (s : BA) (O : s.size ≤ 9223372036854775807) : PureC TP 103 ⟨[.string s]⟩ (.bool (fillOk s)) := by
 have h : PureC TP 143 ⟨[.string s, .int .i64 1, .int .i64 300, .func (.func 144) #[] #[]]⟩ (.bool (fillOk s)) := fun W => by
  refine consT_vc s 1 300 (Mem.start [] W) ⟨fun h => ⟨fun M => finPure ?_, fun M => consT_loop O s.size 0 (by omega) (finPure ?_)⟩, fun h => finPure ?_⟩
  ·rw [fillOk, txtOk, decide_eq_false (p := s.size ≤ 300) (by omega), Bool.false_and, Bool.and_false]
  ·rw [fillOk, txtOk, decide_eq_true (p := s.size ≤ 300) (by omega), decide_eq_true (p := s.size ≠ 0) (by omega), Bool.true_and, Bool.true_and]
  ·rw [fillOk, decide_eq_false (p := s.size ≠ 0) (by omega), Bool.false_and]
 exact fun W => fText_vc s (Mem.start [] W) (CallH.pure h ⟨_, rfl, rfl, finPure rfl⟩)
theorem fSource_c (s : BA) (O : s.size ≤ 9223372036854775807) : PureC TP 105 ⟨[.string s]⟩ (.bool (srcOk s)) := by
 have h : PureC TP 143 ⟨[.string s, .int .i64 0, .int .i64 1000, .func (.func 146) #[] #[]]⟩ (.bool (srcOk s)) := fun W => by
  refine consS_vc s 0 1000 (Mem.start [] W) ⟨fun h => ⟨fun M => finPure ?_, fun M => consS_loop O s.size 0 (by omega) (finPure ?_)⟩, fun h => absurd h (by omega)⟩
  ·rw [srcOk, decide_eq_false (by omega), Bool.false_and]
  ·rw [srcOk, decide_eq_true (by omega), Bool.true_and]
 exact fun W => fSource_vc s (Mem.start [] W) (CallH.pure h ⟨_, rfl, rfl, finPure rfl⟩)
def prevT (l : List BA) : Nat → Option BA
 | 0 => none
 | k + 1 => l[k]?
theorem areTopics_loop {w0 : World} {p : OA} {c : Nat} {R : Ending → World → Prop} {l : List BA} (hp : StrsL (lkW w0) p l) (a0 : ∀ t ∈ l, t.size ≤ 9223372036854775807) (hm : l.length ≤ 9223372036854775807) :
  ∀ (g i : Nat), g + i = l.length → Fin R [] [] w0 (.bool (topicsGo (prevT l i) (l.drop i))) → areTopics_c0 p l.length c (i : Int) w0 R
 | 0, i, hg, H => by
  apply areTopics_c0_vc
  refine no (by omega) (finEq H ?_)
  rw [List.drop_of_length_le (by omega)]
  cases i <;> rfl
 | g + 1, i, hg, H => by
  apply areTopics_c0_vc
  have hi : i < l.length := by omega
  obtain ⟨b, o, cc, e1, a2, a3⟩ := hp.get hi
  rw [List.drop_eq_getElem_cons hi, topicsGo] at H
  have next : nameOk l[i] = true → tAfter (prevT l i) l[i] = true → areTopics_c0 p l.length c (IntKind.i64.wrap ((i : Int) + 1)) w0 R := fun M a7 => by
   rw [M, a7, Bool.true_and, Bool.true_and] at H
   rw [wi64 (by omega), show (i : Int) + 1 = ((i + 1 : Nat) : Int) by omega]
   refine areTopics_loop hp a0 hm g (i + 1) (by omega) (finEq H ?_)
   rw [prevT, List.getElem?_eq_getElem hi]
  refine yes (by omega) ⟨b, o, e1, by omega, cc, l[i], a2, by simpa using a3, CallH.pure (fName_c _ (a0 _ (List.getElem_mem hi))) ⟨_, rfl, rfl, fun M => ⟨fun a6 => ?_, fun a6 => ?_⟩, fun M => finEq H (by rw [M]; rfl)⟩⟩
  ·obtain ⟨k, rfl⟩ : ∃ k, i = k + 1 := ⟨i - 1, by omega⟩
   have V : k < l.length := by omega
   obtain ⟨b2, a9, a1, f1, a4, a5⟩ := hp.get V
   have a8 : IntKind.i64.wrap (((k + 1 : Nat) : Int) - 1) = (k : Int) := by rw [wi64 (by omega)]; omega
   have Z : prevT l (k + 1) = some l[k] := by rw [prevT, List.getElem?_eq_getElem V]
   try dsimp only
   rw [a8]
   refine ⟨b2, a9, f1, by omega, a1, l[k], a4, by simpa using a5, fun O => finEq H ?_, fun O => next M ?_⟩
   ·rw [M, Z, tAfter, tLe, O]; rfl
   ·rw [Z, tAfter, tLe, O]; rfl
  ·have : i = 0 := by omega
   subst this
   exact next M rfl
theorem areTopics_c {p : OA} {c : Nat} {l : List BA} (hp : StrsL (lkW W) p l) (M : ∀ t ∈ l, t.size ≤ 9223372036854775807) (hm : l.length ≤ 9223372036854775807) :
  PW TP 140 ⟨[.slice p l.length c]⟩ W (.bool (topicsOk l)) := by
 refine areTopics_vc p l.length c (Mem.start [] W) ⟨fun h => finPW ?_, fun h => areTopics_loop hp M hm l.length 0 (by omega) (finPW ?_)⟩
 ·rw [topicsOk, decide_eq_false (by omega), Bool.false_and]
 ·rw [topicsOk, decide_eq_true (by omega), Bool.true_and]; rfl
theorem eqStrs_loop {p q : OA} {a2 a3 : Nat} {a b : List BA} (V : StrsL (lkW w0) p a) (Z : StrsL (lkW w0) q b) (a8 : a.length = b.length) (hm : a.length ≤ 9223372036854775807) :
  ∀ (g i : Nat), g + i = a.length → Fin R [] [] w0 (.bool (decide (a.drop i = b.drop i))) → eqStrs_c0 p a.length a2 q b.length a3 (i : Int) w0 R
 | 0, i, hg, H => by
  apply eqStrs_c0_vc
  refine no (by omega) (finEq H ?_)
  rw [List.drop_of_length_le (by omega), List.drop_of_length_le (by omega)]
  simp
 | g + 1, i, hg, H => by
  apply eqStrs_c0_vc
  have M : i < a.length := by omega
  have O : i < b.length := by omega
  obtain ⟨a0, o1, c1, e1, a4, a5⟩ := V.get M
  obtain ⟨B2, a9, a1, f1, a6, a7⟩ := Z.get O
  simp only [drop_eq M O] at H
  refine yes (by omega) ⟨a0, o1, e1, by omega, c1, a[i], a4, by simpa using a5, B2, a9, f1, by omega, a1, b[i], a6, by simpa using a7, fun h => finEq H (by simp [h]), fun h => ?_⟩
  rw [wi64 (by omega), show (i : Int) + 1 = ((i + 1 : Nat) : Int) by omega]
  refine eqStrs_loop V Z a8 hm g (i + 1) (by omega) (finEq H ?_)
  simp [h]
theorem eqStrs_c {p q : OA} {M O : Nat} {a b : List BA} (V : StrsL (lkW W) p a) (a0 : StrsL (lkW W) q b) (hm : a.length ≤ 9223372036854775807) :
  PW TP 106 ⟨[.slice p a.length M, .slice q b.length O]⟩ W (.bool (decide (a = b))) := by
 refine eqStrs_vc p a.length M q b.length O (Mem.start [] W) ⟨fun h => finPW ?_, fun h => eqStrs_loop V a0 (by omega) hm a.length 0 (by omega) (finPW ?_)⟩
 ·rw [decide_eq_false]
  intro Z; subst Z; exact h rfl
 ·simp
theorem Fct.ne_of {x y : Fct} (z : Fld) (h : ¬ x.get z = y.get z) : (Value.bool false) = .bool (decide (x = y)) := by
 rw [decide_eq_false]
 intro e; exact h (by rw [e])
theorem fSame_c {x y : Fct} {a4 a2 a0 b0 a8 a6 : OA} {a3 a1 Z a9 a7 a5 : Nat} (O : FAt (lkW W) x a4 a3 a2 a1 a0 Z) (V : FAt (lkW W) y b0 a9 a8 a7 a6 a5) :
  PW TP 66 ⟨[.agg ⟨x.cells a4 a3 a2 a1 a0 Z⟩, .agg ⟨y.cells b0 a9 a8 a7 a6 a5⟩]⟩ W (.bool (decide (x = y))) := by
 refine fSame_vc x a4 a3 a2 a1 a0 Z y b0 a9 a8 a7 a6 a5 (Mem.start [] W) fun B b5 => ?_
 refine ⟨fun b6 => ⟨fun b7 => ⟨fun b9 => ⟨fun c2 => ⟨fun c3 => ⟨fun c4 => ⟨fun c5 => ⟨fun c6 => ⟨fun c7 => ?_, fun h => finPW (Fct.ne_of .author h)⟩, fun h => finPW (Fct.ne_of .title h)⟩, fun h => finPW (Fct.ne_of .base h)⟩, fun h => finPW (Fct.ne_of .rev h)⟩, fun h => finPW (Fct.ne_of .lang h)⟩, fun h => finPW (Fct.ne_of .story h)⟩, fun h => finPW (Fct.ne_of .kind h)⟩, fun h => finPW (Fct.ne_of .time h)⟩, fun h => finPW (Fct.ne_of .n h)⟩
 refine CallH.pw (fun b1 M => eqStrs_c (O.tops.mono (lkW_kept M)) (V.tops.mono (lkW_kept M)) O.fits.2.1.1) ⟨_, rfl, rfl, fun g1 => ?_, fun g => finPW (Fct.ne_of .topics (of_decide_eq_false (p := x.topics = y.topics) g))⟩
 refine CallH.pw (fun b1 M => sameL_c (O.blks.mono (lkW_kept M)) (V.blks.mono (lkW_kept M)) O.fits.2.2.1) ⟨_, rfl, rfl, fun b3 => ?_, fun g => finPW (Fct.ne_of .blocks (of_decide_eq_false (p := x.blocks = y.blocks) g))⟩
 refine CallH.pw (fun b1 M => labSame_c (O.ints.mono (lkW_kept M)) (V.ints.mono (lkW_kept M)) O.fits.2.2.2) ⟨_, rfl, rfl, fun b4 => ?_, fun g => finPW (Fct.ne_of .label (of_decide_eq_false (p := x.lab = y.lab) g))⟩
 have g1 := of_decide_eq_true g1; have b3 := of_decide_eq_true b3; have b4 := of_decide_eq_true b4
 refine ⟨fun k1 => ⟨fun c8 => ⟨fun c9 => ⟨fun d0 => ⟨fun d1 => ⟨fun d2 => ⟨fun d3 => finPW ?_, fun h => finPW (Fct.ne_of .cls h)⟩, fun h => finPW (Fct.ne_of .partner h)⟩, fun h => finPW (Fct.ne_of .name h)⟩, fun h => finPW (Fct.ne_of .text h)⟩, fun h => finPW (Fct.ne_of .sentence h)⟩, fun h => finPW (Fct.ne_of .block h)⟩, fun h => finPW (Fct.ne_of .editor h)⟩
 congr 1
 rw [decide_eq_decide]
 refine ⟨fun d4 => ?_, fun h => by rw [h]⟩
 apply Fct.ext_get
 intro z
 cases z <;> assumption
abbrev zF3aa (a : Fct) (b x2 x3 : Nat) (x4 x5 c : OA) : Array Value := #[IV a.n, IV a.time, IV a.kind, IV a.story, .string a.lang, IV a.rev, IV a.base, .string a.title, .string a.author, .slice x4 a.topics.length b, .slice x5 a.blocks.length x2, IV a.lab.unt, .slice c a.lab.after.length x3, IV a.lab.appr, IV a.lab.den, IV a.editor, IV a.block, IV a.sentence, .string a.text, .string a.name, IV a.partner, IV a.cls, IV a.unt]
abbrev zF3ab (a : Fct) : Array Value := #[IV a.n, IV a.time, IV a.kind, IV a.story, sZ, IV 0, IV 0, sZ, sZ, .slice none 0 0, .slice none 0 0, IV 0, .slice none 0 0, IV 0, IV 0, IV 0, IV 0, IV 0, sZ, sZ, IV 0, IV 0, IV 0]
abbrev zF3ac (a : Fct) (b x2 x3 : Nat) (x4 x5 c : OA) : Array Value := #[IV a.n, IV a.time, IV a.kind, IV a.story, .string a.lang, IV a.rev, IV a.base, .string a.title, .string a.author, .slice x4 a.topics.length b, .slice x5 a.blocks.length x2, IV a.lab.unt, .slice c a.lab.after.length x3, IV a.lab.appr, IV a.lab.den, IV 0, IV 0, IV 0, sZ, sZ, IV 0, IV 0, IV 0]
abbrev zF3ad (a : Fct) : Array Value := #[IV a.n, IV a.time, IV a.kind, IV a.story, sZ, IV 0, IV 0, sZ, sZ, .slice none 0 0, .slice none 0 0, IV 0, .slice none 0 0, IV 0, IV 0, IV a.editor, IV 0, IV 0, sZ, sZ, IV 0, IV 0, IV 0]
abbrev zF3ae (a : Fct) (b : Nat) (x2 : OA) : Array Value := #[IV a.n, IV a.time, IV a.kind, IV a.story, sZ, IV 0, IV 0, sZ, sZ, .slice none 0 0, .slice none 0 0, IV a.lab.unt, .slice x2 a.lab.after.length b, IV a.lab.appr, IV a.lab.den, IV 0, IV 0, IV 0, sZ, sZ, IV 0, IV 0, IV 0]
abbrev zF3af (a : Fct) : Array Value := #[IV a.n, IV a.time, IV a.kind, IV a.story, .string a.lang, IV 0, IV 0, sZ, sZ, .slice none 0 0, .slice none 0 0, IV 0, .slice none 0 0, IV 0, IV 0, IV 0, IV a.block, IV a.sentence, .string a.text, sZ, IV 0, IV 0, IV 0]
abbrev zF3ag (a : Fct) : Array Value := #[IV a.n, IV a.time, IV a.kind, IV a.story, sZ, IV 0, IV 0, sZ, sZ, .slice none 0 0, .slice none 0 0, IV 0, .slice none 0 0, IV 0, IV 0, IV 0, IV 0, IV 0, .string a.text, sZ, IV 0, IV 0, IV 0]
abbrev zF3ah (a : Fct) : Array Value := #[IV a.n, IV a.time, IV a.kind, IV 0, sZ, IV 0, IV 0, sZ, sZ, .slice none 0 0, .slice none 0 0, IV 0, .slice none 0 0, IV 0, IV 0, IV 0, IV 0, IV 0, .string a.text, .string a.name, IV 0, IV 0, IV 0]
abbrev zF3ai (a : Fct) : Array Value := #[IV a.n, IV a.time, IV a.kind, IV 0, sZ, IV 0, IV 0, sZ, sZ, .slice none 0 0, .slice none 0 0, IV 0, .slice none 0 0, IV 0, IV 0, IV 0, IV 0, IV 0, sZ, sZ, IV a.partner, IV a.cls, IV a.unt]
abbrev zF3aj : Array Value := #[IV 0, IV 0, IV 0, IV 0, sZ, IV 0, IV 0, sZ, sZ, .slice none 0 0, .slice none 0 0, IV 0, .slice none 0 0, IV 0, IV 0, IV 0, IV 0, IV 0, sZ, sZ, IV 0, IV 0, IV 0]
abbrev zF3ak (a : Fct) : Array Value := #[IV a.n, IV a.time, IV a.kind, IV 0, sZ, IV 0, IV 0, sZ, sZ, .slice none 0 0, .slice none 0 0, IV 0, .slice none 0 0, IV 0, IV 0, IV 0, IV 0, IV 0, sZ, sZ, IV a.partner, IV 0, IV a.unt]
noncomputable def used_c0 (d : Fct) (j : OA) (i : Nat) (h : OA) (g : Nat) (f : OA) (e a b c : Nat) (l k : Bool) : Cut := ⟨TP, [], 65, 171, (KC Tryz.f65 62), [(1, PP a), (2, PP b), (4, PP c), (5, .bool l), (6, .bool k)], [(a, .cells (zF3aa d i g e j h f) 38), (b, .cells zF3aj 38), (c, .cells (zF3ab d) 38)]⟩
theorem used_c0_vc (a : Fct) (g : OA) (f : Nat) (e : OA) (d : Nat) (c : OA) (b h j i : Nat) (k l : Bool) (H : VP [] w0 R (.ru [3,200] <| .P 7 29 (a.kind = 1) (.r 2 <| .dD <| .nm [1,2,4,5] <| .ph 20 [0,1,2,3,4,5,6,7,8,9,10] [11,12,13,14,15,16,17,18,19] 2 <| .qu [1,100,1,100,1,100,1,100,1,100,1] <| .dn <| .st 3 <| .st 0 <| .st 3 <| .st 0 <| .st 3 <| .st 0 <| .st 3 <| .st 0 <| .st 3 <| .dn <| .tl <| .r 2 <| .dD <| .nm [1,2,4,5] <| .ph 12 [0,1,2,3,4,5,6] [7,8,9,10,11] 2 <| .qu [1,100,1,100,1,100,1] <| .dn <| .st 3 <| .st 0 <| .st 3 <| .st 0 <| .st 3 <| .dn <| .tl <| .r 2 <| .pm [0,2,1] <| .dD <| .nm [1,2,4,5] <| .ph 7 [0,1,2,3,4,5] [6] 2 <| .qu [101,2] <| .zB 57 k (.qu [100] <| .ex fun p => .qc 100 [.agg (zF3aa a f d b g e c)] [(h, .cells (zF3aa a f d b g e c) 38), (i, .cells (zF3ac a f d b g e c) 38)] (.bool p) <| .qu [1] <| .dn <| .st 3 <| .dn <| .tl <| .r 2 <| .rc 2 0 (.tuple #[.agg (zF3ac a f d b g e c), .bool p]) [(h, .cells (zF3aa a f d b g e c) 38), (i, .cells (zF3ac a f d b g e c) 38), (j, .cells (zF3ac a f d b g e c) 38)]) <| .qu [3] <| .dn <| .st 3 <| .dn <| .tl <| .r 2 <| .rc 2 0 (.tuple #[.agg (zF3ac a f d b g e c), .bool false]) [(h, .cells (zF3aa a f d b g e c) 38), (i, .cells (zF3ac a f d b g e c) 38), (j, .cells (zF3ac a f d b g e c) 38)]) <| .P 6 61 (a.kind = 2) (.ru [4,200,1,202] <| .r 2 <| .pm [0,2,1] <| .dD <| .nm [1,2,4,5] <| .ph 8 [0,1,2,3,4,5,6] [7] 2 <| .qu [101,2] <| .zB 68 k (.qu [1,100] <| .ex fun q => .qc 64 [IV a.editor, IV 1, IV 5] [(h, .cells (zF3aa a f d b g e c) 38), (i, .cells (zF3ad a) 38)] (.bool q) <| .qu [1] <| .dn <| .st 3 <| .dn <| .tl <| .r 2 <| .rc 2 0 (.tuple #[.agg (zF3ad a), .bool q]) [(h, .cells (zF3aa a f d b g e c) 38), (i, .cells (zF3ad a) 38), (j, .cells (zF3ad a) 38)]) <| .qu [4] <| .dn <| .st 3 <| .dn <| .tl <| .r 2 <| .rc 2 0 (.tuple #[.agg (zF3ad a), .bool false]) [(h, .cells (zF3aa a f d b g e c) 38), (i, .cells (zF3ad a) 38), (j, .cells (zF3ad a) 38)]) <| .P 6 73 (a.kind = 3) (.ru [4,200,1,202] <| .r 2 <| .pm [0,2,1] <| .dD <| .nm [1,2,4,5] <| .ph 8 [0,1,2,3,4,5,6] [7] 2 <| .qu [101,2] <| .zB 80 k (.qu [1,100] <| .ex fun s => .qc 101 [.agg #[IV a.lab.unt, .slice c a.lab.after.length b, IV a.lab.appr, IV a.lab.den]] [(h, .cells (zF3aa a f d b g e c) 38), (i, .cells (zF3ae a b c) 38)] (.bool s) <| .qu [1] <| .dn <| .st 3 <| .dn <| .tl <| .r 2 <| .rc 2 0 (.tuple #[.agg (zF3ae a b c), .bool s]) [(h, .cells (zF3aa a f d b g e c) 38), (i, .cells (zF3ae a b c) 38), (j, .cells (zF3ae a b c) 38)]) <| .qu [4] <| .dn <| .st 3 <| .dn <| .tl <| .r 2 <| .rc 2 0 (.tuple #[.agg (zF3ae a b c), .bool false]) [(h, .cells (zF3aa a f d b g e c) 38), (i, .cells (zF3ae a b c) 38), (j, .cells (zF3ae a b c) 38)]) <| .P 6 85 (a.kind = 4) (.r 2 <| .dD <| .nm [1,2,4,5] <| .ph 16 [0,1,2,3,4,5,6,7,8] [9,10,11,12,13,14,15] 2 <| .qu [1,100,1,100,1,100,1,100,1] <| .dn <| .st 3 <| .st 0 <| .st 3 <| .st 0 <| .st 3 <| .st 0 <| .st 3 <| .dn <| .tl <| .r 2 <| .pm [0,2,1] <| .dD <| .nm [1,2,4,5] <| .ph 7 [0,1,2,3,4,5] [6] 2 <| .qu [101,2] <| .zB 101 k (.qu [100] <| .ex fun t => .qc 102 [.agg (zF3aa a f d b g e c)] [(h, .cells (zF3aa a f d b g e c) 38), (i, .cells (zF3af a) 38)] (.bool t) <| .qu [1] <| .dn <| .st 3 <| .dn <| .tl <| .r 2 <| .rc 2 0 (.tuple #[.agg (zF3af a), .bool t]) [(h, .cells (zF3aa a f d b g e c) 38), (i, .cells (zF3af a) 38), (j, .cells (zF3af a) 38)]) <| .qu [3] <| .dn <| .st 3 <| .dn <| .tl <| .r 2 <| .rc 2 0 (.tuple #[.agg (zF3af a), .bool false]) [(h, .cells (zF3aa a f d b g e c) 38), (i, .cells (zF3af a) 38), (j, .cells (zF3af a) 38)]) <| .P 6 105 (a.kind = 5) (.ru [4,200,1,202] <| .r 2 <| .pm [0,2,1] <| .dD <| .nm [1,2,4,5] <| .ph 8 [0,1,2,3,4,5,6] [7] 2 <| .qu [101,2] <| .zB 112 k (.qu [1,100] <| .ex fun u => .qc 103 [.string a.text] [(h, .cells (zF3aa a f d b g e c) 38), (i, .cells (zF3ag a) 38)] (.bool u) <| .qu [1] <| .dn <| .st 3 <| .dn <| .tl <| .r 2 <| .rc 2 0 (.tuple #[.agg (zF3ag a), .bool u]) [(h, .cells (zF3aa a f d b g e c) 38), (i, .cells (zF3ag a) 38), (j, .cells (zF3ag a) 38)]) <| .qu [4] <| .dn <| .st 3 <| .dn <| .tl <| .r 2 <| .rc 2 0 (.tuple #[.agg (zF3ag a), .bool false]) [(h, .cells (zF3aa a f d b g e c) 38), (i, .cells (zF3ag a) 38), (j, .cells (zF3ag a) 38)]) <| .P 7 117 (a.kind = 6) (.ru [5,202,1,201] <| .r 2 <| .rc 1 0 (.tuple #[.agg (zF3ab a), .bool k]) [(h, .cells (zF3aa a f d b g e c) 38), (j, .cells (zF3ab a) 38), (i, .cells (zF3ab a) 38)]) <| .P 5 117 (a.kind = 10) (.ru [3,202,1,201] <| .r 2 <| .rc 1 0 (.tuple #[.agg (zF3ab a), .bool k]) [(h, .cells (zF3aa a f d b g e c) 38), (j, .cells (zF3ab a) 38), (i, .cells (zF3ab a) 38)]) <| .P 6 122 (a.kind = 7) (.r 2 <| .dD <| .nm [1,2,4] <| .ph 10 [0,1,2,3,4] [5,6,7,8,9] 2 <| .qu [1,100,1,100,1] <| .dn <| .st 3 <| .st 0 <| .st 3 <| .st 0 <| .st 3 <| .dn <| .tl <| .r 2 <| .pm [0,2,1] <| .dD <| .nm [1,2,4] <| .ph 10 [0,1,2,3,4,5,6,7,8] [9] 2 <| .hp [(h, .cells (zF3aa a f d b g e c) 38), (i, .cells (zF3ah a) 38)] fun m => .qu [101,1,100] <| .ex fun w => .qc 104 [.string a.name] m (.bool w) <| .qu [1] <| .zB 135 w (.qu [1,100] <| .ex fun n => .qc 105 [.string a.text] m (.bool n) <| .qu [1] <| .dn <| .st 3 <| .dn <| .tl <| .r 2 <| .rc 2 0 (.tuple #[.agg (zF3ah a), .bool n]) [(h, .cells (zF3aa a f d b g e c) 38), (i, .cells (zF3ah a) 38), (j, .cells (zF3ah a) 38)]) <| .qu [4] <| .dn <| .st 3 <| .dn <| .tl <| .r 2 <| .rc 2 0 (.tuple #[.agg (zF3ah a), .bool false]) [(h, .cells (zF3aa a f d b g e c) 38), (i, .cells (zF3ah a) 38), (j, .cells (zF3ah a) 38)]) <| .P 6 140 (a.kind = 8) (.r 2 <| .dD <| .nm [1,2,4,6] <| .ph 14 [0,1,2,3,4,5,6] [7,8,9,10,11,12,13] 2 <| .qu [1,100,1,100,1,100,1] <| .dn <| .st 3 <| .st 0 <| .st 3 <| .st 0 <| .st 3 <| .st 0 <| .st 3 <| .dn <| .tl <| .r 2 <| .pm [0,2,1] <| .dD <| .nm [1,2,4,6] <| .ph 8 [0,1,2,3,4,5,6] [7] 2 <| .qu [101,2] <| .zB 154 l (.qu [1,100] <| .ex fun o => .qc 64 [IV a.cls, IV 0, IV 3] [(h, .cells (zF3aa a f d b g e c) 38), (i, .cells (zF3ai a) 38)] (.bool o) <| .qu [1] <| .dn <| .st 3 <| .dn <| .tl <| .r 2 <| .rc 2 0 (.tuple #[.agg (zF3ai a), .bool o]) [(h, .cells (zF3aa a f d b g e c) 38), (i, .cells (zF3ai a) 38), (j, .cells (zF3ai a) 38)]) <| .qu [4] <| .dn <| .st 3 <| .dn <| .tl <| .r 2 <| .rc 2 0 (.tuple #[.agg (zF3ai a), .bool false]) [(h, .cells (zF3aa a f d b g e c) 38), (i, .cells (zF3ai a) 38), (j, .cells (zF3ai a) 38)]) <| .P 6 159 (a.kind = 9) (.r 2 <| .dD <| .nm [1,2,4,6] <| .ph 10 [0,1,2,3,4] [5,6,7,8,9] 2 <| .qu [1,100,1,100,1] <| .dn <| .st 3 <| .st 0 <| .st 3 <| .st 0 <| .st 3 <| .dn <| .tl <| .ru [3,202,1,201] <| .r 2 <| .rc 1 0 (.tuple #[.agg (zF3ak a), .bool l]) [(h, .cells (zF3aa a f d b g e c) 38), (j, .cells (zF3ak a) 38), (i, .cells (zF3ak a) 38)]) <| .ru [5,202,201] <| .r 2 <| .rc 1 0 (.tuple #[.agg (zF3ab a), .bool false]) [(h, .cells (zF3aa a f d b g e c) 38), (j, .cells (zF3ab a) 38), (i, .cells (zF3ab a) 38)])) : used_c0 a g f e d c b h j i k l w0 R := VC.go Tryz.func65 _ H
theorem used_vc (a : Fct) (h : OA) (g : Nat) (f : OA) (e : Nat) (d : OA) (c : Nat) (hm : Mem [] [] w0 W) (H : VP [] w0 R (.np 2 (.cells (zF3aa a g e c h f d) 38) fun B => .np 0 (.cells zF3aj 38) fun i => .ru [5,200,1,200,1,200,1,200] <| .np 1 (.cells zF3aj 38) fun j => .hp [(B, .cells (zF3aa a g e c h f d) 38), (i, .cells zF3aj 38), (j, .cells (zF3ab a) 38)] fun b => .ru [202,4,200] <| .cl 0 64 [IV a.story, IV 1, IV 64] b <| .ex fun k => .rt (.bool k) b <| .ru [5,200] <| .cl 0 64 [IV a.partner, IV 1, IV 8] b <| .ex fun l => .rt (.bool l) b <| .B 1 22 l (.ru [1,200] <| .cl 0 64 [IV a.unt, IV 0, IV 1000000000] b <| .ex fun m => .rt (.bool m) b <| .ct 4 [0,1,2] (used_c0 a h g f e d c B i j k m)) <| .ct 7 [0,1,2] (used_c0 a h g f e d c B i j k false))) : Calls TP 65 ⟨[.agg (zF3aa a g e c h f d)]⟩ W R := VC.cs Tryz.func65 hm _ H
theorem within_vc (a c b : Int) (hm : Mem [] [] w0 W) (H : VP [] w0 R (.P 10 10 (c ≤ a) (.re 6 (.bool (decide (a ≤ b))) []) <| .re 6 (.bool false) [])) : Calls TP 64 ⟨[IV a, IV c, IV b]⟩ W R := VC.cs Tryz.func64 hm _ H
abbrev zF4aa (a : Fct) (b x2 x3 : Nat) (x4 x5 c : OA) : Array Value := #[IV a.n, IV a.time, IV a.kind, IV a.story, .string a.lang, IV a.rev, IV a.base, .string a.title, .string a.author, .slice x4 a.topics.length b, .slice x5 a.blocks.length x2, IV a.lab.unt, .slice c a.lab.after.length x3, IV a.lab.appr, IV a.lab.den, IV a.editor, IV a.block, IV a.sentence, .string a.text, .string a.name, IV a.partner, IV a.cls, IV a.unt]
theorem fValid_vc (a : Fct) (g : OA) (f : Nat) (e : OA) (d : Nat) (c : OA) (b : Nat) (hm : Mem [] [] w0 W) (H : VP [] w0 R (.np 2 (.cells (zF4aa a f d b g e c) 38) fun B => .hp [(B, .cells (zF4aa a f d b g e c) 38)] fun h => .ru [6,200] <| .il 0 Tryz.func64 [IV a.n, IV 0, IV 500] <| .P 10 10 (0 ≤ a.n) (.rk 6 <| .I 2 9 (a.n ≤ 500) (.re 11 (.bool false) h) <| .ru [1,200] <| .il 0 Tryz.func64 [IV a.time, IV 0, IV 1000000000] <| .P 10 10 (0 ≤ a.time) (.rk 6 <| .I 3 14 (a.time ≤ 1000000000) (.re 5 (.bool false) h) <| .ru [4,200] <| .cl 0 65 [.agg (zF4aa a f d b g e c)] h <| .x5 fun (j : Fct) utp utc ubp ubc => .x3 fun l k m => .rt (.tuple #[.agg (zF4aa j utc ubc k utp ubp l), .bool m]) h <| .np 3 (.cells #[IV 0, IV 0, IV 0, IV 0, sZ, IV 0, IV 0, sZ, sZ, .slice none 0 0, .slice none 0 0, IV 0, .slice none 0 0, IV 0, IV 0, IV 0, IV 0, IV 0, sZ, sZ, IV 0, IV 0, IV 0] 38) fun p => .hp [(B, .cells (zF4aa a f d b g e c) 38), (p, .cells (zF4aa j utc ubc k utp ubp l) 38)] fun i => .ru [201] <| .B 6 21 m (.ru [200,201] <| .cl 0 66 [.agg (zF4aa a f d b g e c), .agg (zF4aa j utc ubc k utp ubp l)] i <| .ex fun o => .rt (.bool o) i <| .re 3 (.bool o) i) <| .re 6 (.bool false) i) <| .rk 6 <| .re 8 (.bool false) h) <| .rk 6 <| .re 13 (.bool false) h)) : Calls TP 24 ⟨[.agg (zF4aa a f d b g e c)]⟩ W R := VC.cs Tryz.func24 hm _ H
theorem CallH.ex {L : SHeap} {Q : Value → Prop} (h : ∀ W, Mem L S w0 W → Calls P g args W fun e M => ∃ v, e = .returned v ∧ Below W.heap.size W M ∧ Q v) (O : ∀ v, Q v → K v L) : CallH P g args L S w0 K :=
 fun W hm => (h W hm).mono fun e M ⟨v, he, hb, hq⟩ => ⟨v, L, he, hm.after hb, O v hq⟩
theorem finEx {Q : Value → Prop} {v : Value} {L : SHeap} (h : Q v) : Fin (fun e M => ∃ v, e = .returned v ∧ Below W.heap.size W M ∧ Q v) L [] W v := fun _ hm => ⟨v, rfl, hm.kept.below, h⟩
theorem within_c (n a b : Int) : PureC TP 64 ⟨[.int .i64 n, .int .i64 a, .int .i64 b]⟩ (.bool (decide (a ≤ n ∧ n ≤ b))) := fun W => by
 refine within_vc n a b (Mem.start [] W) ⟨fun h => finPure ?_, fun h => finPure ?_⟩
 ·congr 1; rw [decide_eq_decide]; exact ⟨fun M => ⟨h, M⟩, fun M => M.2⟩
 ·rw [decide_eq_false]; exact fun M => h M.1
theorem isRev_c {f : Fct} (h : FAt (lkW W) f tp tc bp bc ap ac) : PW TP 100 ⟨[.agg ⟨f.cells tp tc bp bc ap ac⟩]⟩ W (.bool f.rvOk) := by
 obtain ⟨⟨b0, b1, b3, b6, b7⟩, ⟨t1, b4⟩, b5, a9⟩ := h.fits
 refine isRev_vc f tp tc bp bc ap ac (Mem.start [] W) fun B => ?_
 refine CallH.pure (fName_c _ b0) ⟨_, rfl, rfl, fun a0 => ?_, fun a0 => finPW (by rw [Fct.rvOk, a0]; rfl)⟩
 have a7 : ¬ (1 ≤ f.rev ∧ f.rev ≤ 100) → f.rvOk = false := fun hn => by rw [Fct.rvOk, decide_eq_false hn, Bool.false_and, Bool.and_false]
 refine ⟨fun a3 => ⟨fun a4 => ?_, fun a4 => finPW (by rw [a7 (by omega)])⟩, fun a3 => finPW (by rw [a7 (by omega)])⟩
 have a8 : ¬ (0 ≤ f.base ∧ f.base ≤ f.rev - 1) → f.rvOk = false := fun hn => by rw [Fct.rvOk, decide_eq_false hn, Bool.false_and, Bool.and_false, Bool.and_false]
 rw [wi64 (by omega)]
 refine ⟨fun a5 => ⟨fun a6 => ?_, fun a6 => finPW (by rw [a8 (by omega)])⟩, fun a5 => finPW (by rw [a8 (by omega)])⟩
 have e : f.rvOk = (fillOk f.title && (nameOk f.author && (topicsOk f.topics && (listOk f.blocks && f.lab.ok)))) := by
  rw [Fct.rvOk, a0, decide_eq_true (p := 1 ≤ f.rev ∧ f.rev ≤ 100) ⟨a3, a4⟩, decide_eq_true (p := 0 ≤ f.base ∧ f.base ≤ f.rev - 1) ⟨a5, a6⟩]; rfl
 rw [e]
 refine CallH.pure (fText_c _ b1) ⟨_, rfl, rfl, fun M => ?_, fun M => finPW (by rw [M]; rfl)⟩
 refine CallH.pure (fName_c _ b3) ⟨_, rfl, rfl, fun O => ?_, fun O => finPW (by rw [M, O]; rfl)⟩
 refine CallH.pw (fun a2 V => areTopics_c (h.tops.mono (lkW_kept V)) b4 t1) ⟨_, rfl, rfl, fun Z => ?_, fun Z => finPW (by rw [M, O, Z]; rfl)⟩
 refine CallH.pw (fun a2 V => validL_c (h.blks.mono (lkW_kept V)) h.cb) ⟨_, rfl, rfl, fun a1 => ?_, fun a1 => finPW (by rw [M, O, Z, a1]; rfl)⟩
 exact CallH.pw (fun a2 V => labValid_c (h.ints.mono (lkW_kept V)) a9) ⟨_, rfl, rfl, finPW (by rw [M, O, Z, a1]; rfl)⟩
theorem isCor_c {f : Fct} (h : FAt (lkW W) f tp tc bp bc ap ac) : PW TP 102 ⟨[.agg ⟨f.cells tp tc bp bc ap ac⟩]⟩ W (.bool f.coOk) := by
 obtain ⟨⟨a3, a7, a8, a4, a9⟩, ⟨t1, b0⟩, a6, a5⟩ := h.fits
 refine isCor_vc f tp tc bp bc ap ac (Mem.start [] W) fun B => ?_
 refine CallH.pure (fName_c _ a3) ⟨_, rfl, rfl, fun M => ?_, fun M => finPW (by rw [Fct.coOk, M]; rfl)⟩
 have a1 : ¬ (1 ≤ f.block ∧ f.block ≤ 1000) → f.coOk = false := fun hn => by rw [Fct.coOk, decide_eq_false hn, Bool.false_and, Bool.and_false]
 have a2 : ¬ (0 ≤ f.sentence ∧ f.sentence ≤ 299) → f.coOk = false := fun hn => by rw [Fct.coOk, decide_eq_false hn, Bool.false_and, Bool.and_false, Bool.and_false]
 refine ⟨fun O => ⟨fun V => ⟨fun Z => ⟨fun a0 => ?_, fun a0 => finPW (by rw [a2 (by omega)])⟩, fun Z => finPW (by rw [a2 (by omega)])⟩, fun V => finPW (by rw [a1 (by omega)])⟩, fun O => finPW (by rw [a1 (by omega)])⟩
 refine CallH.pure (fText_c _ a4) ⟨_, rfl, rfl, finPW ?_⟩
 rw [Fct.coOk, M, decide_eq_true (p := 1 ≤ f.block ∧ f.block ≤ 1000) ⟨O, V⟩, decide_eq_true (p := 0 ≤ f.sentence ∧ f.sentence ≤ 299) ⟨Z, a0⟩]; rfl
def UsedQ (lk : Lk) (f : Fct) (v : Value) : Prop :=
 ∃ (u : Fct) (tp : OA) (tc : Nat) (bp : OA) (bc : Nat) (ap : OA) (ac : Nat), v = .tuple #[.agg ⟨u.cells tp tc bp bc ap ac⟩, .bool f.vals] ∧ (f.vals = true → u = f.used) ∧ FAt lk u tp tc bp bc ap ac
theorem used_eq {f : Fct} {l : List Fld} (h : kfields f.kind = l) : f.used = l.foldl (fun g x => g.set x (f.get x)) (Fct.bare f.n f.time f.kind) := by rw [Fct.used, h]
theorem strs_nil {p : OA} : StrsL lk p [] := fun h => absurd h (by simp)
theorem blks_nil {p : OA} : BlksL lk p [] := fun h => absurd h (by simp)
theorem ints_nil {p : OA} : IntsL lk p [] := fun h => absurd h (by simp)
theorem e0_sz : e0.size ≤ 9223372036854775807 := by show 0 ≤ _; omega
theorem kd {f : Fct} {n : Int} {l : List Fld} (h : f.kind = n) (e : kfields n = l) : kfields f.kind = l := by rw [h]; exact e
theorem used1 {f : Fct} (k : f.kind = 1) : ({ Fct.bare f.n f.time f.kind with story := f.story, lang := f.lang, rev := f.rev, base := f.base, title := f.title, author := f.author, topics := f.topics, blocks := f.blocks, lab := f.lab } : Fct) = f.used := by
 rw [used_eq (kd (l := [.story, .lang, .rev, .base, .title, .author, .topics, .blocks, .label]) k rfl)]
 simp only [List.foldl_cons, List.foldl_nil, Fct.set, Fct.get]
theorem vals1 {f : Fct} (k : f.kind = 1) : f.vals = (f.stOk && f.rvOk) := by
 unfold Fct.vals; simp only [k, reduceIte, Int.reduceEq]
theorem used2 {f : Fct} (k : f.kind = 2) : ({ Fct.bare f.n f.time f.kind with story := f.story, editor := f.editor } : Fct) = f.used := by
 rw [used_eq (kd (l := [.story, .editor]) k rfl)]
 simp only [List.foldl_cons, List.foldl_nil, Fct.set, Fct.get]
theorem vals2 {f : Fct} (k : f.kind = 2) : f.vals = (f.stOk && decide (1 ≤ f.editor ∧ f.editor ≤ 5)) := by
 unfold Fct.vals; simp only [k, reduceIte, Int.reduceEq]
theorem used3 {f : Fct} (k : f.kind = 3) : ({ Fct.bare f.n f.time f.kind with story := f.story, lab := f.lab } : Fct) = f.used := by
 rw [used_eq (kd (l := [.story, .label]) k rfl)]
 simp only [List.foldl_cons, List.foldl_nil, Fct.set, Fct.get]
theorem vals3 {f : Fct} (k : f.kind = 3) : f.vals = (f.stOk && f.lab.ok) := by
 unfold Fct.vals; simp only [k, reduceIte, Int.reduceEq]
theorem used4 {f : Fct} (k : f.kind = 4) : ({ Fct.bare f.n f.time f.kind with story := f.story, lang := f.lang, block := f.block, sentence := f.sentence, text := f.text } : Fct) = f.used := by
 rw [used_eq (kd (l := [.story, .lang, .block, .sentence, .text]) k rfl)]
 simp only [List.foldl_cons, List.foldl_nil, Fct.set, Fct.get]
theorem vals4 {f : Fct} (k : f.kind = 4) : f.vals = (f.stOk && f.coOk) := by
 unfold Fct.vals; simp only [k, reduceIte, Int.reduceEq]
theorem used5 {f : Fct} (k : f.kind = 5) : ({ Fct.bare f.n f.time f.kind with story := f.story, text := f.text } : Fct) = f.used := by
 rw [used_eq (kd (l := [.story, .text]) k rfl)]
 simp only [List.foldl_cons, List.foldl_nil, Fct.set, Fct.get]
theorem vals5 {f : Fct} (k : f.kind = 5) : f.vals = (f.stOk && fillOk f.text) := by
 unfold Fct.vals; simp only [k, reduceIte, Int.reduceEq]
theorem used6 {f : Fct} (k : f.kind = 6) : ({ Fct.bare f.n f.time f.kind with story := f.story } : Fct) = f.used := by
 rw [used_eq (kd (l := [.story]) k rfl)]
 simp only [List.foldl_cons, List.foldl_nil, Fct.set, Fct.get]
theorem vals6 {f : Fct} (k : f.kind = 6) : f.vals = (f.stOk) := by
 unfold Fct.vals; simp only [k, reduceIte, Int.reduceEq]
theorem used7 {f : Fct} (k : f.kind = 7) : ({ Fct.bare f.n f.time f.kind with name := f.name, text := f.text } : Fct) = f.used := by
 rw [used_eq (kd (l := [.name, .text]) k rfl)]
 simp only [List.foldl_cons, List.foldl_nil, Fct.set, Fct.get]
theorem vals7 {f : Fct} (k : f.kind = 7) : f.vals = (nameOk f.name && srcOk f.text) := by
 unfold Fct.vals; simp only [k, reduceIte, Int.reduceEq]
theorem used8 {f : Fct} (k : f.kind = 8) : ({ Fct.bare f.n f.time f.kind with partner := f.partner, cls := f.cls, unt := f.unt } : Fct) = f.used := by
 rw [used_eq (kd (l := [.partner, .cls, .unt]) k rfl)]
 simp only [List.foldl_cons, List.foldl_nil, Fct.set, Fct.get]
theorem vals8 {f : Fct} (k : f.kind = 8) : f.vals = (f.paOk && decide (0 ≤ f.cls ∧ f.cls ≤ 3)) := by
 unfold Fct.vals; simp only [k, reduceIte, Int.reduceEq]
theorem used9 {f : Fct} (k : f.kind = 9) : ({ Fct.bare f.n f.time f.kind with partner := f.partner, unt := f.unt } : Fct) = f.used := by
 rw [used_eq (kd (l := [.partner, .unt]) k rfl)]
 simp only [List.foldl_cons, List.foldl_nil, Fct.set, Fct.get]
theorem vals9 {f : Fct} (k : f.kind = 9) : f.vals = (f.paOk) := by
 unfold Fct.vals; simp only [k, reduceIte, Int.reduceEq]
theorem used10 {f : Fct} (k : f.kind = 10) : ({ Fct.bare f.n f.time f.kind with story := f.story } : Fct) = f.used := by
 rw [used_eq (kd (l := [.story]) k rfl)]
 simp only [List.foldl_cons, List.foldl_nil, Fct.set, Fct.get]
theorem vals10 {f : Fct} (k : f.kind = 10) : f.vals = (f.stOk) := by
 unfold Fct.vals; simp only [k, reduceIte, Int.reduceEq]
theorem usedQ {f u : Fct} {b : Bool} (M : f.vals = b) (O : u = f.used) (h : FAt lk u tp tc bp bc ap ac) : UsedQ lk f (.tuple #[.agg ⟨u.cells tp tc bp bc ap ac⟩, .bool b]) :=
 ⟨u, _, _, _, _, _, _, by rw [M], fun _ => O, h⟩
abbrev UR (W : World) (lk : Lk) (f : Fct) : Ending → World → Prop := fun e W' => ∃ v, e = .returned v ∧ Below W.heap.size W W' ∧ UsedQ lk f v
theorem noLists {u : Fct} (M : u.topics = []) (O : u.blocks = []) (V : u.lab.after = []) (Z : u.lang.size ≤ 9223372036854775807 ∧ u.title.size ≤ 9223372036854775807 ∧ u.author.size ≤ 9223372036854775807 ∧ u.text.size ≤ 9223372036854775807 ∧ u.name.size ≤ 9223372036854775807) : FAt lk u none 0 none 0 none 0 :=
 ⟨by rw [M]; exact strs_nil, by rw [O]; exact blks_nil, by rw [V]; exact ints_nil, by rw [M]; exact Nat.le_refl _, by rw [O]; exact Nat.le_refl _, by rw [V]; exact Nat.le_refl _, Z, by rw [M]; exact ⟨by simp, by simp⟩, by rw [O]; simp, by rw [V]; simp⟩
theorem used_loop {f : Fct} (h : FAt (lkW W) f tp tc bp bc ap ac) (g : FAt lk f tp tc bp bc ap ac) {B3 a5 a6 : Nat} {story partner : Bool} (a9 : story = f.stOk) (a8 : partner = f.paOk) :
  used_c0 f tp tc bp bc ap ac B3 a5 a6 story partner W (UR W lk f) := by
 obtain ⟨⟨a3, c3, c4, Z, a4⟩, ⟨t1, c5⟩, a7, a0⟩ := h.fits
 have z := e0_sz
 have a2 : (0 : Nat) ≤ 9223372036854775807 := by omega
 subst a9 a8
 apply used_c0_vc
 refine ⟨fun k => ?_, fun k1 => ⟨fun k => ?_, fun b1 => ⟨fun k => ?_, fun b3 => ⟨fun k => ?_, fun b4 => ⟨fun k => ?_, fun b5 => ⟨fun k => ?_, fun b6 => ⟨fun k => ?_, fun b0 => ⟨fun k => ?_, fun b7 => ⟨fun k => ?_, fun b9 => ⟨fun k => ?_, fun c2 => ?_⟩⟩⟩⟩⟩⟩⟩⟩⟩⟩
 ·have ev := vals1 k
  have q := fun (b : Bool) (O : f.vals = b) => usedQ (lk := lk) O (used1 k) ⟨g.tops, g.blks, g.ints, g.ct, g.cb, g.ca, ⟨a3, c3, c4, z, z⟩, ⟨t1, c5⟩, a7, a0⟩
  exact ⟨fun M => ⟨_, QCallB.pw fun a1 V => isRev_c (h.mono (lkW_kept V)), finEx (q _ (by rw [ev, M]; rfl))⟩, fun M => finEx (q _ (by rw [ev, M]; rfl))⟩
 ·have ev := vals2 k
  have q := fun (b : Bool) (O : f.vals = b) => usedQ (lk := lk) O (used2 k) (noLists rfl rfl rfl ⟨z, z, z, z, z⟩)
  exact ⟨fun M => ⟨_, QCallB.of (within_c _ _ _), finEx (q _ (by rw [ev, M]; rfl))⟩, fun M => finEx (q _ (by rw [ev, M]; rfl))⟩
 ·have ev := vals3 k
  have q := fun (b : Bool) (O : f.vals = b) => usedQ (lk := lk) (tp := none) (tc := 0) (bp := none) (bc := 0) (ap := ap) (ac := ac) O (used3 k) ⟨strs_nil, blks_nil, g.ints, Nat.le_refl _, Nat.le_refl _, g.ca, ⟨z, z, z, z, z⟩, ⟨a2, by simp [Fct.bare, Fct.zero]⟩, a2, a0⟩
  exact ⟨fun M => ⟨_, QCallB.pw fun a1 V => labValid_c (h.ints.mono (lkW_kept V)) a0, finEx (q _ (by rw [ev, M]; rfl))⟩, fun M => finEx (q _ (by rw [ev, M]; rfl))⟩
 ·have ev := vals4 k
  have q := fun (b : Bool) (O : f.vals = b) => usedQ (lk := lk) O (used4 k) (noLists rfl rfl rfl ⟨a3, z, z, Z, z⟩)
  exact ⟨fun M => ⟨_, QCallB.pw fun a1 V => isCor_c (h.mono (lkW_kept V)), finEx (q _ (by rw [ev, M]; rfl))⟩, fun M => finEx (q _ (by rw [ev, M]; rfl))⟩
 ·have ev := vals5 k
  have q := fun (b : Bool) (O : f.vals = b) => usedQ (lk := lk) O (used5 k) (noLists rfl rfl rfl ⟨z, z, z, Z, z⟩)
  exact ⟨fun M => ⟨_, QCallB.of (fText_c _ Z), finEx (q _ (by rw [ev, M]; rfl))⟩, fun M => finEx (q _ (by rw [ev, M]; rfl))⟩
 ·have ev := vals6 k
  have q := fun (b : Bool) (O : f.vals = b) => usedQ (lk := lk) O (used6 k) (noLists rfl rfl rfl ⟨z, z, z, z, z⟩)
  exact finEx (q _ ev)
 ·have ev := vals10 k
  have q := fun (b : Bool) (O : f.vals = b) => usedQ (lk := lk) O (used10 k) (noLists rfl rfl rfl ⟨z, z, z, z, z⟩)
  exact finEx (q _ ev)
 ·have ev := vals7 k
  have q := fun (b : Bool) (O : f.vals = b) => usedQ (lk := lk) O (used7 k) (noLists rfl rfl rfl ⟨z, z, z, Z, a4⟩)
  exact ⟨_, QCallB.of (fName_c _ a4), fun M => ⟨_, QCallB.of (fSource_c _ Z), finEx (q _ (by rw [ev, M]; rfl))⟩, fun M => finEx (q _ (by rw [ev, M]; rfl))⟩
 ·have ev := vals8 k
  have q := fun (b : Bool) (O : f.vals = b) => usedQ (lk := lk) O (used8 k) (noLists rfl rfl rfl ⟨z, z, z, z, z⟩)
  exact ⟨fun M => ⟨_, QCallB.of (within_c _ _ _), finEx (q _ (by rw [ev, M]; rfl))⟩, fun M => finEx (q _ (by rw [ev, M]; rfl))⟩
 ·have ev := vals9 k
  have q := fun (b : Bool) (O : f.vals = b) => usedQ (lk := lk) O (used9 k) (noLists rfl rfl rfl ⟨z, z, z, z, z⟩)
  exact finEx (q _ ev)
 ·have ev : f.vals = false := by unfold Fct.vals; simp only [k1, b1, b3, b4, b5, b6, b7, b9, c2, b0, if_false]
  exact finEx ⟨({ Fct.bare f.n f.time f.kind with story := f.story } : Fct), none, 0, none, 0, none, 0, by rw [ev]; rfl, fun h => absurd h (by rw [ev]; decide), noLists rfl rfl rfl ⟨z, z, z, z, z⟩⟩
theorem used_c {f : Fct} (h : FAt (lkW W) f tp tc bp bc ap ac) (g : FAt lk f tp tc bp bc ap ac) :
  Calls TP 65 ⟨[.agg ⟨f.cells tp tc bp bc ap ac⟩]⟩ W (UR W lk f) := by
 refine used_vc f tp tc bp bc ap ac (Mem.start [] W) fun B O B2 => ?_
 refine CallH.pure (within_c _ _ _) ⟨_, rfl, rfl, ?_⟩
 refine CallH.pure (within_c _ _ _) ⟨_, rfl, rfl, fun M => ?_, fun M => ?_⟩
 ·refine CallH.pure (within_c _ _ _) ⟨_, rfl, rfl, used_loop h g rfl ?_⟩
  have M := of_decide_eq_true M
  rw [Fct.paOk, decide_eq_decide]
  constructor
  ·intro h; omega
  ·intro h; omega
 ·refine used_loop h g rfl ?_
  have M := of_decide_eq_false M
  rw [Fct.paOk, decide_eq_false]
  omega
theorem fValid_c {f : Fct} (h : FAt (lkW W) f tp tc bp bc ap ac) : PW TP 24 ⟨[.agg ⟨f.cells tp tc bp bc ap ac⟩]⟩ W (.bool f.ok) := by
 have V : ¬ (0 ≤ f.n ∧ f.n ≤ 500 ∧ 0 ≤ f.time ∧ f.time ≤ 1000000000) → (Value.bool false) = .bool f.ok := fun hn => by rw [Fct.ok, decide_eq_false hn, Bool.false_and]
 refine fValid_vc f tp tc bp bc ap ac (Mem.start [] W) fun B => ⟨fun Z => ⟨fun a0 => finPW (V (by omega)), fun a0 => ⟨fun a1 => ⟨fun a2 => finPW (V (by omega)), fun a2 => ?_⟩, fun a1 => finPW (V (by omega))⟩⟩, fun Z => finPW (V (by omega))⟩
 have e : f.ok = (f.vals && decide (f = f.used)) := by rw [Fct.ok, decide_eq_true (p := 0 ≤ f.n ∧ f.n ≤ 500 ∧ 0 ≤ f.time ∧ f.time ≤ 1000000000) ⟨Z, a0, a1, a2⟩, Bool.true_and]
 rw [e]
 refine CallH.ex (Q := UsedQ (lkW W) f) (fun a3 M => used_c (h.mono (lkW_kept M)) h) ?_
 rintro v ⟨u, b1, b0, a7, a6, a5, a4, rfl, a8, a9⟩
 refine ⟨u, b1, b0, a7, a6, a5, a4, _, rfl, rfl, fun b3 => ⟨fun O => ?_, fun O => finPW (by rw [O]; rfl)⟩⟩
 refine CallH.pw (fun a3 M => fSame_c (h.mono (lkW_kept M)) (a9.mono (lkW_kept M))) ⟨_, rfl, rfl, finPW ?_⟩
 rw [O, a8 O, Bool.true_and]
def FctsL (lk : Lk) (p : OA) (l : List Fct) : Prop :=
 0 < l.length → ∃ (b o : Nat) (c : List Value), p = some ⟨b, o, none⟩ ∧ lk b c ∧ ∀ i (h : i < l.length), o + i * 23 + 23 ≤ c.length ∧ FctL lk ((c.drop (o + i * 23)).take 23) l[i]
theorem FctL.mono {lk M : Lk} {cs : List Value} {f : Fct} (h : FctL lk cs f) (Z : ∀ b c, lk b c → M b c) : FctL M cs f := by
 obtain ⟨tp, tc, bp, bc, ap, ac, O, V⟩ := h
 exact ⟨tp, tc, bp, bc, ap, ac, O, V.mono Z⟩
theorem FctsL.mono {lk V : Lk} {p : OA} {l : List Fct} (h : FctsL lk p l) (O : ∀ b c, lk b c → V b c) : FctsL V p l := by
 intro hp
 obtain ⟨b, o, c, Z, a0, M⟩ := h hp
 exact ⟨b, o, c, Z, O b c a0, fun i hi => ⟨(M i hi).1, (M i hi).2.mono O⟩⟩
theorem FctsL.get {p : OA} {l : List Fct} (h : FctsL lk p l) {i : Nat} (hi : i < l.length) :
  ∃ (b o : Nat) (c : List Value), p = some ⟨b, o, none⟩ ∧ lk b c ∧ o + i * 23 + 23 ≤ c.length ∧ FctL lk ((c.drop (o + i * 23)).take 23) l[i] := by
 obtain ⟨b, o, c, O, V, M⟩ := h (by omega)
 exact ⟨b, o, c, O, V, (M i hi).1, (M i hi).2⟩
abbrev zB9aa : Array Value := #[IV 0, IV 0, sZ, IV 0, IV 0, IV 0, .slice none 0 0, IV 0, IV 0]
abbrev yB9aa (a : BA) (b x2 : Int) (x3 : Nat) : SHeap := [(x3, .cells #[.string a, IV b, IV x2] 235)]
abbrev yB9ab (a : BA) (b x2 : Int) (x3 : Nat) (x4 : SHeap) : SHeap := (x3, .cells #[.string a, IV b, IV x2] 235) :: x4
theorem readI_vc (a : Nat) (b : BA) (c re : Int) (hm : Mem (yB9aa b c re a) S w0 W) (H : VP S w0 R (.hp (yB9aa b c re a) fun d => .ru [14,200] <| .I 2 13 (re = 0) (.re 6 (IV 0) d) <| .r 3 <| .dr 17 <| .qu [4,100,3,100] <| .x3 fun e f g => .qc 83 [.string b, IV c] d (.tuple #[IV e, IV f, IV g]) <| .qu [7] <| .dn <| .I 7 30 (g = 0) (.ru [6,200] <| .re 6 (IV 0) [(a, .cells #[.string b, IV c, IV 10] 235)]) <| .ru [8,200] <| .re 6 (IV e) (yB9aa b f re a))) : Calls TP 198 ⟨[PP a, .func (.func 83) #[] #[]]⟩ W R := VC.cs Tryz.func198 hm _ H
theorem readS_vc (a : Nat) (b : BA) (c re : Int) (hm : Mem (yB9aa b c re a) S w0 W) (H : VP S w0 R (.hp (yB9aa b c re a) fun d => .ru [14,200] <| .I 2 13 (re = 0) (.re 6 (sZ) d) <| .r 3 <| .dr 17 <| .qu [4,100,3,100] <| .x3 fun e f g => .qc 122 [.string b, IV c] d (.tuple #[.string e, IV f, IV g]) <| .qu [7] <| .dn <| .I 7 30 (g = 0) (.ru [6,200] <| .re 6 (sZ) [(a, .cells #[.string b, IV c, IV 10] 235)]) <| .ru [8,200] <| .re 6 (.string e) (yB9aa b f re a))) : Calls TP 200 ⟨[PP a, .func (.func 122) #[] #[]]⟩ W R := VC.cs Tryz.func200 hm _ H
theorem readInt_vc (a : Nat) (b : BA) (d re : Int) (hm : Mem (yB9aa b d re a) S w0 W) (H : VP S w0 R (.cl 7 198 [PP a, .func (.func 83) #[] #[]] (yB9aa b d re a) <| .x3 fun c e f => .rt (IV c) (yB9aa b e f a) <| .re 2 (IV c) (yB9aa b e f a))) : Calls TP 199 ⟨[PP a]⟩ W R := VC.cs Tryz.func199 hm _ H
noncomputable def readLI_c0 (B : Nat) (a b : Int) (c : BA) (d e : Int) (S : List Nat) : Cut := ⟨TP, S, 201, 48, (KC Tryz.f201 500), [(0, PP B), (2, .func (.func 199) #[] #[]), (7, IV a), (8, .slice none 0 0), (9, IV b)], (yB9aa c d e B)⟩
noncomputable def readLI_c1 (a b : Nat) (c : Int) (f e : Nat) (d : Int) (g : BA) (h i : Int) (cs : List Value) (S : List Nat) : Cut := ⟨TP, S, 201, 48, (KC Tryz.f201 500), [(0, PP a), (2, .func (.func 199) #[] #[]), (7, IV c), (8, .slice (SO b) f e), (9, IV d)], [(a, .cells #[.string g, IV h, IV i] 235), (b, .cells ⟨cs⟩ 3)]⟩
theorem readLI_c0_vc (B : Nat) (c e : Int) (a : BA) (g f : Int) (H : VP S w0 R (.hp (yB9aa a g f B) fun d => .P 7 32 (e < c) (.ru [3,200] <| .P 3 38 (f = 0) (.cl 8 199 [PP B] d <| .x3 fun b h i => .rt (IV b) (yB9aa a h i B) <| .ns false 1 (.cells #[IV b] 3) fun j => .aN false 1 j 0 1 1 34 3 1 8 [IV b] fun (k l : Nat) (n : List Value) => .li 7 9 (IntKind.i64.wrap (e + 1)) fun m => .ct 2 [0,2] (readLI_c1 B k c 1 l m a h i (([IV b] : List Value) ++ n) S)) <| .re 7 (.slice none 0 0) d) <| .re 14 (.slice none 0 0) d)) : readLI_c0 B c e a g f S w0 R := VC.go Tryz.func201 _ H
theorem readLI_c1_vc (c a : Nat) (g : Int) (b d : Nat) (i : Int) (e : BA) (k j : Int) (cs : List Value) (H : VP S w0 R (.hp [(c, .cells #[.string e, IV k, IV j] 235), (a, .cells ⟨cs⟩ 3)] fun h => .P 7 32 (i < g) (.ru [3,200] <| .P 3 38 (j = 0) (.cl 8 199 [PP c] h <| .x3 fun f l m => .rt (IV f) [(c, .cells #[.string e, IV l, IV m] 235), (a, .cells ⟨cs⟩ 3)] <| .ns false 1 (.cells #[IV f] 3) fun n => .aO false 1 a b d cs 2 n 0 1 1 34 3 1 8 [IV f] fun (o p : Nat) (s : List Value) => .li 7 9 (IntKind.i64.wrap (i + 1)) fun q => .ct 2 [0,2] (readLI_c1 c o g (b + 1) p q e l m ((cs).take (b * 1) ++ ([IV f] : List Value) ++ s) S)) <| .re 7 (.slice (SO a) b d) h) <| .re 14 (.slice (SO a) b d) h)) : readLI_c1 c a g b d i e k j cs S w0 R := VC.go Tryz.func201 _ H
theorem readLI_vc (a : Nat) (f : Int) (c : BA) (g re : Int) (hm : Mem (yB9aa c g re a) S w0 W) (H : VP S w0 R (.cl 7 198 [PP a, .func (.func 83) #[] #[]] (yB9aa c g re a) <| .x3 fun b d e => .rt (IV b) (yB9aa c d e a) <| .ru [8,200] <| .P 2 17 (e = 0) (.P 3 20 (b < 0) (.ru [11,200] <| .ct 12 [0] (readLI_c0 a b 0 c d 30 S)) <| .P 6 25 (f < b) (.ru [5,200] <| .ct 12 [0] (readLI_c0 a b 0 c d 30 S)) <| .ct 13 [0] (readLI_c0 a b 0 c d e S)) <| .ct 22 [0] (readLI_c0 a b 0 c d e S))) : Calls TP 201 ⟨[PP a, IV f, .func (.func 199) #[] #[]]⟩ W R := VC.cs Tryz.func201 hm _ H
theorem readB_vc (a : Nat) (c : BA) (p re : Int) (hm : Mem (yB9aa c p re a) S w0 W) (H : VP S w0 R (.np 2 (.cells zB9aa 149) fun B => .np 3 (.cells zB9aa 149) fun d => .cl 4 199 [PP a] [(a, .cells #[.string c, IV p, IV re] 235), (B, .cells zB9aa 149), (d, .cells zB9aa 149)] <| .x3 fun b q C => .rt (IV b) [(a, .cells #[.string c, IV q, IV C] 235), (B, .cells zB9aa 149), (d, .cells zB9aa 149)] <| .ru [1,202] <| .cl 4 199 [PP a] [(a, .cells #[.string c, IV q, IV C] 235), (B, .cells zB9aa 149), (d, .cells #[IV b, IV 0, sZ, IV 0, IV 0, IV 0, .slice none 0 0, IV 0, IV 0] 149)] <| .x3 fun e s D => .rt (IV e) [(a, .cells #[.string c, IV s, IV D] 235), (B, .cells zB9aa 149), (d, .cells #[IV b, IV 0, sZ, IV 0, IV 0, IV 0, .slice none 0 0, IV 0, IV 0] 149)] <| .ru [1,202] <| .cl 4 200 [PP a, .func (.func 122) #[] #[]] [(a, .cells #[.string c, IV s, IV D] 235), (B, .cells zB9aa 149), (d, .cells #[IV b, IV e, sZ, IV 0, IV 0, IV 0, .slice none 0 0, IV 0, IV 0] 149)] <| .x3 fun f t E => .rt (.string f) [(a, .cells #[.string c, IV t, IV E] 235), (B, .cells zB9aa 149), (d, .cells #[IV b, IV e, sZ, IV 0, IV 0, IV 0, .slice none 0 0, IV 0, IV 0] 149)] <| .ru [1,202] <| .cl 4 199 [PP a] [(a, .cells #[.string c, IV t, IV E] 235), (B, .cells zB9aa 149), (d, .cells #[IV b, IV e, .string f, IV 0, IV 0, IV 0, .slice none 0 0, IV 0, IV 0] 149)] <| .x3 fun g u F => .rt (IV g) [(a, .cells #[.string c, IV u, IV F] 235), (B, .cells zB9aa 149), (d, .cells #[IV b, IV e, .string f, IV 0, IV 0, IV 0, .slice none 0 0, IV 0, IV 0] 149)] <| .ru [1,202] <| .cl 4 199 [PP a] [(a, .cells #[.string c, IV u, IV F] 235), (B, .cells zB9aa 149), (d, .cells #[IV b, IV e, .string f, IV g, IV 0, IV 0, .slice none 0 0, IV 0, IV 0] 149)] <| .x3 fun h w G => .rt (IV h) [(a, .cells #[.string c, IV w, IV G] 235), (B, .cells zB9aa 149), (d, .cells #[IV b, IV e, .string f, IV g, IV 0, IV 0, .slice none 0 0, IV 0, IV 0] 149)] <| .ru [1,202] <| .cl 4 199 [PP a] [(a, .cells #[.string c, IV w, IV G] 235), (B, .cells zB9aa 149), (d, .cells #[IV b, IV e, .string f, IV g, IV h, IV 0, .slice none 0 0, IV 0, IV 0] 149)] <| .x3 fun i x M => .rt (IV i) [(a, .cells #[.string c, IV x, IV M] 235), (B, .cells zB9aa 149), (d, .cells #[IV b, IV e, .string f, IV g, IV h, IV 0, .slice none 0 0, IV 0, IV 0] 149)] <| .ru [2,202] <| .cl 4 201 [PP a, IV 64, .func (.func 199) #[] #[]] [(a, .cells #[.string c, IV x, IV M] 235), (B, .cells zB9aa 149), (d, .cells #[IV b, IV e, .string f, IV g, IV h, IV i, .slice none 0 0, IV 0, IV 0] 149)] <| .x5 fun l k j y N => .ex fun m => .rt (.slice l k j) ((a, .cells #[.string c, IV y, IV N] 235) :: (B, .cells zB9aa 149) :: (d, .cells #[IV b, IV e, .string f, IV g, IV h, IV i, .slice none 0 0, IV 0, IV 0] 149) :: m) <| .ru [2,202] <| .cl 4 199 [PP a] ((a, .cells #[.string c, IV y, IV N] 235) :: (B, .cells zB9aa 149) :: (d, .cells #[IV b, IV e, .string f, IV g, IV h, IV i, .slice l k j, IV 0, IV 0] 149) :: m) <| .x3 fun n z O => .rt (IV n) ((a, .cells #[.string c, IV z, IV O] 235) :: (B, .cells zB9aa 149) :: (d, .cells #[IV b, IV e, .string f, IV g, IV h, IV i, .slice l k j, IV 0, IV 0] 149) :: m) <| .ru [2,202] <| .cl 4 199 [PP a] ((a, .cells #[.string c, IV z, IV O] 235) :: (B, .cells zB9aa 149) :: (d, .cells #[IV b, IV e, .string f, IV g, IV h, IV i, .slice l k j, IV n, IV 0] 149) :: m) <| .x3 fun o A Q => .rt (IV o) ((a, .cells #[.string c, IV A, IV Q] 235) :: (B, .cells zB9aa 149) :: (d, .cells #[IV b, IV e, .string f, IV g, IV h, IV i, .slice l k j, IV n, IV 0] 149) :: m) <| .ru [2,202,3,202,201] <| .r 1 <| .rc 1 0 (.agg #[IV b, IV e, .string f, IV g, IV h, IV i, .slice l k j, IV n, IV o]) ((a, .cells #[.string c, IV A, IV Q] 235) :: (B, .cells #[IV b, IV e, .string f, IV g, IV h, IV i, .slice l k j, IV n, IV o] 149) :: (d, .cells #[IV b, IV e, .string f, IV g, IV h, IV i, .slice l k j, IV n, IV o] 149) :: m))) : Calls TP 184 ⟨[PP a]⟩ W R := VC.cs Tryz.func184 hm _ H
noncomputable def readLB_c0 (B : Nat) (b c : Int) (d : BA) (e f : Int) (a : SHeap) (S : List Nat) : Cut := ⟨TP, S, 183, 48, (KC Tryz.f183 500), [(0, PP B), (2, .func (.func 184) #[] #[]), (7, IV b), (8, .slice none 0 0), (9, IV c)], (yB9ab d e f B a)⟩
noncomputable def readLB_c1 (a b : Nat) (d : Int) (g f : Nat) (e : Int) (h : BA) (i j : Int) (cs : List Value) (c : SHeap) (S : List Nat) : Cut := ⟨TP, S, 183, 48, (KC Tryz.f183 500), [(0, PP a), (2, .func (.func 184) #[] #[]), (7, IV d), (8, .slice (SO b) g f), (9, IV e)], ((a, .cells #[.string h, IV i, IV j] 235) :: (b, .cells ⟨cs⟩ 149) :: c)⟩
theorem readLB_c0_vc (B : Nat) (m o : Int) (a : BA) (t p : Int) (q : SHeap) (H : VP S w0 R (.hp (yB9ab a t p B q) fun n => .P 7 32 (o < m) (.ru [3,200] <| .P 3 38 (p = 0) (.cl 8 184 [PP B] n <| .x5 fun b c d e f => .x5 fun g j i h k => .x4 fun l u w s => .rt (.agg #[IV b, IV c, .string d, IV e, IV f, IV g, .slice j i h, IV k, IV l]) (yB9ab a u w B s) <| .ns true 1 (.cells #[IV b, IV c, .string d, IV e, IV f, IV g, .slice j i h, IV k, IV l] 149) fun x => .aN true 0 x 0 1 1 33 149 9 96 [IV b, IV c, .string d, IV e, IV f, IV g, .slice j i h, IV k, IV l] fun (y z : Nat) (C : List Value) => .li 7 9 (IntKind.i64.wrap (o + 1)) fun A => .cT 2 [2,0] 3 (readLB_c1 B y m 1 z A a u w (([IV b, IV c, .string d, IV e, IV f, IV g, .slice j i h, IV k, IV l] : List Value) ++ C) s S)) <| .re 7 (.slice none 0 0) n) <| .re 14 (.slice none 0 0) n)) : readLB_c0 B m o a t p q S w0 R := VC.go Tryz.func183 _ H
theorem readLB_c1_vc (c a : Nat) (q : Int) (b d : Nat) (t : Int) (e : BA) (y u : Int) (cs : List Value) (w : SHeap) (H : VP S w0 R (.hp ((c, .cells #[.string e, IV y, IV u] 235) :: (a, .cells ⟨cs⟩ 149) :: w) fun s => .P 7 32 (t < q) (.ru [3,200] <| .P 3 38 (u = 0) (.cl 8 184 [PP c] s <| .x5 fun f g h i j => .x5 fun k n m l o => .x4 fun p z A x => .rt (.agg #[IV f, IV g, .string h, IV i, IV j, IV k, .slice n m l, IV o, IV p]) ((c, .cells #[.string e, IV z, IV A] 235) :: (a, .cells ⟨cs⟩ 149) :: x) <| .ns true 1 (.cells #[IV f, IV g, .string h, IV i, IV j, IV k, .slice n m l, IV o, IV p] 149) fun C => .aO true 2 a b d cs 0 C 0 1 1 33 149 9 96 [IV f, IV g, .string h, IV i, IV j, IV k, .slice n m l, IV o, IV p] fun (D E : Nat) (G : List Value) => .li 7 9 (IntKind.i64.wrap (t + 1)) fun F => .cT 2 [2,0] 3 (readLB_c1 c D q (b + 1) E F e z A ((cs).take (b * 9) ++ ([IV f, IV g, .string h, IV i, IV j, IV k, .slice n m l, IV o, IV p] : List Value) ++ G) x S)) <| .re 7 (.slice (SO a) b d) s) <| .re 14 (.slice (SO a) b d) s)) : readLB_c1 c a q b d t e y u cs w S w0 R := VC.go Tryz.func183 _ H
theorem readLB_vc (a : Nat) (g : Int) (d : BA) (h re : Int) (b : SHeap) (hm : Mem (yB9ab d h re a b) S w0 W) (H : VP S w0 R (.cl 7 198 [PP a, .func (.func 83) #[] #[]] (yB9ab d h re a b) <| .x3 fun c e f => .rt (IV c) (yB9ab d e f a b) <| .ru [8,200] <| .P 2 17 (f = 0) (.P 3 20 (c < 0) (.ru [11,200] <| .cT 12 [0] 1 (readLB_c0 a c 0 d e 30 b S)) <| .P 6 25 (g < c) (.ru [5,200] <| .cT 12 [0] 1 (readLB_c0 a c 0 d e 30 b S)) <| .cT 13 [0] 1 (readLB_c0 a c 0 d e f b S)) <| .cT 22 [0] 1 (readLB_c0 a c 0 d e f b S))) : Calls TP 183 ⟨[PP a, IV g, .func (.func 184) #[] #[]]⟩ W R := VC.cs Tryz.func183 hm _ H
theorem decode_vc (b : BA) (hm : Mem [] [] w0 W) (H : VP [] w0 R (.np 9 (.cells #[.string b, IV 0, IV 0] 235) fun B => .cl 5 183 [PP B, IV 24, .func (.func 184) #[] #[]] [(B, .cells #[.string b, IV 0, IV 0] 235)] <| .x5 fun e d c f re => .ex fun g => .rt (.slice e d c) (yB9ab b f re B g) <| .hp (yB9ab b f re B g) fun a => .ru [9,200] <| .I 3 11 (re = 0) (.r 2 <| .dr 6 <| .qu [3,100,2] <| .dn <| .re 1 (.tuple #[.slice none 0 0, IV re]) a) <| .ru [6,200] <| .P 5 21 (f < (b.size : Int)) (.re 6 (.tuple #[.slice none 0 0, IV 10]) a) <| .cl 4 141 [.slice e d c] a <| .ex fun h => .rt (.bool h) a <| .B 0 31 h (.re 12 (.tuple #[.slice e d c, IV 0]) a) <| .re 9 (.tuple #[.slice none 0 0, IV 30]) a)) : Calls TP 170 ⟨[.string b]⟩ W R := VC.cs Tryz.func170 hm _ H
abbrev rH (T Rb : Nat) (tx : BA) (st : RS) : Nat × Obj := (Rb, .cells #[.string tx, .int .i64 (st.1 : Int), .int .i64 st.2] T)
def lkF (F : SHeap) : Lk := fun b c => ∃ t fz, (b, Obj.cells ⟨c⟩ t fz) ∈ F
theorem lkF_mono {F F' : SHeap} (h : ∀ x ∈ F, x ∈ F') : ∀ b c, lkF F b c → lkF F' b c := fun _ _ ⟨t, fz, h1⟩ => ⟨t, fz, h _ h1⟩
theorem lkF_W {F L : SHeap} (hm : Mem L S w0 W) (h : ∀ x ∈ F, x ∈ L) : ∀ b c, lkF F b c → lkW W b c := by
 rintro b c ⟨t, fz, M⟩
 have := hm.here _ (h _ M)
 simp only at this
 simp [lkW, blkW, this]
theorem CallH.one {x y : Nat × Obj} {rest : SHeap} {v : Value} {K' : Value → SHeap → Prop} (h : EffC P g args [x] (fun M L' => M = v ∧ L' = [y])) (O : K' v (y :: rest)) :
  CallH P g args (x :: rest) S w0 K' :=
 CallH.eff (L0 := [x]) (L1 := rest) h (List.Perm.refl _) fun M L' ⟨hv, hl⟩ => ⟨y :: rest, by rw [hl]; exact List.Perm.refl _, by rw [hv]; exact O⟩
theorem CallH.oneF {x : Nat × Obj} {rest : SHeap} {K' : Value → SHeap → Prop} (h : EffC P g args [x] K) (O : ∀ v L', K v L' → ∃ y F, L' = y :: F ∧ K' v (y :: (rest ++ F))) :
  CallH P g args (x :: rest) S w0 K' :=
 CallH.eff (L0 := [x]) (L1 := rest) h (List.Perm.refl _) fun Z L' V => by
  obtain ⟨y, F, rfl, M⟩ := O Z L' V
  exact ⟨_, List.Perm.cons y List.perm_append_comm, M⟩
theorem dkSelT (A : SHeap) (O : List Nat) {T : SHeap} {L' : SHeap} {v : Value} (M : (selL A O, nodupB O) = (L', true)) (h : K v (L' ++ T)) :
  Fin (fun e V => ∃ v L', e = .returned v ∧ Mem L' S W V ∧ K v L') (A ++ T) S W v := by
 simp only [Prod.mk.injEq] at M
 obtain ⟨rfl, Z⟩ := M
 exact fun _ hm => ⟨v, _, rfl, hm.selT (nodupB_spec Z), h⟩
theorem row_old {cs x r : List Value} {n sz i : Nat} (hi : i < n) (hn : n * sz ≤ cs.length) : ((cs.take (n * sz) ++ x ++ r).drop (i * sz)).take sz = (cs.drop (i * sz)).take sz := by
 have M : i * sz + sz ≤ n * sz := by rw [← Nat.succ_mul]; exact Nat.mul_le_mul_right _ hi
 rw [List.append_assoc, List.drop_append_of_le_length (by rw [List.length_take]; omega), List.take_append_of_le_length (by rw [List.length_drop, List.length_take]; omega), List.drop_take, List.take_take]
 congr 1
 omega
theorem row_new {cs x r : List Value} {n sz : Nat} (hn : n * sz ≤ cs.length) (O : x.length = sz) : ((cs.take (n * sz) ++ x ++ r).drop (n * sz)).take sz = x := by
 have M : (cs.take (n * sz)).length = n * sz := by rw [List.length_take]; omega
 rw [List.append_assoc, List.drop_left' M, List.take_left' O]
theorem at_old {cs x r : List Value} {n i : Nat} (hi : i < n) (hn : n ≤ cs.length) : (cs.take n ++ x ++ r)[i]? = cs[i]? := by
 rw [List.append_assoc, List.getElem?_append_left (by rw [List.length_take]; omega), List.getElem?_take_of_lt hi]
theorem at_new {cs r : List Value} {v : Value} {n : Nat} (hn : n ≤ cs.length) : (cs.take n ++ [v] ++ r)[n]? = some v := by
 have M : (cs.take n).length = n := by rw [List.length_take]; omega
 rw [List.append_assoc, List.getElem?_append_right (by omega), M, Nat.sub_self]; rfl
theorem int_ans {s : BA} {st : RS} (h : st.1 ≤ (bts s).length) (M : st.2 = 0) : intAns s (st.1 : Int) = match rdInt ((bts s).drop st.1) with
  | none => .tuple #[.int .i64 0, .int .i64 0, .int .i64 10]
  | some (n, k) => .tuple #[.int .i64 n, .int .i64 ((st.1 + k : Nat) : Int), .int .i64 0] := by
 rw [bts_len] at h
 rw [intAns, if_neg (by omega), Int.toNat_natCast]
 cases rdInt ((bts s).drop st.1) with
 | none => rfl
 | some p => rfl
theorem str_ans {s : BA} {st : RS} (h : st.1 ≤ (bts s).length) (M : st.2 = 0) : strAns s (st.1 : Int) = match rdStr ((bts s).drop st.1) with
  | none => .tuple #[.string ⟨#[]⟩, .int .i64 0, .int .i64 10]
  | some (t, k) => .tuple #[.string ⟨t.toArray⟩, .int .i64 ((st.1 + k : Nat) : Int), .int .i64 0] := by
 rw [bts_len] at h
 rw [strAns, if_neg (by omega), Int.toNat_natCast]
 cases rdStr ((bts s).drop st.1) with
 | none => rfl
 | some p => rfl
theorem readI_e {Rb : Nat} {M : BA} {st : RS} (a0 : M.size < 4611686018427387904) (h : st.1 ≤ (bts M).length) :
  EffC TP 198 ⟨[.pointer (SO Rb), .func (.func 83) #[] #[]]⟩ [rH 235 Rb M st] (fun v L' => v = .int .i64 (rdI (bts M) st).1 ∧ L' = [rH 235 Rb M (rdI (bts M) st).2]) := by
 intro W hm
 refine readI_vc Rb M st.1 st.2 hm ⟨fun O => dkFin ?_, fun O => ?_⟩
 ·rw [rdI, if_neg O]; exact ⟨rfl, rfl⟩
 ·have V : QCall TP 83 ⟨[.string M, .int .i64 (st.1 : Int)]⟩ [rH 235 Rb M st] ([rH 235 Rb M st].map (·.1)) W (intAns M (st.1 : Int)) := QCall.of (Int_c M _ a0)
  rw [int_ans h O] at V
  rw [rdI, if_pos O]
  cases hr : rdInt ((bts M).drop st.1) with
  | none =>
   rw [hr] at V
   exact ⟨_, _, _, V, fun _ => dkFin ⟨rfl, rfl⟩, fun Z => absurd Z (by decide)⟩
  | some p =>
   rw [hr] at V
   exact ⟨_, _, _, V, fun Z => absurd rfl Z, fun _ => dkFin ⟨rfl, by rw [O]⟩⟩
theorem readS_e {Rb : Nat} {M : BA} {st : RS} (a0 : M.size < 4611686018427387904) (h : st.1 ≤ (bts M).length) :
  EffC TP 200 ⟨[.pointer (SO Rb), .func (.func 122) #[] #[]]⟩ [rH 235 Rb M st] (fun v L' => v = .string (rdT (bts M) st).1 ∧ L' = [rH 235 Rb M (rdT (bts M) st).2]) := by
 intro W hm
 refine readS_vc Rb M st.1 st.2 hm ⟨fun O => dkFin ?_, fun O => ?_⟩
 ·rw [rdT, if_neg O]; exact ⟨rfl, rfl⟩
 ·have V : QCall TP 122 ⟨[.string M, .int .i64 (st.1 : Int)]⟩ [rH 235 Rb M st] ([rH 235 Rb M st].map (·.1)) W (strAns M (st.1 : Int)) := QCall.of (String_c M _ a0)
  rw [str_ans h O] at V
  rw [rdT, if_pos O]
  cases hr : rdStr ((bts M).drop st.1) with
  | none =>
   rw [hr] at V
   exact ⟨_, _, _, V, fun _ => dkFin ⟨rfl, rfl⟩, fun Z => absurd Z (by decide)⟩
  | some p =>
   rw [hr] at V
   exact ⟨_, _, _, V, fun Z => absurd rfl Z, fun _ => dkFin ⟨rfl, by rw [O]⟩⟩
theorem readInt_e {Rb : Nat} {M : BA} {st : RS} (O : M.size < 4611686018427387904) (h : st.1 ≤ (bts M).length) :
  EffC TP 199 ⟨[.pointer (SO Rb)]⟩ [rH 235 Rb M st] (fun v L' => v = .int .i64 (rdI (bts M) st).1 ∧ L' = [rH 235 Rb M (rdI (bts M) st).2]) := by
 intro W hm
 exact readInt_vc Rb M st.1 st.2 hm (CallH.one (readI_e O h) ⟨_, _, _, rfl, rfl, dkFin ⟨rfl, rfl⟩⟩)
def IntsOut (T Rb : Nat) (tx : BA) (r : List Int × RS) (v : Value) (L' : SHeap) : Prop :=
 ∃ (p : OA) (c : Nat) (F : SHeap), v = .slice p r.1.length c ∧ r.1.length ≤ c ∧ L' = rH T Rb tx r.2 :: F ∧ IntsL (lkF F) p r.1
theorem readLI_loop1 {Rb : Nat} {M : BA} (a1 : M.size < 4611686018427387904) {V : Int} (a5 : V ≤ 64) {S : List Nat} {w0 : World} : ∀ (g : Nat) (l : List Int) (st : RS) (O cap : Nat) (cs : List Value), (g : Int) + l.length = V → st.1 ≤ (bts M).length → l.length ≤ cap → cs.length = cap * 1 → (∀ i (h : i < l.length), cs[i]? = some (.int .i64 l[i])) →
      readLI_c1 Rb O V l.length cap (l.length : Int) M st.1 st.2 cs S w0 (fun e a3 => ∃ v L', e = .returned v ∧ Mem L' S w0 a3 ∧ IntsOut 235 Rb M (l ++ (rdMany (rdI (bts M)) g st).1, (rdMany (rdI (bts M)) g st).2) v L')
  | g, l, st, O, cap, cs, hg, hst, h1, h2, h3 => by
    apply readLI_c1_vc
    have stop : IntsOut 235 Rb M (l, st) (.slice (SO O) l.length cap) [rH 235 Rb M st, (O, .cells ⟨cs⟩ 3)] :=
      ⟨some ⟨O, 0, none⟩, cap, [(O, .cells ⟨cs⟩ 3)], rfl, h1, rfl, fun _ => ⟨O, 0, cs, rfl, ⟨3, _, List.mem_singleton.2 rfl⟩, fun i hi => by rw [Nat.zero_add]; exact h3 i hi⟩⟩
    match g with
    | 0 =>
      refine no (by omega) (dkFin ?_)
      simpa [rdMany] using stop
    | g + 1 =>
      refine yes (by omega) ⟨fun Z => ?_, fun Z => dkFin ?_⟩
      · refine CallH.one (readInt_e a1 hst) ⟨_, _, _, rfl, rfl, fun a8 => ⟨⟨h1, h2⟩, by omega, fun B6 a4 a7 a6 a2 => ?_⟩⟩
        rintro _ rfl
        rw [Nat.mul_one] at a2 ⊢
        have a0 : l.length ≤ cs.length := by omega
        rw [wi64 (by omega), show (l.length : Int) + 1 = ((l ++ [(rdI (bts M) st).1]).length : Int) by simp, show l.length + 1 = (l ++ [(rdI (bts M) st).1]).length by simp]
        have := readLI_loop1 (Rb := Rb) a1 a5 (S := S) (w0 := w0) g (l ++ [(rdI (bts M) st).1]) (rdI (bts M) st).2 B6 a4 (cs.take l.length ++ [.int .i64 (rdI (bts M) st).1] ++ a7) (by simp; omega) (rdI_le hst) (by simpa using a6) a2 (fun i hi => ?_)
        · rw [rdMany, if_pos Z]
          simpa using this
        · rcases Nat.lt_or_ge i l.length with hi2 | hi2
          · rw [at_old hi2 a0, h3 i hi2, List.getElem_append_left hi2]
          · have : i = l.length := by simp at hi; omega
            subst this
            rw [at_new a0]; simp
      · rw [rdMany_err Z]
        simpa using stop
theorem readLI_loop0 {Rb : Nat} {M : BA} (Z : M.size < 4611686018427387904) {O : Int} {st : RS} (a0 : st.1 ≤ (bts M).length) (a2 : st.2 = 0 → O ≤ 64) :
  readLI_c0 Rb O 0 M st.1 st.2 S w0 (fun e a1 => ∃ v L', e = .returned v ∧ Mem L' S w0 a1 ∧ IntsOut 235 Rb M (rdMany (rdI (bts M)) O.toNat st) v L') := by
 apply readLI_c0_vc
 have stop : IntsOut 235 Rb M ([], st) (.slice none 0 0) [rH 235 Rb M st] := ⟨none, 0, [], rfl, Nat.le_refl _, rfl, fun h => absurd h (by simp)⟩
 refine ⟨fun a5 => ⟨fun V => ?_, fun V => dkFin ?_⟩, fun a5 => dkFin ?_⟩
 ·refine CallH.one (readInt_e Z a0) ⟨_, _, _, rfl, rfl, fun a9 B2 cap a8 a6 a7 => ?_⟩
  rintro _ rfl
  obtain ⟨g, a4⟩ : ∃ g : Nat, O.toNat = g + 1 := ⟨O.toNat - 1, by omega⟩
  have a3 := a2 V
  have := readLI_loop1 (Rb := Rb) Z a3 (S := S) (w0 := w0) g [(rdI (bts M) st).1] (rdI (bts M) st).2 B2 cap ([.int .i64 (rdI (bts M) st).1] ++ a8) (by simp; omega) (rdI_le a0) a6 a7 (fun i hi => ?_)
  ·rw [a4, rdMany, if_pos V]
   exact this
  ·have : i = 0 := by simp at hi; omega
   subst this; rfl
 ·rw [rdMany_err V]; exact stop
 ·have : O.toNat = 0 := by omega
  rw [this]; exact stop
theorem readLI_e {Rb : Nat} {M : BA} {st : RS} (V : M.size < 4611686018427387904) (h : st.1 ≤ (bts M).length) :
  EffC TP 201 ⟨[.pointer (SO Rb), .int .i64 64, .func (.func 199) #[] #[]]⟩ [rH 235 Rb M st] (IntsOut 235 Rb M (rdList (rdI (bts M)) (bts M) 64 st)) := by
 intro W hm
 refine readLI_vc Rb 64 M st.1 st.2 hm (CallH.one (readI_e V h) ⟨_, _, _, rfl, rfl, ?_⟩)
 unfold rdList rdCount
 refine ⟨fun O => ⟨fun a0 => ?_, fun a0 => ⟨fun a1 => ?_, fun a1 => ?_⟩⟩, fun O => ?_⟩
 ·rw [if_pos ⟨O, .inl a0⟩]
  exact readLI_loop0 V (st := ((rdI (bts M) st).2.1, 30)) (rdI_le h) (fun h => absurd h (by simp))
 ·rw [if_pos ⟨O, .inr a1⟩]
  exact readLI_loop0 V (st := ((rdI (bts M) st).2.1, 30)) (rdI_le h) (fun h => absurd h (by simp))
 ·rw [if_neg (fun Z => by rcases Z.2 with h3 | h3 <;> omega)]
  exact readLI_loop0 V (rdI_le h) (fun _ => by omega)
 ·rw [if_neg (fun Z => O Z.1)]
  exact readLI_loop0 V (rdI_le h) (fun h => absurd h O)
def BlkOut (T Rb : Nat) (tx : BA) (r : Blk × RS) (v : Value) (L' : SHeap) : Prop :=
 ∃ (p : OA) (c : Nat) (F : SHeap), v = .agg ⟨r.1.cells p c⟩ ∧ L' = rH T Rb tx r.2 :: F ∧ IntsL (lkF F) p r.1.lab.after
theorem readB_e {Rb : Nat} {O : BA} {st : RS} (M : O.size < 4611686018427387904) (h : st.1 ≤ (bts O).length) :
  EffC TP 184 ⟨[.pointer (SO Rb)]⟩ [rH 235 Rb O st] (BlkOut 235 Rb O (rdBlk (bts O) st)) := by
 intro W hm
 obtain ⟨V, Z, a0, a1, a2, a3, a4, a5, a7⟩ := rdB_le h
 refine readB_vc Rb O st.1 st.2 hm fun B a6 => ?_
 refine CallH.one (readInt_e M h) ⟨_, _, _, rfl, rfl, ?_⟩
 refine CallH.one (readInt_e M V) ⟨_, _, _, rfl, rfl, ?_⟩
 refine CallH.one (readS_e M Z) ⟨_, _, _, rfl, rfl, ?_⟩
 refine CallH.one (readInt_e M a0) ⟨_, _, _, rfl, rfl, ?_⟩
 refine CallH.one (readInt_e M a1) ⟨_, _, _, rfl, rfl, ?_⟩
 refine CallH.one (readInt_e M a2) ⟨_, _, _, rfl, rfl, ?_⟩
 refine CallH.oneF (readLI_e M a3) fun v L' ⟨p, c, F, hv, hc, hL, hi⟩ => ⟨_, F, hL, p, _, c, _, _, F, hv, rfl, ?_⟩
 refine CallH.one (readInt_e M a4) ⟨_, _, _, rfl, rfl, ?_⟩
 refine CallH.one (readInt_e M a5) ⟨_, _, _, rfl, rfl, ?_⟩
 exact dkSelT [_, _, _] [0] rfl ⟨p, c, F, rfl, rfl, hi⟩
def BlksOut (T Rb : Nat) (tx : BA) (r : List Blk × RS) (v : Value) (L' : SHeap) : Prop :=
 ∃ (p : OA) (c : Nat) (F : SHeap), v = .slice p r.1.length c ∧ r.1.length ≤ c ∧ L' = rH T Rb tx r.2 :: F ∧ BlksL (lkF F) p r.1
def BRow (F : SHeap) (cs : List Value) (l : List Blk) : Prop := ∀ i (h : i < l.length), i * 9 + 9 ≤ cs.length ∧ BlkL (lkF F) ((cs.drop (i * 9)).take 9) l[i]
theorem BRow.mono {F F' : SHeap} {cs : List Value} {l : List Blk} (h : BRow F cs l) (M : ∀ x ∈ F, x ∈ F') : BRow F' cs l := fun i hi => ⟨(h i hi).1, (h i hi).2.mono (lkF_mono M)⟩
theorem BRow.app {F : SHeap} {cs r : List Value} {l : List Blk} {b : Blk} {p : OA} {c cap M : Nat} (h : BRow F cs l) (O : l.length ≤ cap) (V : cs.length = cap * 9) (Z : IntsL (lkF F) p b.lab.after) (a0 : b.Fits)
  (a3 : l.length + 1 ≤ M) (a1 : (cs.take (l.length * 9) ++ b.cells p c ++ r).length = M * 9) : BRow F (cs.take (l.length * 9) ++ b.cells p c ++ r) (l ++ [b]) := by
 have hn : l.length * 9 ≤ cs.length := by rw [V]; exact Nat.mul_le_mul_right _ O
 intro i hi
 have a2 : i < l.length + 1 := by simpa using hi
 refine ⟨by rw [a1]; omega, ?_⟩
 rcases Nat.lt_or_ge i l.length with hlt | hge
 ·rw [row_old hlt hn, List.getElem_append_left hlt]
  exact (h i hlt).2
 ·have : i = l.length := by omega
  subst this
  rw [row_new hn rfl]
  simp only [List.getElem_append_right (Nat.le_refl _), Nat.sub_self, List.getElem_cons_zero]
  exact ⟨p, c, rfl, Z, a0⟩
theorem BRow.one {F : SHeap} {r : List Value} {b : Blk} {p : OA} {c cap : Nat} (M : IntsL (lkF F) p b.lab.after) (O : b.Fits) (Z : 1 ≤ cap) (V : (b.cells p c ++ r).length = cap * 9) : BRow F (b.cells p c ++ r) [b] := by
 intro i hi
 have : i = 0 := by simp at hi; omega
 subst this
 refine ⟨by rw [V]; omega, p, c, ?_, M, O⟩
 simp
theorem BRow.sl {F : SHeap} {cs : List Value} {l : List Blk} {M : Nat} (h : BRow F cs l) : BlksL (lkF ((M, .cells ⟨cs⟩ 149) :: F)) (SO M) l :=
 fun _ => ⟨M, 0, cs, rfl, ⟨149, _, List.mem_cons_self⟩, fun i hi => ⟨by rw [Nat.zero_add]; exact (h i hi).1, by rw [Nat.zero_add]; exact (h i hi).2.mono (lkF_mono fun x O => List.mem_cons_of_mem _ O)⟩⟩
theorem readLB_loop1 {Rb : Nat} {M : BA} (a1 : M.size < 4611686018427387904) {V : Int} (a7 : V ≤ 24) {S : List Nat} {w0 : World} : ∀ (g : Nat) (l : List Blk) (st : RS) (O cap : Nat) (cs : List Value) (F : SHeap), (g : Int) + l.length = V → st.1 ≤ (bts M).length → l.length ≤ cap → cs.length = cap * 9 → BRow F cs l →
      readLB_c1 Rb O V l.length cap (l.length : Int) M st.1 st.2 cs F S w0 (fun e a4 => ∃ v L', e = .returned v ∧ Mem L' S w0 a4 ∧ BlksOut 235 Rb M (l ++ (rdMany (rdBlk (bts M)) g st).1, (rdMany (rdBlk (bts M)) g st).2) v L')
  | g, l, st, O, cap, cs, F, hg, hst, h1, h2, h3 => by
    apply readLB_c1_vc
    have stop : BlksOut 235 Rb M (l, st) (.slice (SO O) l.length cap) (rH 235 Rb M st :: (O, .cells ⟨cs⟩ 149) :: F) :=
      ⟨some ⟨O, 0, none⟩, cap, (O, .cells ⟨cs⟩ 149) :: F, rfl, h1, rfl, h3.sl⟩
    match g with
    | 0 =>
      refine no (by omega) (dkFin ?_)
      simpa [rdMany] using stop
    | g + 1 =>
      refine yes (by omega) ⟨fun Z => ?_, fun Z => dkFin ?_⟩
      · refine CallH.oneF (readB_e a1 hst) fun v L' ⟨p, c, F4, hv, hL, hi⟩ => ⟨_, F4, hL, _, _, _, _, _, _, p, _, c, _, _, _, _, F ++ F4, hv, rfl, fun b0 => ⟨⟨h1, h2⟩, by omega, fun B6 a5 b1 a2 a3 => ?_⟩⟩
        rintro _ rfl
        have a6 : BRow (F ++ F4) cs l := h3.mono fun x a0 => List.mem_append_left _ a0
        have a8 := hi.mono (lkF_mono (F' := F ++ F4) fun x a0 => List.mem_append_right _ a0)
        have a9 := a6.app h1 h2 a8 (rdBlk_fits hst) a2 a3
        rw [wi64 (by omega), show (l.length : Int) + 1 = ((l ++ [(rdBlk (bts M) st).1]).length : Int) by simp]
        have := readLB_loop1 (Rb := Rb) a1 a7 (S := S) (w0 := w0) g (l ++ [(rdBlk (bts M) st).1]) (rdBlk (bts M) st).2 B6 a5 _ (F ++ F4) (by simp; omega) (rdBlk_le hst) (by simpa using a2) a3 a9
        rw [rdMany, if_pos Z]
        have e : (l ++ [(rdBlk (bts M) st).1]).length = l.length + 1 := by simp
        rw [e] at this
        simpa using this
      · rw [rdMany_err Z]
        simpa using stop
theorem readLB_loop0 {Rb : Nat} {M : BA} (a0 : M.size < 4611686018427387904) {O : Int} {st : RS} (Z : st.1 ≤ (bts M).length) (a4 : st.2 = 0 → O ≤ 24) :
  readLB_c0 Rb O 0 M st.1 st.2 [] S w0 (fun e a3 => ∃ v L', e = .returned v ∧ Mem L' S w0 a3 ∧ BlksOut 235 Rb M (rdMany (rdBlk (bts M)) O.toNat st) v L') := by
 apply readLB_c0_vc
 have stop : BlksOut 235 Rb M ([], st) (.slice none 0 0) [rH 235 Rb M st] := ⟨none, 0, [], rfl, Nat.le_refl _, rfl, fun h => absurd h (by simp)⟩
 refine ⟨fun a7 => ⟨fun V => ?_, fun V => dkFin ?_⟩, fun a7 => dkFin ?_⟩
 ·refine CallH.oneF (readB_e a0 Z) fun v L' ⟨p, c, F4, hv, hL, hi⟩ => ⟨_, F4, hL, _, _, _, _, _, _, p, _, c, _, _, _, _, F4, hv, rfl, fun a9 B2 cap b0 a1 a2 => ?_⟩
  rintro _ rfl
  obtain ⟨g, a6⟩ : ∃ g : Nat, O.toNat = g + 1 := ⟨O.toNat - 1, by omega⟩
  have a5 := a4 V
  have a8 := BRow.one hi (rdBlk_fits Z) a1 a2
  have := readLB_loop1 (Rb := Rb) a0 a5 (S := S) (w0 := w0) g [(rdBlk (bts M) st).1] (rdBlk (bts M) st).2 B2 cap _ F4 (by simp; omega) (rdBlk_le Z) a1 a2 a8
  rw [a6, rdMany, if_pos V]
  exact this
 ·rw [rdMany_err V]; exact stop
 ·have : O.toNat = 0 := by omega
  rw [this]; exact stop
theorem readLB_e {Rb : Nat} {M : BA} {st : RS} (V : M.size < 4611686018427387904) (h : st.1 ≤ (bts M).length) :
  EffC TP 183 ⟨[.pointer (SO Rb), .int .i64 24, .func (.func 184) #[] #[]]⟩ [rH 235 Rb M st] (BlksOut 235 Rb M (rdList (rdBlk (bts M)) (bts M) 24 st)) := by
 intro W hm
 refine readLB_vc Rb 24 M st.1 st.2 [] hm (CallH.one (readI_e V h) ⟨_, _, _, rfl, rfl, ?_⟩)
 unfold rdList rdCount
 refine ⟨fun O => ⟨fun a0 => ?_, fun a0 => ⟨fun a1 => ?_, fun a1 => ?_⟩⟩, fun O => ?_⟩
 ·rw [if_pos ⟨O, .inl a0⟩]
  exact readLB_loop0 V (st := ((rdI (bts M) st).2.1, 30)) (rdI_le h) (fun h => absurd h (by simp))
 ·rw [if_pos ⟨O, .inr a1⟩]
  exact readLB_loop0 V (st := ((rdI (bts M) st).2.1, 30)) (rdI_le h) (fun h => absurd h (by simp))
 ·rw [if_neg (fun Z => by rcases Z.2 with h3 | h3 <;> omega)]
  exact readLB_loop0 V (rdI_le h) (fun _ => by omega)
 ·rw [if_neg (fun Z => O Z.1)]
  exact readLB_loop0 V (rdI_le h) (fun h => absurd h O)
def DecOut (r : List Blk × Int) (v : Value) (F : SHeap) : Prop := ∃ (p : OA) (c : Nat), v = .tuple #[.slice p r.1.length c, .int .i64 r.2] ∧ r.1.length ≤ c ∧ BlksL (lkF F) p r.1
theorem DecOut.nil {e : Int} {F : SHeap} : DecOut ([], e) (.tuple #[.slice none 0 0, .int .i64 e]) F := ⟨none, 0, rfl, Nat.le_refl _, fun h => absurd h (by simp)⟩
theorem decRun_le (s : List UInt8) : (decRun s).2.1 ≤ s.length ∧ (decRun s).1.length ≤ 24 := rdList_le (f := rdBlk s) (most := 24) (fun st => rdBlk_le) (Nat.zero_le _)
theorem decode_e (s : BA) (a5 : s.size < 4611686018427387904) : EffC TP 170 ⟨[.string s]⟩ [] (DecOut (decSpec (bts s))) := by
 intro W hm
 refine decode_vc s (Mem.start [] W) fun B => ?_
 have a1 : EffC TP 183 ⟨[.pointer (SO B), .int .i64 24, .func (.func 184) #[] #[]]⟩ [rH 235 B s (0, 0)] (BlksOut 235 B s (decRun (bts s))) := readLB_e (st := (0, 0)) a5 (Nat.zero_le _)
 refine CallH.oneF a1 fun v L' ⟨p, c, F, hv, hc, hL, hb⟩ => ⟨_, F, hL, p, _, c, _, _, F, hv, rfl, ?_⟩
 have a8 := (decRun_le (bts s)).1
 have a7 : (bts s).length = s.size := bts_len s
 have fin : ∀ r v, decSpec (bts s) = r → DecOut r v F → Fin (fun e V => ∃ v L', e = .returned v ∧ Mem L' [] W V ∧ DecOut (decSpec (bts s)) v L') (rH 235 B s (decRun (bts s)).2 :: F) [] W v := fun r v a4 a2 => by
  rw [a4]; exact dkSelT [_] [] rfl a2
 refine ⟨fun a0 => ?_, fun a0 => ⟨fun M => ?_, fun M => ?_⟩⟩
 ·exact fin _ _ (by rw [decSpec, if_pos a0]) DecOut.nil
 ·exact fin _ _ (by rw [decSpec, if_neg (by omega), if_pos (show (decRun (bts s)).2.1 < (bts s).length from by have : ((decRun (bts s)).2.1 : Int) < (s.size : Int) := M; omega)]) DecOut.nil
 ·have Z : ¬ (decRun (bts s)).2.1 < (bts s).length := by have : ¬ ((decRun (bts s)).2.1 : Int) < (s.size : Int) := M; omega
  refine CallH.pw (fun V a3 => validL_c (hb.mono (lkF_W a3 fun x a6 => List.mem_cons_of_mem _ a6)) hc) ⟨_, rfl, rfl, fun O => ?_, fun O => ?_⟩
  ·exact fin _ _ (by rw [decSpec, if_neg (by omega), if_neg Z, if_pos O]) ⟨p, c, rfl, hc, hb⟩
  ·exact fin _ _ (by rw [decSpec, if_neg (by omega), if_neg Z, if_neg (by rw [O]; simp)]) DecOut.nil
theorem cw0_vc (B : Nat) (a c : BA) (b : Int) (hm : Mem [(B, .cells #[.bool false, .string c, IV b, .pointer none, .slice none 0 0] 105)] S w0 W) (H : VP S w0 R (.il 8 Tryz.func150 [.pointer (some ⟨B, 3, none⟩)] <| .ru [5,200] <| .r 6 <| .pC 0 103 B 3 ([.bool false, .string c, IV b, .pointer none, .slice none 0 0] : List Value) 105 1 <| .r 1 <| .pB 0 103 B 3 5 ([.bool false, .string c, IV b, .pointer none, .slice none 0 0] : List Value) 105 <| .ru [2,200] <| .rk 1 <| .ru [7,200] <| .r 1 <| .aS false 47 9 5 1 a (.ru [2,200] <| .li 6 4 (a.size : Int) fun f => .re 2 (.tuple #[IV f, .nilIface]) [(B, .cells #[.bool false, .string c, IV b, .pointer (some ⟨B, 3, none⟩), .slice none 0 0] 105)]) fun (d e : Nat) (r : List Value) => .ru [2,200] <| .li 6 4 (a.size : Int) fun g => .re 2 (.tuple #[IV g, .nilIface]) [(B, .cells #[.bool false, .string c, IV b, .pointer (some ⟨B, 3, none⟩), .slice (SO d) a.size e] 105), (d, .cells ⟨((bytesL a.data.toList) ++ r)⟩ 5)])) : Calls TP 109 ⟨[.pointer (some ⟨B, 3, none⟩), .string a]⟩ W R := VC.cs Tryz.func109 hm _ H
theorem cw1_vc (B : Nat) (a c : BA) (b : Int) (hm : Mem [(B, .cells #[.bool false, .string c, IV b, .pointer (some ⟨B, 3, none⟩), .slice none 0 0] 105)] S w0 W) (H : VP S w0 R (.il 8 Tryz.func150 [.pointer (some ⟨B, 3, none⟩)] <| .ru [5,200,8,200] <| .r 1 <| .nS 101 ⟨B, 3, none⟩ <| .rk 3 <| .ru [7,200] <| .r 1 <| .aS false 47 9 5 1 a (.ru [2,200] <| .li 6 4 (a.size : Int) fun f => .re 2 (.tuple #[IV f, .nilIface]) [(B, .cells #[.bool false, .string c, IV b, .pointer (some ⟨B, 3, none⟩), .slice none 0 0] 105)]) fun (d e : Nat) (r : List Value) => .ru [2,200] <| .li 6 4 (a.size : Int) fun g => .re 2 (.tuple #[IV g, .nilIface]) [(B, .cells #[.bool false, .string c, IV b, .pointer (some ⟨B, 3, none⟩), .slice (SO d) a.size e] 105), (d, .cells ⟨((bytesL a.data.toList) ++ r)⟩ 5)])) : Calls TP 109 ⟨[.pointer (some ⟨B, 3, none⟩), .string a]⟩ W R := VC.cs Tryz.func109 hm _ H
theorem cw2_vc (B : Nat) (a g : BA) (e : Int) (c b f : Nat) (cs : List Value) (hm : Mem [(B, .cells #[.bool false, .string g, IV e, .pointer (some ⟨B, 3, none⟩), .slice (SO c) b (f + 1)] 105), (c, .cells ⟨cs⟩ 5)] S w0 W) (H : VP S w0 R (.il 8 Tryz.func150 [.pointer (some ⟨B, 3, none⟩)] <| .ru [5,200,8,200] <| .r 1 <| .nS 101 ⟨B, 3, none⟩ <| .rk 3 <| .ru [7,200] <| .r 1 <| .oS false 1 c b (f + 1) cs 47 9 5 1 a fun (d h : Nat) (r : List Value) => .ru [2,200] <| .li 6 4 (a.size : Int) fun i => .re 2 (.tuple #[IV i, .nilIface]) [(B, .cells #[.bool false, .string g, IV e, .pointer (some ⟨B, 3, none⟩), .slice (SO d) (b + a.size) h] 105), (d, .cells ⟨((cs).take (b * 1) ++ (bytesL a.data.toList) ++ r)⟩ 5)])) : Calls TP 109 ⟨[.pointer (some ⟨B, 3, none⟩), .string a]⟩ W R := VC.cs Tryz.func109 hm _ H
theorem cs0_vc (B : Nat) (b : BA) (a : Int) (hm : Mem [(B, .cells #[.bool false, .string b, IV a, .pointer none, .slice none 0 0] 105)] S w0 W) (H : VP S w0 R (.r 5 <| .dr 10 <| .qu [3,100,4,100,1] <| .dn <| .re 3 (sZ) [(B, .cells #[.bool false, .string b, IV a, .pointer none, .slice none 0 0] 105)])) : Calls TP 60 ⟨[.pointer (some ⟨B, 3, none⟩)]⟩ W R := VC.cs Tryz.func60 hm _ H
theorem cs1_vc (B : Nat) (b : BA) (a : Int) (hm : Mem [(B, .cells #[.bool false, .string b, IV a, .pointer (some ⟨B, 3, none⟩), .slice none 0 0] 105)] S w0 W) (H : VP S w0 R (.r 5 <| .dr 10 <| .qu [3,100,4,100,1] <| .dn <| .re 3 (sZ) [(B, .cells #[.bool false, .string b, IV a, .pointer (some ⟨B, 3, none⟩), .slice none 0 0] 105)])) : Calls TP 60 ⟨[.pointer (some ⟨B, 3, none⟩)]⟩ W R := VC.cs Tryz.func60 hm _ H
theorem cs2_vc (B : Nat) (f : BA) (d : Int) (a b e : Nat) (cs : List Value) (hm : Mem [(B, .cells #[.bool false, .string f, IV d, .pointer (some ⟨B, 3, none⟩), .slice (SO a) b (e + 1)] 105), (a, .cells ⟨cs⟩ 5)] S w0 W) (H : VP S w0 R (.r 5 <| .dr 10 <| .qu [3,100,4,100,1] <| .dn <| .ex fun (c : List UInt8) => .uS 1 a 5 158 3 b cs c <| .ls 1 2 (⟨c.toArray⟩) fun g => .re 1 (.string g) [(B, .cells #[.bool false, .string f, IV d, .pointer (some ⟨B, 3, none⟩), .slice (SO a) b (e + 1)] 105)])) : Calls TP 60 ⟨[.pointer (some ⟨B, 3, none⟩)]⟩ W R := VC.cs Tryz.func60 hm _ H
theorem wNum_vc (B e no : Nat) (b : BA) (a : Int) (h f : Value) (d : SHeap) (hm : Mem ((B, .cells #[.bool false, .string b, IV a, h, f] 105) :: d) S w0 W) (H : VP S w0 R (.hp ((B, .cells #[.bool false, .string b, IV a, h, f] 105) :: d) fun c => .ru [6,200] <| .r 7 <| .x2 fun (k : List Value) m1 => .lgs e no 3 k (IV m1) <| .cl 0 48 [IV m1] c <| .x2 fun j l => .rt (.tuple #[.string j, IV l]) c <| .cl 12 109 [.pointer (some ⟨B, 3, none⟩), .string j] c <| .x5 fun r31 (m i g : Value) F1 => .rt (.tuple #[IV r31, m]) ((B, .cells #[.bool false, .string b, IV a, i, g] 105) :: F1) <| .re 1 (.tuple #[]) ((B, .cells #[.bool false, .string b, IV a, i, g] 105) :: F1))) : Calls TP 98 ⟨[PP B, .pointer (some ⟨e, no, none⟩)]⟩ W R := VC.cs Tryz.func98 hm _ H
theorem wWord_vc (B e no : Nat) (b : BA) (a : Int) (h f : Value) (d : SHeap) (hm : Mem ((B, .cells #[.bool false, .string b, IV a, h, f] 105) :: d) S w0 W) (H : VP S w0 R (.hp ((B, .cells #[.bool false, .string b, IV a, h, f] 105) :: d) fun c => .ru [6,200] <| .r 7 <| .x2 fun (k : List Value) m1 => .lgs e no 9 k (.string m1) <| .cl 0 91 [.string m1] c <| .x2 fun j l => .rt (.tuple #[.string j, IV l]) c <| .cl 12 109 [.pointer (some ⟨B, 3, none⟩), .string j] c <| .x5 fun r31 (m i g : Value) F1 => .rt (.tuple #[IV r31, m]) ((B, .cells #[.bool false, .string b, IV a, i, g] 105) :: F1) <| .re 1 (.tuple #[]) ((B, .cells #[.bool false, .string b, IV a, i, g] 105) :: F1))) : Calls TP 133 ⟨[PP B, .pointer (some ⟨e, no, none⟩)]⟩ W R := VC.cs Tryz.func133 hm _ H
theorem wCount_vc (B : Nat) (a j : Int) (d : BA) (c : Int) (h f : Value) (e : SHeap) (hm : Mem ((B, .cells #[.bool false, .string d, IV c, h, f] 105) :: e) S w0 W) (H : VP S w0 R (.nf 2 (.cells #[IV a] 3) fun b => .cl 5 98 [PP B, PP b] ((b, .cells #[IV a] 3) :: (B, .cells #[.bool false, .string d, IV c, h, f] 105) :: e) <| .x3 fun (i g : Value) F1 => .rt (.tuple #[]) ((b, .cells #[IV a] 3) :: (B, .cells #[.bool false, .string d, IV c, i, g] 105) :: F1) <| .ru [7,201,11,200] <| .re 2 (IV a) ((b, .cells #[IV a] 3) :: (B, .cells #[.bool false, .string d, IV c, i, g] 105) :: F1))) : Calls TP 168 ⟨[PP B, IV a, IV j]⟩ W R := VC.cs Tryz.func168 hm _ H
noncomputable def wTopics_c0 (a c : Nat) (i j : Int) (d : Bool) (e : BA) (f : Int) (g h : Value) (b : SHeap) (S : List Nat) : Cut := ⟨TP, S, 135, 35, (KC Tryz.f135 60), [(0, PP a), (1, .pointer (some ⟨c, 9, none⟩)), (23, IV i), (24, IV j)], ((a, .cells #[.bool d, .string e, IV f, g, h] 105) :: b)⟩
theorem wTopics_c0_vc (b g : Nat) (i a : Int) (c : Bool) (d : BA) (e : Int) (n o : Value) (j : SHeap) (H : VP S w0 R (.hp ((b, .cells #[.bool c, .string d, IV e, n, o] 105) :: j) fun m => .P 5 25 (a < i) (.r 13 <| .x4 fun (p : List Value) m51_p m51_l m51_c => .lgs g 9 32 p (.slice m51_p m51_l m51_c) <| .r 1 <| .x2 fun h f => .sp m51_p h f [30] <| .iL h f m51_l m51_c 1 a (f + (Int.toNat a)) <| .cl 0 133 [PP b, .pointer (some ⟨h, (f + (Int.toNat a)), none⟩)] m <| .x3 fun (l k : Value) F3 => .rt (.tuple #[]) ((b, .cells #[.bool c, .string d, IV e, l, k] 105) :: F3) <| .cT 7 [0] 1 (wTopics_c0 b g i (IntKind.i64.wrap (a + 1)) c d e l k F3 S)) <| .re 2 (.tuple #[]) m)) : wTopics_c0 b g i a c d e n o j S w0 R := VC.go Tryz.func135 _ H
theorem wTopics_vc (B a : Nat) (c : BA) (b : Int) (g e : Value) (d : SHeap) (hm : Mem ((B, .cells #[.bool false, .string c, IV b, g, e] 105) :: d) S w0 W) (H : VP S w0 R (.r 5 <| .x4 fun (k : List Value) m1_p i m1_c => .lgs a 9 32 k (.slice m1_p i m1_c) <| .cl 1 168 [PP B, IV (i : Int), IV 4] ((B, .cells #[.bool false, .string c, IV b, g, e] 105) :: d) <| .x4 fun r1 (h f : Value) F1 => .rt (IV r1) ((B, .cells #[.bool false, .string c, IV b, h, f] 105) :: F1) <| .ru [8,200] <| .r 7 <| .x4 fun (l : List Value) m21_p j m21_c => .lgs a 9 32 l (.slice m21_p j m21_c) <| .cT 5 [0] 1 (wTopics_c0 B a (j : Int) 0 false c b h f F1 S))) : Calls TP 135 ⟨[PP B, .pointer (some ⟨a, 9, none⟩)]⟩ W R := VC.cs Tryz.func135 hm _ H
theorem wBlocks_vc (B h : Nat) (c : BA) (b : Int) (g f : Value) (e : SHeap) (hm : Mem ((B, .cells #[.bool false, .string c, IV b, g, f] 105) :: e) S w0 W) (H : VP S w0 R (.nf 2 (.cells #[sZ] 9) fun a => .hp ((a, .cells #[sZ] 9) :: (B, .cells #[.bool false, .string c, IV b, g, f] 105) :: e) fun k => .ru [200,7,201] <| .r 6 <| .x4 fun (l : List Value) m1_p m1_l m1_c => .lgs h 10 33 l (.slice m1_p m1_l m1_c) <| .cl 0 169 [.slice m1_p m1_l m1_c] k <| .x2 fun d m => .rt (.tuple #[.string d, IV m]) k <| .ru [3,200] <| .cl 4 133 [PP B, PP a] ((a, .cells #[.string d] 9) :: (B, .cells #[.bool false, .string c, IV b, g, f] 105) :: e) <| .x3 fun (j i : Value) F1 => .rt (.tuple #[]) ((a, .cells #[.string d] 9) :: (B, .cells #[.bool false, .string c, IV b, j, i] 105) :: F1) <| .ru [6,201] <| .re 3 (.tuple #[]) ((a, .cells #[.string d] 9) :: (B, .cells #[.bool false, .string c, IV b, j, i] 105) :: F1))) : Calls TP 137 ⟨[PP B, .pointer (some ⟨h, 10, none⟩)]⟩ W R := VC.cs Tryz.func137 hm _ H
noncomputable def wLabel_c0 (a c : Nat) (i j : Int) (d : Bool) (e : BA) (f : Int) (g h : Value) (b : SHeap) (S : List Nat) : Cut := ⟨TP, S, 139, 54, (KC Tryz.f139 244), [(0, PP a), (1, .pointer (some ⟨c, 11, none⟩)), (31, IV i), (32, IV j)], ((a, .cells #[.bool d, .string e, IV f, g, h] 105) :: b)⟩
theorem wLabel_c0_vc (a f : Nat) (i e : Int) (b : Bool) (c : BA) (d : Int) (s t : Value) (j : SHeap) (H : VP S w0 R (.hp ((a, .cells #[.bool b, .string c, IV d, s, t] 105) :: j) fun q => .P 5 33 (e < i) (.r 14 <| .x4 fun (u : List Value) m51_p m51_l m51_c => .lgs f 12 34 u (.slice m51_p m51_l m51_c) <| .r 1 <| .x2 fun h g => .sp m51_p h g [39] <| .iL h g m51_l m51_c 1 e (g + (Int.toNat e)) <| .cl 0 98 [PP a, .pointer (some ⟨h, (g + (Int.toNat e)), none⟩)] q <| .x3 fun (n k : Value) F4 => .rt (.tuple #[]) ((a, .cells #[.bool b, .string c, IV d, n, k] 105) :: F4) <| .cT 7 [0] 1 (wLabel_c0 a f i (IntKind.i64.wrap (e + 1)) b c d n k F4 S)) <| .cl 8 98 [PP a, .pointer (some ⟨f, 13, none⟩)] q <| .x3 fun (o l : Value) F5 => .rt (.tuple #[]) ((a, .cells #[.bool b, .string c, IV d, o, l] 105) :: F5) <| .cl 6 98 [PP a, .pointer (some ⟨f, 14, none⟩)] ((a, .cells #[.bool b, .string c, IV d, o, l] 105) :: F5) <| .x3 fun (p m : Value) F6 => .rt (.tuple #[]) ((a, .cells #[.bool b, .string c, IV d, p, m] 105) :: F6) <| .re 1 (.tuple #[]) ((a, .cells #[.bool b, .string c, IV d, p, m] 105) :: F6))) : wLabel_c0 a f i e b c d s t j S w0 R := VC.go Tryz.func139 _ H
theorem wLabel_vc (B c : Nat) (b : BA) (a : Int) (h e : Value) (d : SHeap) (hm : Mem ((B, .cells #[.bool false, .string b, IV a, h, e] 105) :: d) S w0 W) (H : VP S w0 R (.cl 6 98 [PP B, .pointer (some ⟨c, 11, none⟩)] ((B, .cells #[.bool false, .string b, IV a, h, e] 105) :: d) <| .x3 fun (i f : Value) F1 => .rt (.tuple #[]) ((B, .cells #[.bool false, .string b, IV a, i, f] 105) :: F1) <| .r 7 <| .x4 fun (m : List Value) m1_p k m1_c => .lgs c 12 34 m (.slice m1_p k m1_c) <| .cl 1 168 [PP B, IV (k : Int), IV 64] ((B, .cells #[.bool false, .string b, IV a, i, f] 105) :: F1) <| .x4 fun r1 (j g : Value) F2 => .rt (IV r1) ((B, .cells #[.bool false, .string b, IV a, j, g] 105) :: F2) <| .ru [8,200] <| .r 9 <| .x4 fun (n : List Value) m21_p l m21_c => .lgs c 12 34 n (.slice m21_p l m21_c) <| .cT 5 [0] 1 (wLabel_c0 B c (l : Int) 0 false b a j g F2 S))) : Calls TP 139 ⟨[PP B, .pointer (some ⟨c, 11, none⟩)]⟩ W R := VC.cs Tryz.func139 hm _ H
theorem lkX_old {L F : SHeap} (hm : Mem L S w0 W) (V : ∀ x ∈ F, x ∈ L) : ∀ b c, lkX S w0 b c → lkX (F.map (·.1)) W b c := by
 rintro b c ⟨O, M⟩
 refine ⟨fun Z => ?_, blkW_kept hm.kept O M⟩
 obtain ⟨q, a0, rfl⟩ := List.mem_map.1 Z
 rcases hm.own q (V q a0) with h | h
 ·unfold blkW at M
  rw [Array.getElem?_eq_none h] at M
  cases M
 ·exact O h
theorem lkX_in {told F : SHeap} (hm : Mem (told ++ F) S w0 W) {b : Nat} {c : List Value} {t : TypeId} {fz : Nat × Nat} (h : (b, Obj.cells ⟨c⟩ t fz) ∈ told) : lkX (F.map (·.1)) W b c := by
 refine ⟨fun O => ?_, ?_⟩
 ·have M := hm.nodup
  rw [List.map_append, List.nodup_append] at M
  exact M.2.2 b (List.mem_map_of_mem h) b O rfl
 ·have := hm.here _ (List.mem_append_left F h)
  simp only at this
  simp [blkW, this]
theorem CallH.effW0 {F : SHeap} {M : World → Prop} (h : EffW P g args F M K) (Z : ∀ W, Mem F S w0 W → M W) (O : ∀ v F', K v F' → K' v F') : CallH P g args F S w0 K' :=
 CallH.effW (L1 := []) h Z (by simp) fun v L' V => ⟨L', by simp, O v L' V⟩
abbrev DK (K : Value → SHeap → Prop) (S : List Nat) (w0 : World) : Ending → World → Prop := fun e W' => ∃ v L', e = .returned v ∧ Mem L' S w0 W' ∧ K v L'
abbrev kH (B : Nat) (p v : Value) : Nat × Obj := (B, .cells #[.bool false, .string ⟨#[]⟩, .int .i64 0, p, v] 105)
def KRep (B : Nat) (s : List UInt8) (p v : Value) (G : SHeap) : Prop :=
 (s = [] ∧ p = .pointer none ∧ v = .slice none 0 0 ∧ G = []) ∨ (s = [] ∧ p = .pointer (some ⟨B, 3, none⟩) ∧ v = .slice none 0 0 ∧ G = []) ∨
 ∃ (Q cap : Nat) (cs : List Value), 0 < s.length ∧ s.length ≤ cap + 1 ∧ cs.length = (cap + 1) * 1 ∧ cs.take s.length = bytesL s ∧
  p = .pointer (some ⟨B, 3, none⟩) ∧ v = .slice (SO Q) s.length (cap + 1) ∧ G = [(Q, .cells ⟨cs⟩ 5)]
def KOut (B : Nat) (s : List UInt8) (u : Value) (v : Value) (L' : SHeap) : Prop := ∃ p' v' G', v = u ∧ L' = kH B p' v' :: G' ∧ KRep B s p' v' G'
theorem KRep.new (B : Nat) : KRep B [] (.pointer none) (.slice none 0 0) [] := .inl ⟨rfl, rfl, rfl, rfl⟩
theorem KRep.row {B Q cap : Nat} {s : List UInt8} {cs : List Value} (M : 0 < s.length) (O : s.length ≤ cap) (V : cs.length = cap * 1) (Z : cs.take s.length = bytesL s) :
  KRep B s (.pointer (some ⟨B, 3, none⟩)) (.slice (SO Q) s.length cap) [(Q, .cells ⟨cs⟩ 5)] := by
 obtain ⟨c, rfl⟩ : ∃ c, cap = c + 1 := ⟨cap - 1, by omega⟩
 exact .inr (.inr ⟨Q, c, cs, M, O, V, Z, rfl, rfl, rfl⟩)
theorem kwrite_e {B : Nat} {l : List UInt8} {s : BA} {p v : Value} {G : SHeap} (h : KRep B l p v G) (a0 : l.length + s.size ≤ 140737488355328) :
  EffC TP 109 ⟨[.pointer (some ⟨B, 3, none⟩), .string s]⟩ (kH B p v :: G) (KOut B (l ++ bts s) (.tuple #[.int .i64 (s.size : Int), .nilIface])) := by
 intro W hm
 have V : (bts s).length = s.size := bts_len s
 rcases h with ⟨rfl, rfl, rfl, rfl⟩ | ⟨rfl, rfl, rfl, rfl⟩ | ⟨Q, cap, cs, h0, O, M, h3, rfl, rfl, rfl⟩
 ·simp only [List.length_nil, Nat.zero_add] at a0
  refine cw0_vc B s ⟨#[]⟩ 0 hm ⟨by omega, fun a3 => ?_, fun hp Z cap r O M => ?_⟩
  ·rintro _ rfl
   exact dkFin ⟨_, _, _, rfl, rfl, .inr (.inl ⟨by rw [List.nil_append]; exact List.length_eq_zero_iff.1 (by omega), rfl, rfl, rfl⟩)⟩
  ·rintro _ rfl
   refine dkFin ⟨_, _, _, rfl, rfl, ?_⟩
   rw [List.nil_append, ← V]
   exact KRep.row (by omega) (by omega) M (take_bytes _ _)
 ·simp only [List.length_nil, Nat.zero_add] at a0
  refine cw1_vc B s ⟨#[]⟩ 0 hm ⟨by omega, fun a3 => ?_, fun hp Z cap r O M => ?_⟩
  ·rintro _ rfl
   exact dkFin ⟨_, _, _, rfl, rfl, .inr (.inl ⟨by rw [List.nil_append]; exact List.length_eq_zero_iff.1 (by omega), rfl, rfl, rfl⟩)⟩
  ·rintro _ rfl
   refine dkFin ⟨_, _, _, rfl, rfl, ?_⟩
   rw [List.nil_append, ← V]
   exact KRep.row (by omega) (by omega) M (take_bytes _ _)
 ·refine cw2_vc B s ⟨#[]⟩ 0 Q l.length cap cs hm ⟨⟨O, M⟩, by omega, fun Z a4 r a1 a2 => ?_⟩
  rintro _ rfl
  refine dkFin ⟨_, _, _, rfl, rfl, ?_⟩
  rw [Nat.mul_one, h3, ← bytesL_app] at a2 ⊢
  have e : l.length + s.size = (l ++ bts s).length := by rw [List.length_append, V]
  rw [e] at a1 ⊢
  exact KRep.row (by omega) a1 a2 (take_bytes _ _)
theorem kstring_e {B : Nat} {l : List UInt8} {p v : Value} {G : SHeap} (h : KRep B l p v G) (M : l.length ≤ 9223372036854775807) : EffC TP 60 ⟨[.pointer (some ⟨B, 3, none⟩)]⟩ (kH B p v :: G) (fun u F' => u = .string (ba l)) := by
 intro W hm
 rcases h with ⟨rfl, rfl, rfl, rfl⟩ | ⟨rfl, rfl, rfl, rfl⟩ | ⟨Q, cap, cs, h0, h1, h2, h3, rfl, rfl, rfl⟩
 ·exact cs0_vc B ⟨#[]⟩ 0 hm (dkFin rfl)
 ·exact cs1_vc B ⟨#[]⟩ 0 hm (dkFin rfl)
 ·refine cs2_vc B ⟨#[]⟩ 0 Q l.length cap cs hm ⟨l, ⟨h3, rfl, h0, M⟩, ?_⟩
  rintro _ rfl
  exact dkFin rfl
abbrev nm (B : Nat) (p v : Value) (G : SHeap) : List Nat := (kH B p v :: G).map (·.1)
theorem wNum_e {B O no : Nat} {n : Int} {l : List UInt8} {p v : Value} {G : SHeap} (hn : okInt n) (h : KRep B l p v G) (a2 : l.length ≤ 1000000000) :
  EffW TP 98 ⟨[.pointer (SO B), .pointer (some ⟨O, no, none⟩)]⟩ (kH B p v :: G) (fun W => ∃ M, lkX (nm B p v G) W O M ∧ M[no]? = some (.int .i64 n)) (KOut B (l ++ Wire.enc n) (.tuple #[])) := by
 rintro W hm ⟨M, ⟨V, Z⟩, a0⟩
 have a1 := enc_len n
 refine wNum_vc B O no ⟨#[]⟩ 0 p v G hm ⟨M, n, V, Z, a0, CallH.pure (putI hn) ⟨_, _, rfl, rfl, ?_⟩⟩
 refine CallH.effF (kwrite_e h (by rw [ba_size]; omega)) fun u L' ⟨p', v', G', hu, hL, hR⟩ => ⟨_, _, p', v', G', hu, hL, dkFin ⟨_, _, _, rfl, rfl, ?_⟩⟩
 rwa [bts_mk] at hR
theorem wWord_e {B O no : Nat} {s : BA} {l : List UInt8} {p v : Value} {G : SHeap} (a2 : s.size ≤ 65536) (h : KRep B l p v G) (a3 : l.length ≤ 1000000000) :
  EffW TP 133 ⟨[.pointer (SO B), .pointer (some ⟨O, no, none⟩)]⟩ (kH B p v :: G) (fun W => ∃ M, lkX (nm B p v G) W O M ∧ M[no]? = some (.string s)) (KOut B (l ++ encS (bts s)) (.tuple #[])) := by
 rintro W hm ⟨M, ⟨V, Z⟩, a0⟩
 have a1 := encS_len (bts s)
 rw [bts_len] at a1
 refine wWord_vc B O no ⟨#[]⟩ 0 p v G hm ⟨M, s, V, Z, a0, CallH.pure (putS a2) ⟨_, _, rfl, rfl, ?_⟩⟩
 refine CallH.effF (kwrite_e h (by rw [ba_size]; omega)) fun u L' ⟨p', v', G', hu, hL, hR⟩ => ⟨_, _, p', v', G', hu, hL, dkFin ⟨_, _, _, rfl, rfl, ?_⟩⟩
 rwa [bts_mk] at hR
theorem wCount_e {B : Nat} {n most : Int} {l : List UInt8} {p v : Value} {G : SHeap} (hn : okInt n) (h : KRep B l p v G) (O : l.length ≤ 1000000000) :
  EffC TP 168 ⟨[.pointer (SO B), .int .i64 n, .int .i64 most]⟩ (kH B p v :: G) (KOut B (l ++ Wire.enc n) (.int .i64 n)) := by
 intro W hm
 refine wCount_vc B n most ⟨#[]⟩ 0 p v G hm fun M => ?_
 refine CallH.effWT [(M, .cells #[.int .i64 n] 3)] (wNum_e hn h O) (fun Z V => ⟨_, lkX_in (c := [.int .i64 n]) V (List.mem_singleton.2 rfl), rfl⟩) fun u F' ⟨p', v', G', hu, hL, hR⟩ => ⟨p', v', G', hu, by rw [hL]; rfl, ?_⟩
 exact dkSelT [_, kH B p' v'] [1] rfl ⟨_, _, _, rfl, rfl, hR⟩
def FPre (S : List Nat) (f : Fct) (FB : Nat) (W : World) : Prop := ∃ cs, lkX S W FB cs ∧ FctL (lkX S W) cs f
theorem FPre.old {L F : SHeap} {f : Fct} {FB : Nat} (h : FPre S f FB w0) (hm : Mem L S w0 W) (M : ∀ x ∈ F, x ∈ L) : FPre (F.map (·.1)) f FB W := by
 obtain ⟨cs, O, V⟩ := h
 exact ⟨cs, lkX_old hm M _ _ O, V.mono (lkX_old hm M)⟩
theorem flat_take {α : Type} {e : α → List UInt8} {l : List α} {i : Nat} (h : i < l.length) : (l.take (i + 1)).flatMap e = (l.take i).flatMap e ++ e l[i] := by
 rw [List.take_add_one, List.getElem?_eq_getElem h, List.flatMap_append]; simp
theorem flat_len {α : Type} {e : α → List UInt8} {m : Nat} : ∀ (l : List α), (∀ x ∈ l, (e x).length ≤ m) → (l.flatMap e).length ≤ m * l.length
 | [], _ => by simp
 | x :: l, h => by
  have O := h x List.mem_cons_self
  have V := flat_len l (fun y M => h y (List.mem_cons_of_mem _ M))
  rw [List.flatMap_cons, List.length_append, List.length_cons, Nat.mul_succ]; omega
theorem wTopics_loop {B FB : Nat} {f : Fct} {S : List Nat} {w0 : World} (a4 : FPre S f FB w0) (M : vOk .topics f.topics) {l : List UInt8} (a5 : l.length ≤ 900000000) : ∀ (g i : Nat) (p v : Value) (G : SHeap), g + i = f.topics.length → KRep B (l ++ (f.topics.take i).flatMap fun s : BA => encS (bts s)) p v G →
  wTopics_c0 B FB (f.topics.length : Int) (i : Int) false ⟨#[]⟩ 0 p v G S w0 (DK (KOut B (l ++ f.topics.flatMap fun s : BA => encS (bts s)) (.tuple #[])) S w0)
 | 0, i, p, v, G, hg, h => by
  apply wTopics_c0_vc
  rw [List.take_of_length_le (by omega)] at h
  exact no (by omega) (dkFin ⟨_, _, _, rfl, rfl, h⟩)
 | g + 1, i, p, v, G, hg, h => by
  apply wTopics_c0_vc
  have hi : i < f.topics.length := by omega
  obtain ⟨cs, O, tp, tc, bp, bc, ap, ac, rfl, Z⟩ := a4
  obtain ⟨b, o, cc, e1, a0, a1⟩ := Z.tops.get hi
  have a3 := M.2 _ (List.getElem_mem hi)
  have a6 := flat_len (e := fun s : BA => encS (bts s)) (m := 65546) (f.topics.take i) (fun x V => by
   have := M.2 x (List.mem_of_mem_take V); have a2 := encS_len (bts x); rw [bts_len] at a2; omega)
  have a9 := M.1
  rw [List.length_take] at a6
  refine yes (by omega) ⟨_, tp, f.topics.length, tc, O.1, O.2, rfl, b, o, e1, by omega, ?_⟩
  refine CallH.effW0 (wWord_e a3 h (by rw [List.length_append]; have : 65546 * min i f.topics.length ≤ 65546 * 4 := Nat.mul_le_mul_left _ (by omega); omega)) (fun a8 a7 => ⟨cc, lkX_old a7 (fun x V => V) _ _ a0, by simpa using a1⟩) fun u F' ⟨p', v', G', hu, hL, hR⟩ => ⟨p', v', G', hu, hL, ?_⟩
  rw [wi64 (by omega), show (i : Int) + 1 = ((i + 1 : Nat) : Int) by omega]
  refine wTopics_loop ⟨_, O, tp, tc, bp, bc, ap, ac, rfl, Z⟩ M a5 g (i + 1) p' v' G' (by omega) ?_
  rw [flat_take hi, ← List.append_assoc]
  exact hR
theorem wTopics_e {B FB : Nat} {f : Fct} {l : List UInt8} {p v : Value} {G : SHeap} (O : vOk .topics f.topics) (h : KRep B l p v G) (a2 : l.length ≤ 800000000) :
  EffW TP 135 ⟨[.pointer (SO B), .pointer (some ⟨FB, 9, none⟩)]⟩ (kH B p v :: G) (FPre (nm B p v G) f FB) (KOut B (l ++ f.put .topics) (.tuple #[])) := by
 intro W hm Z
 obtain ⟨cs, M, tp, tc, bp, bc, ap, ac, rfl, V⟩ := Z
 have a0 := O.1
 have a1 := enc_len (f.topics.length : Int)
 refine wTopics_vc B FB ⟨#[]⟩ 0 p v G hm ⟨_, tp, f.topics.length, tc, M.1, M.2, rfl, ?_⟩
 refine CallH.effF (wCount_e (okI (by omega)) h (by omega)) fun u F' ⟨p', v', G', hu, hL, hR⟩ => ⟨_, p', v', G', hu, hL, _, tp, f.topics.length, tc, M.1, M.2, rfl, ?_⟩
 have := wTopics_loop (B := B) (f := f) ⟨_, M, tp, tc, bp, bc, ap, ac, rfl, V⟩ O (l := l ++ Wire.enc (f.topics.length : Int)) (by rw [List.length_append]; omega) f.topics.length 0 p' v' G' (by omega) (by simpa using hR)
 rw [List.append_assoc] at this
 exact this
theorem wBlocks_e {B FB : Nat} {f : Fct} {l : List UInt8} {p v : Value} {G : SHeap} (a0 : vOk .blocks f.blocks) (h : KRep B l p v G) (V : l.length ≤ 800000000) :
  EffW TP 137 ⟨[.pointer (SO B), .pointer (some ⟨FB, 10, none⟩)]⟩ (kH B p v :: G) (FPre (nm B p v G) f FB) (KOut B (l ++ f.put .blocks) (.tuple #[])) := by
 intro W hm a4
 obtain ⟨cs, Z, tp, tc, bp, bc, ap, ac, rfl, O⟩ := a4
 refine wBlocks_vc B FB ⟨#[]⟩ 0 p v G hm fun a1 => ⟨_, bp, f.blocks.length, bc, Z.1, Z.2, rfl, ?_⟩
 have a5 := encL_le a0
 have a3 : encAns f.blocks = .tuple #[.string (ba (encL f.blocks)), .int .i64 0] := by rw [encAns, if_pos (show listOk f.blocks = true from a0)]
 refine CallH.pw (v := encAns f.blocks) (fun a2 M => encode_c (O.blks.mono fun b c V => (lkX_old M (F := []) (by simp) b c V).2) O.cb) ⟨_, _, a3, rfl, ?_⟩
 refine CallH.effWT [(a1, .cells #[.string (ba (encL f.blocks))] 9)] (wWord_e (s := ba (encL f.blocks)) (by rw [ba_size]; omega) h (by omega)) (fun a2 M => ⟨_, lkX_in (c := [.string (ba (encL f.blocks))]) M (List.mem_singleton.2 rfl), rfl⟩) fun u F' ⟨p', v', G', hu, hL, hR⟩ => ⟨p', v', G', hu, by rw [hL]; rfl, ?_⟩
 rw [bts_mk] at hR
 exact dkSelT [_, kH B p' v'] [1] rfl ⟨_, _, _, rfl, rfl, hR⟩
theorem wLabel_loop {B FB : Nat} {f : Fct} {S : List Nat} {w0 : World} (a2 : FPre S f FB w0) (Z : vOk .label f.lab) {l : List UInt8} (a6 : l.length ≤ 900000000) : ∀ (g i : Nat) (p v : Value) (G : SHeap), g + i = f.lab.after.length → KRep B (l ++ (f.lab.after.take i).flatMap Wire.enc) p v G →
  wLabel_c0 B FB (f.lab.after.length : Int) (i : Int) false ⟨#[]⟩ 0 p v G S w0 (DK (KOut B (l ++ (f.lab.after.flatMap Wire.enc ++ (Wire.enc f.lab.appr ++ Wire.enc f.lab.den))) (.tuple #[])) S w0)
 | 0, i, p, v, G, hg, h => by
  apply wLabel_c0_vc
  rw [List.take_of_length_le (by omega)] at h
  obtain ⟨cs, M, tp, tc, bp, bc, ap, ac, rfl, a0⟩ := a2
  obtain ⟨b0, b1, b3, a7, a8⟩ := Z
  have a3 := flat_len (e := Wire.enc) (m := 10) f.lab.after (fun x _ => enc_len x)
  have k1 := enc_len f.lab.appr
  refine no (by omega) ?_
  refine CallH.effW0 (wNum_e a7 h (by rw [List.length_append]; omega)) (fun a1 O => ⟨_, lkX_old O (fun x V => V) _ _ M, rfl⟩) fun u F' ⟨p', v', G', hu, hL, hR⟩ => ⟨p', v', G', hu, hL, ?_⟩
  refine CallH.effW0 (wNum_e a8 hR (by simp only [List.length_append]; omega)) (fun a1 O => ⟨_, lkX_old O (fun x V => V) _ _ M, rfl⟩) fun u F' ⟨p', v', G', hu, hL, hR⟩ => ⟨p', v', G', hu, hL, dkFin ⟨_, _, _, rfl, rfl, ?_⟩⟩
  simpa only [List.append_assoc] using hR
 | g + 1, i, p, v, G, hg, h => by
  apply wLabel_c0_vc
  have hi : i < f.lab.after.length := by omega
  obtain ⟨cs, M, tp, tc, bp, bc, ap, ac, rfl, a0⟩ := a2
  obtain ⟨b, o, cc, e1, a4, a5⟩ := a0.ints.get hi
  have a3 := flat_len (e := Wire.enc) (m := 10) (f.lab.after.take i) (fun x _ => enc_len x)
  rw [List.length_take] at a3
  have a9 := Z.2.1
  refine yes (by omega) ⟨_, ap, f.lab.after.length, ac, M.1, M.2, rfl, b, o, e1, by omega, ?_⟩
  refine CallH.effW0 (wNum_e (Z.2.2.1 _ (List.getElem_mem hi)) h (by rw [List.length_append]; omega)) (fun a1 O => ⟨cc, lkX_old O (fun x V => V) _ _ a4, by simpa using a5⟩) fun u F' ⟨p', v', G', hu, hL, hR⟩ => ⟨p', v', G', hu, hL, ?_⟩
  rw [wi64 (by omega), show (i : Int) + 1 = ((i + 1 : Nat) : Int) by omega]
  refine wLabel_loop ⟨_, M, tp, tc, bp, bc, ap, ac, rfl, a0⟩ Z a6 g (i + 1) p' v' G' (by omega) ?_
  rw [flat_take hi, ← List.append_assoc]
  exact hR
theorem wLabel_e {B FB : Nat} {f : Fct} {l : List UInt8} {p v : Value} {G : SHeap} (a1 : vOk .label f.lab) (h : KRep B l p v G) (b1 : l.length ≤ 800000000) :
  EffW TP 139 ⟨[.pointer (SO B), .pointer (some ⟨FB, 11, none⟩)]⟩ (kH B p v :: G) (FPre (nm B p v G) f FB) (KOut B (l ++ f.put .label) (.tuple #[])) := by
 intro W hm O
 have Z := O
 obtain ⟨cs, M, tp, tc, bp, bc, ap, ac, rfl, b0⟩ := O
 obtain ⟨V, a3, a4, a5, a6⟩ := a1
 have a8 := enc_len (f.lab.after.length : Int)
 have a9 := enc_len f.lab.unt
 refine wLabel_vc B FB ⟨#[]⟩ 0 p v G hm ?_
 refine CallH.effW0 (wNum_e V h (by omega)) (fun a7 a0 => ⟨_, lkX_old a0 (fun x a2 => a2) _ _ M, rfl⟩) fun u F' ⟨p1, u1, G1, hu, hL, hR⟩ => ⟨p1, u1, G1, hu, hL, _, ap, f.lab.after.length, ac, M.1, M.2, rfl, ?_⟩
 refine CallH.effF (wCount_e (okI (by omega)) hR (by rw [List.length_append]; omega)) fun u F' ⟨p', v', G', hu, hL, hR⟩ => ⟨_, p', v', G', hu, hL, _, ap, f.lab.after.length, ac, M.1, M.2, rfl, ?_⟩
 have := wLabel_loop (B := B) Z ⟨V, a3, a4, a5, a6⟩ (l := l ++ Wire.enc f.lab.unt ++ Wire.enc (f.lab.after.length : Int)) (by simp only [List.length_append]; omega) f.lab.after.length 0 p' v' G' (by omega) (by simpa using hR)
 simp only [List.append_assoc] at this
 exact this
theorem wNumC_vc (i kn B d no : Nat) (b : BA) (a : Int) (g e : Value) (c : SHeap) (hm : Mem ((B, .cells #[.bool false, .string b, IV a, g, e] 105) :: c) S w0 W) (H : VP S w0 R (.r 1 <| .ex fun (j : List Value) => .lgs i 0 100 j (PP B) <| .ex fun (k : List Value) => .lgs kn 0 155 k (.pointer (some ⟨d, no, none⟩)) <| .cl 0 98 [PP B, .pointer (some ⟨d, no, none⟩)] ((B, .cells #[.bool false, .string b, IV a, g, e] 105) :: c) <| .x3 fun (h f : Value) F1 => .rt (.tuple #[]) ((B, .cells #[.bool false, .string b, IV a, h, f] 105) :: F1) <| .re 1 (.tuple #[]) ((B, .cells #[.bool false, .string b, IV a, h, f] 105) :: F1))) : Calls TP 130 ⟨[PP i, PP kn]⟩ W R := VC.cs Tryz.func130 hm _ H
theorem wWordC_vc (i kn B d no : Nat) (b : BA) (a : Int) (g e : Value) (c : SHeap) (hm : Mem ((B, .cells #[.bool false, .string b, IV a, g, e] 105) :: c) S w0 W) (H : VP S w0 R (.r 1 <| .ex fun (j : List Value) => .lgs i 0 100 j (PP B) <| .ex fun (k : List Value) => .lgs kn 0 192 k (.pointer (some ⟨d, no, none⟩)) <| .cl 0 133 [PP B, .pointer (some ⟨d, no, none⟩)] ((B, .cells #[.bool false, .string b, IV a, g, e] 105) :: c) <| .x3 fun (h f : Value) F1 => .rt (.tuple #[]) ((B, .cells #[.bool false, .string b, IV a, h, f] 105) :: F1) <| .re 1 (.tuple #[]) ((B, .cells #[.bool false, .string b, IV a, h, f] 105) :: F1))) : Calls TP 132 ⟨[PP i, PP kn]⟩ W R := VC.cs Tryz.func132 hm _ H
theorem wTopC_vc (i j B d : Nat) (b : BA) (a : Int) (g e : Value) (c : SHeap) (hm : Mem ((B, .cells #[.bool false, .string b, IV a, g, e] 105) :: c) S w0 W) (H : VP S w0 R (.dr 4 <| .ex fun (k : List Value) => .lgs i 0 100 k (PP B) <| .ex fun (l : List Value) => .lgs j 0 107 l (PP d) <| .qu [2] <| .dn <| .cl 0 135 [PP B, .pointer (some ⟨d, 9, none⟩)] ((B, .cells #[.bool false, .string b, IV a, g, e] 105) :: c) <| .x3 fun (h f : Value) F1 => .rt (.tuple #[]) ((B, .cells #[.bool false, .string b, IV a, h, f] 105) :: F1) <| .re 1 (.tuple #[]) ((B, .cells #[.bool false, .string b, IV a, h, f] 105) :: F1))) : Calls TP 134 ⟨[PP i, PP j]⟩ W R := VC.cs Tryz.func134 hm _ H
theorem wBlkC_vc (i j B d : Nat) (b : BA) (a : Int) (g e : Value) (c : SHeap) (hm : Mem ((B, .cells #[.bool false, .string b, IV a, g, e] 105) :: c) S w0 W) (H : VP S w0 R (.dr 4 <| .ex fun (k : List Value) => .lgs i 0 100 k (PP B) <| .ex fun (l : List Value) => .lgs j 0 107 l (PP d) <| .qu [2] <| .dn <| .cl 0 137 [PP B, .pointer (some ⟨d, 10, none⟩)] ((B, .cells #[.bool false, .string b, IV a, g, e] 105) :: c) <| .x3 fun (h f : Value) F1 => .rt (.tuple #[]) ((B, .cells #[.bool false, .string b, IV a, h, f] 105) :: F1) <| .re 1 (.tuple #[]) ((B, .cells #[.bool false, .string b, IV a, h, f] 105) :: F1))) : Calls TP 136 ⟨[PP i, PP j]⟩ W R := VC.cs Tryz.func136 hm _ H
theorem wLabC_vc (i j B d : Nat) (b : BA) (a : Int) (g e : Value) (c : SHeap) (hm : Mem ((B, .cells #[.bool false, .string b, IV a, g, e] 105) :: c) S w0 W) (H : VP S w0 R (.dr 4 <| .ex fun (k : List Value) => .lgs i 0 100 k (PP B) <| .ex fun (l : List Value) => .lgs j 0 107 l (PP d) <| .qu [2] <| .dn <| .cl 0 139 [PP B, .pointer (some ⟨d, 11, none⟩)] ((B, .cells #[.bool false, .string b, IV a, g, e] 105) :: c) <| .x3 fun (h f : Value) F1 => .rt (.tuple #[]) ((B, .cells #[.bool false, .string b, IV a, h, f] 105) :: F1) <| .re 1 (.tuple #[]) ((B, .cells #[.bool false, .string b, IV a, h, f] 105) :: F1))) : Calls TP 138 ⟨[PP i, PP j]⟩ W R := VC.cs Tryz.func138 hm _ H
theorem fNumB_vc (a no b : Nat) (hm : Mem [] [] w0 W) (H : VP [] w0 R (.np 2 (.cells #[.pointer (some ⟨a, no, none⟩)] 155) fun B => .re 7 (.func (.func 130) #[] #[PP b, PP B]) [(B, .cells #[.pointer (some ⟨a, no, none⟩)] 155)])) : Calls TP 129 ⟨[.pointer (some ⟨a, no, none⟩), PP b]⟩ W R := VC.cs Tryz.func129 hm _ H
theorem fWordB_vc (a no b : Nat) (hm : Mem [] [] w0 W) (H : VP [] w0 R (.np 2 (.cells #[.pointer (some ⟨a, no, none⟩)] 192) fun B => .re 7 (.func (.func 132) #[] #[PP b, PP B]) [(B, .cells #[.pointer (some ⟨a, no, none⟩)] 192)])) : Calls TP 131 ⟨[.pointer (some ⟨a, no, none⟩), PP b]⟩ W R := VC.cs Tryz.func131 hm _ H
theorem fFields_vc (B a : Nat) (hm : Mem [] [] w0 W) (H : VP [] w0 R (.np 2 (.cells #[PP B] 100) fun b => .np 0 (.cells #[PP a] 107) fun d => .ru [30,201] <| .cl 2 129 [.pointer (some ⟨a, 3, none⟩), PP b] [(b, .cells #[PP B] 100), (d, .cells #[PP a] 107)] <| .ex fun c => .rt (.func (.func 130) #[] #[PP b, PP c]) [(b, .cells #[PP B] 100), (d, .cells #[PP a] 107), (c, .cells #[.pointer (some ⟨a, 3, none⟩)] 155)] <| .hp [(b, .cells #[PP B] 100), (d, .cells #[PP a] 107), (c, .cells #[.pointer (some ⟨a, 3, none⟩)] 155)] fun l => .ru [5,201] <| .r 2 <| .x2 fun U f => .lW a 2 3 U (IV f) <| .P 7 25 (f = 1) (.r 2 <| .dD <| .nm [3,5,6,7,8,9,10] <| .ph 30 [0,1,2,3,4,6,7,8,9,11,12,13,14,16,17,18,19,21,22,23,24,26,27,28] [5,10,15,20,25,29] 3 <| .qu [2,101,3,101,3,101,3,101,3,101,5] <| .dn <| .cl 131 [.pointer (some ⟨a, 4, none⟩), PP b] l <| .ex fun e => .rt (.func (.func 132) #[] #[PP b, PP e]) [(b, .cells #[PP B] 100), (d, .cells #[PP a] 107), (c, .cells #[.pointer (some ⟨a, 3, none⟩)] 155), (e, .cells #[.pointer (some ⟨a, 4, none⟩)] 192)] <| .cl 129 [.pointer (some ⟨a, 5, none⟩), PP b] [(b, .cells #[PP B] 100), (d, .cells #[PP a] 107), (c, .cells #[.pointer (some ⟨a, 3, none⟩)] 155), (e, .cells #[.pointer (some ⟨a, 4, none⟩)] 192)] <| .ex fun g => .rt (.func (.func 130) #[] #[PP b, PP g]) [(b, .cells #[PP B] 100), (d, .cells #[PP a] 107), (c, .cells #[.pointer (some ⟨a, 3, none⟩)] 155), (e, .cells #[.pointer (some ⟨a, 4, none⟩)] 192), (g, .cells #[.pointer (some ⟨a, 5, none⟩)] 155)] <| .cl 129 [.pointer (some ⟨a, 6, none⟩), PP b] [(b, .cells #[PP B] 100), (d, .cells #[PP a] 107), (c, .cells #[.pointer (some ⟨a, 3, none⟩)] 155), (e, .cells #[.pointer (some ⟨a, 4, none⟩)] 192), (g, .cells #[.pointer (some ⟨a, 5, none⟩)] 155)] <| .ex fun j => .rt (.func (.func 130) #[] #[PP b, PP j]) [(b, .cells #[PP B] 100), (d, .cells #[PP a] 107), (c, .cells #[.pointer (some ⟨a, 3, none⟩)] 155), (e, .cells #[.pointer (some ⟨a, 4, none⟩)] 192), (g, .cells #[.pointer (some ⟨a, 5, none⟩)] 155), (j, .cells #[.pointer (some ⟨a, 6, none⟩)] 155)] <| .cl 131 [.pointer (some ⟨a, 7, none⟩), PP b] [(b, .cells #[PP B] 100), (d, .cells #[PP a] 107), (c, .cells #[.pointer (some ⟨a, 3, none⟩)] 155), (e, .cells #[.pointer (some ⟨a, 4, none⟩)] 192), (g, .cells #[.pointer (some ⟨a, 5, none⟩)] 155), (j, .cells #[.pointer (some ⟨a, 6, none⟩)] 155)] <| .ex fun p => .rt (.func (.func 132) #[] #[PP b, PP p]) [(b, .cells #[PP B] 100), (d, .cells #[PP a] 107), (c, .cells #[.pointer (some ⟨a, 3, none⟩)] 155), (e, .cells #[.pointer (some ⟨a, 4, none⟩)] 192), (g, .cells #[.pointer (some ⟨a, 5, none⟩)] 155), (j, .cells #[.pointer (some ⟨a, 6, none⟩)] 155), (p, .cells #[.pointer (some ⟨a, 7, none⟩)] 192)] <| .cl 131 [.pointer (some ⟨a, 8, none⟩), PP b] [(b, .cells #[PP B] 100), (d, .cells #[PP a] 107), (c, .cells #[.pointer (some ⟨a, 3, none⟩)] 155), (e, .cells #[.pointer (some ⟨a, 4, none⟩)] 192), (g, .cells #[.pointer (some ⟨a, 5, none⟩)] 155), (j, .cells #[.pointer (some ⟨a, 6, none⟩)] 155), (p, .cells #[.pointer (some ⟨a, 7, none⟩)] 192)] <| .ex fun y => .rt (.func (.func 132) #[] #[PP b, PP y]) [(b, .cells #[PP B] 100), (d, .cells #[PP a] 107), (c, .cells #[.pointer (some ⟨a, 3, none⟩)] 155), (e, .cells #[.pointer (some ⟨a, 4, none⟩)] 192), (g, .cells #[.pointer (some ⟨a, 5, none⟩)] 155), (j, .cells #[.pointer (some ⟨a, 6, none⟩)] 155), (p, .cells #[.pointer (some ⟨a, 7, none⟩)] 192), (y, .cells #[.pointer (some ⟨a, 8, none⟩)] 192)] <| .n2 9 (.cells #[.func (.func 130) #[] #[PP b, PP c], .func (.func 132) #[] #[PP b, PP e], .func (.func 130) #[] #[PP b, PP g], .func (.func 130) #[] #[PP b, PP j], .func (.func 132) #[] #[PP b, PP p], .func (.func 132) #[] #[PP b, PP y], .func (.func 134) #[] #[PP b, PP d], .func (.func 136) #[] #[PP b, PP d], .func (.func 138) #[] #[PP b, PP d]] 1) fun E => .dn <| .tl <| .re 2 (.slice (SO E) 9 9) [(b, .cells #[PP B] 100), (d, .cells #[PP a] 107), (c, .cells #[.pointer (some ⟨a, 3, none⟩)] 155), (e, .cells #[.pointer (some ⟨a, 4, none⟩)] 192), (g, .cells #[.pointer (some ⟨a, 5, none⟩)] 155), (j, .cells #[.pointer (some ⟨a, 6, none⟩)] 155), (p, .cells #[.pointer (some ⟨a, 7, none⟩)] 192), (y, .cells #[.pointer (some ⟨a, 8, none⟩)] 192), (E, .cells #[.func (.func 130) #[] #[PP b, PP c], .func (.func 132) #[] #[PP b, PP e], .func (.func 130) #[] #[PP b, PP g], .func (.func 130) #[] #[PP b, PP j], .func (.func 132) #[] #[PP b, PP p], .func (.func 132) #[] #[PP b, PP y], .func (.func 134) #[] #[PP b, PP d], .func (.func 136) #[] #[PP b, PP d], .func (.func 138) #[] #[PP b, PP d]] 1)]) <| .P 6 57 (f = 2) (.ru [5,201] <| .cl 2 129 [.pointer (some ⟨a, 15, none⟩), PP b] l <| .ex fun z => .rt (.func (.func 130) #[] #[PP b, PP z]) [(b, .cells #[PP B] 100), (d, .cells #[PP a] 107), (c, .cells #[.pointer (some ⟨a, 3, none⟩)] 155), (z, .cells #[.pointer (some ⟨a, 15, none⟩)] 155)] <| .ns false 2 (.cells #[.func (.func 130) #[] #[PP b, PP c], .func (.func 130) #[] #[PP b, PP z]] 1) fun F => .re 2 (.slice (SO F) 2 2) [(b, .cells #[PP B] 100), (d, .cells #[PP a] 107), (c, .cells #[.pointer (some ⟨a, 3, none⟩)] 155), (z, .cells #[.pointer (some ⟨a, 15, none⟩)] 155), (F, .cells #[.func (.func 130) #[] #[PP b, PP c], .func (.func 130) #[] #[PP b, PP z]] 1)]) <| .P 6 66 (f = 3) (.r 5 <| .ns false 2 (.cells #[.func (.func 130) #[] #[PP b, PP c], .func (.func 138) #[] #[PP b, PP d]] 1) fun G => .re 2 (.slice (SO G) 2 2) [(b, .cells #[PP B] 100), (d, .cells #[PP a] 107), (c, .cells #[.pointer (some ⟨a, 3, none⟩)] 155), (G, .cells #[.func (.func 130) #[] #[PP b, PP c], .func (.func 138) #[] #[PP b, PP d]] 1)]) <| .P 6 71 (f = 4) (.r 2 <| .dD <| .nm [3,5,6,10] <| .ph 22 [0,1,2,3,4,6,7,8,9,11,12,13,14,16,17,18,19] [5,10,15,20,21] 3 <| .qu [2,101,3,101,3,101,3,101,2] <| .dn <| .cl 131 [.pointer (some ⟨a, 4, none⟩), PP b] l <| .ex fun h => .rt (.func (.func 132) #[] #[PP b, PP h]) [(b, .cells #[PP B] 100), (d, .cells #[PP a] 107), (c, .cells #[.pointer (some ⟨a, 3, none⟩)] 155), (h, .cells #[.pointer (some ⟨a, 4, none⟩)] 192)] <| .cl 129 [.pointer (some ⟨a, 16, none⟩), PP b] [(b, .cells #[PP B] 100), (d, .cells #[PP a] 107), (c, .cells #[.pointer (some ⟨a, 3, none⟩)] 155), (h, .cells #[.pointer (some ⟨a, 4, none⟩)] 192)] <| .ex fun k => .rt (.func (.func 130) #[] #[PP b, PP k]) [(b, .cells #[PP B] 100), (d, .cells #[PP a] 107), (c, .cells #[.pointer (some ⟨a, 3, none⟩)] 155), (h, .cells #[.pointer (some ⟨a, 4, none⟩)] 192), (k, .cells #[.pointer (some ⟨a, 16, none⟩)] 155)] <| .cl 129 [.pointer (some ⟨a, 17, none⟩), PP b] [(b, .cells #[PP B] 100), (d, .cells #[PP a] 107), (c, .cells #[.pointer (some ⟨a, 3, none⟩)] 155), (h, .cells #[.pointer (some ⟨a, 4, none⟩)] 192), (k, .cells #[.pointer (some ⟨a, 16, none⟩)] 155)] <| .ex fun q => .rt (.func (.func 130) #[] #[PP b, PP q]) [(b, .cells #[PP B] 100), (d, .cells #[PP a] 107), (c, .cells #[.pointer (some ⟨a, 3, none⟩)] 155), (h, .cells #[.pointer (some ⟨a, 4, none⟩)] 192), (k, .cells #[.pointer (some ⟨a, 16, none⟩)] 155), (q, .cells #[.pointer (some ⟨a, 17, none⟩)] 155)] <| .cl 131 [.pointer (some ⟨a, 18, none⟩), PP b] [(b, .cells #[PP B] 100), (d, .cells #[PP a] 107), (c, .cells #[.pointer (some ⟨a, 3, none⟩)] 155), (h, .cells #[.pointer (some ⟨a, 4, none⟩)] 192), (k, .cells #[.pointer (some ⟨a, 16, none⟩)] 155), (q, .cells #[.pointer (some ⟨a, 17, none⟩)] 155)] <| .ex fun s => .rt (.func (.func 132) #[] #[PP b, PP s]) [(b, .cells #[PP B] 100), (d, .cells #[PP a] 107), (c, .cells #[.pointer (some ⟨a, 3, none⟩)] 155), (h, .cells #[.pointer (some ⟨a, 4, none⟩)] 192), (k, .cells #[.pointer (some ⟨a, 16, none⟩)] 155), (q, .cells #[.pointer (some ⟨a, 17, none⟩)] 155), (s, .cells #[.pointer (some ⟨a, 18, none⟩)] 192)] <| .n2 5 (.cells #[.func (.func 130) #[] #[PP b, PP c], .func (.func 132) #[] #[PP b, PP h], .func (.func 130) #[] #[PP b, PP k], .func (.func 130) #[] #[PP b, PP q], .func (.func 132) #[] #[PP b, PP s]] 1) fun M => .dn <| .tl <| .re 2 (.slice (SO M) 5 5) [(b, .cells #[PP B] 100), (d, .cells #[PP a] 107), (c, .cells #[.pointer (some ⟨a, 3, none⟩)] 155), (h, .cells #[.pointer (some ⟨a, 4, none⟩)] 192), (k, .cells #[.pointer (some ⟨a, 16, none⟩)] 155), (q, .cells #[.pointer (some ⟨a, 17, none⟩)] 155), (s, .cells #[.pointer (some ⟨a, 18, none⟩)] 192), (M, .cells #[.func (.func 130) #[] #[PP b, PP c], .func (.func 132) #[] #[PP b, PP h], .func (.func 130) #[] #[PP b, PP k], .func (.func 130) #[] #[PP b, PP q], .func (.func 132) #[] #[PP b, PP s]] 1)]) <| .P 6 95 (f = 5) (.ru [5,201] <| .cl 2 131 [.pointer (some ⟨a, 18, none⟩), PP b] l <| .ex fun t => .rt (.func (.func 132) #[] #[PP b, PP t]) [(b, .cells #[PP B] 100), (d, .cells #[PP a] 107), (c, .cells #[.pointer (some ⟨a, 3, none⟩)] 155), (t, .cells #[.pointer (some ⟨a, 18, none⟩)] 192)] <| .ns false 2 (.cells #[.func (.func 130) #[] #[PP b, PP c], .func (.func 132) #[] #[PP b, PP t]] 1) fun N => .re 2 (.slice (SO N) 2 2) [(b, .cells #[PP B] 100), (d, .cells #[PP a] 107), (c, .cells #[.pointer (some ⟨a, 3, none⟩)] 155), (t, .cells #[.pointer (some ⟨a, 18, none⟩)] 192), (N, .cells #[.func (.func 130) #[] #[PP b, PP c], .func (.func 132) #[] #[PP b, PP t]] 1)]) <| .P 7 104 (f = 6) (.r 6 <| .ns false 1 (.cells #[.func (.func 130) #[] #[PP b, PP c]] 1) fun O => .re 2 (.slice (SO O) 1 1) [(b, .cells #[PP B] 100), (d, .cells #[PP a] 107), (c, .cells #[.pointer (some ⟨a, 3, none⟩)] 155), (O, .cells #[.func (.func 130) #[] #[PP b, PP c]] 1)]) <| .P 5 104 (f = 10) (.r 4 <| .ns false 1 (.cells #[.func (.func 130) #[] #[PP b, PP c]] 1) fun Q => .re 2 (.slice (SO Q) 1 1) [(b, .cells #[PP B] 100), (d, .cells #[PP a] 107), (c, .cells #[.pointer (some ⟨a, 3, none⟩)] 155), (Q, .cells #[.func (.func 130) #[] #[PP b, PP c]] 1)]) <| .P 6 109 (f = 7) (.r 2 <| .dD <| .nm [3,6] <| .ph 11 [0,1,2,3,5,6,7,8] [4,9,10] 3 <| .qu [1,101,3,101,2] <| .dn <| .cl 131 [.pointer (some ⟨a, 19, none⟩), PP b] l <| .ex fun m => .rt (.func (.func 132) #[] #[PP b, PP m]) [(b, .cells #[PP B] 100), (d, .cells #[PP a] 107), (c, .cells #[.pointer (some ⟨a, 3, none⟩)] 155), (m, .cells #[.pointer (some ⟨a, 19, none⟩)] 192)] <| .cl 131 [.pointer (some ⟨a, 18, none⟩), PP b] [(b, .cells #[PP B] 100), (d, .cells #[PP a] 107), (c, .cells #[.pointer (some ⟨a, 3, none⟩)] 155), (m, .cells #[.pointer (some ⟨a, 19, none⟩)] 192)] <| .ex fun u => .rt (.func (.func 132) #[] #[PP b, PP u]) [(b, .cells #[PP B] 100), (d, .cells #[PP a] 107), (c, .cells #[.pointer (some ⟨a, 3, none⟩)] 155), (m, .cells #[.pointer (some ⟨a, 19, none⟩)] 192), (u, .cells #[.pointer (some ⟨a, 18, none⟩)] 192)] <| .n2 2 (.cells #[.func (.func 132) #[] #[PP b, PP m], .func (.func 132) #[] #[PP b, PP u]] 1) fun A => .dn <| .tl <| .re 2 (.slice (SO A) 2 2) [(b, .cells #[PP B] 100), (d, .cells #[PP a] 107), (c, .cells #[.pointer (some ⟨a, 3, none⟩)] 155), (m, .cells #[.pointer (some ⟨a, 19, none⟩)] 192), (u, .cells #[.pointer (some ⟨a, 18, none⟩)] 192), (A, .cells #[.func (.func 132) #[] #[PP b, PP m], .func (.func 132) #[] #[PP b, PP u]] 1)]) <| .P 6 122 (f = 8) (.r 2 <| .dD <| .nm [3,5] <| .ph 16 [0,1,2,3,5,6,7,8,10,11,12,13] [4,9,14,15] 3 <| .qu [1,101,3,101,3,101,2] <| .dn <| .cl 129 [.pointer (some ⟨a, 20, none⟩), PP b] l <| .ex fun i => .rt (.func (.func 130) #[] #[PP b, PP i]) [(b, .cells #[PP B] 100), (d, .cells #[PP a] 107), (c, .cells #[.pointer (some ⟨a, 3, none⟩)] 155), (i, .cells #[.pointer (some ⟨a, 20, none⟩)] 155)] <| .cl 129 [.pointer (some ⟨a, 21, none⟩), PP b] [(b, .cells #[PP B] 100), (d, .cells #[PP a] 107), (c, .cells #[.pointer (some ⟨a, 3, none⟩)] 155), (i, .cells #[.pointer (some ⟨a, 20, none⟩)] 155)] <| .ex fun n => .rt (.func (.func 130) #[] #[PP b, PP n]) [(b, .cells #[PP B] 100), (d, .cells #[PP a] 107), (c, .cells #[.pointer (some ⟨a, 3, none⟩)] 155), (i, .cells #[.pointer (some ⟨a, 20, none⟩)] 155), (n, .cells #[.pointer (some ⟨a, 21, none⟩)] 155)] <| .cl 129 [.pointer (some ⟨a, 22, none⟩), PP b] [(b, .cells #[PP B] 100), (d, .cells #[PP a] 107), (c, .cells #[.pointer (some ⟨a, 3, none⟩)] 155), (i, .cells #[.pointer (some ⟨a, 20, none⟩)] 155), (n, .cells #[.pointer (some ⟨a, 21, none⟩)] 155)] <| .ex fun w => .rt (.func (.func 130) #[] #[PP b, PP w]) [(b, .cells #[PP B] 100), (d, .cells #[PP a] 107), (c, .cells #[.pointer (some ⟨a, 3, none⟩)] 155), (i, .cells #[.pointer (some ⟨a, 20, none⟩)] 155), (n, .cells #[.pointer (some ⟨a, 21, none⟩)] 155), (w, .cells #[.pointer (some ⟨a, 22, none⟩)] 155)] <| .n2 3 (.cells #[.func (.func 130) #[] #[PP b, PP i], .func (.func 130) #[] #[PP b, PP n], .func (.func 130) #[] #[PP b, PP w]] 1) fun C => .dn <| .tl <| .re 2 (.slice (SO C) 3 3) [(b, .cells #[PP B] 100), (d, .cells #[PP a] 107), (c, .cells #[.pointer (some ⟨a, 3, none⟩)] 155), (i, .cells #[.pointer (some ⟨a, 20, none⟩)] 155), (n, .cells #[.pointer (some ⟨a, 21, none⟩)] 155), (w, .cells #[.pointer (some ⟨a, 22, none⟩)] 155), (C, .cells #[.func (.func 130) #[] #[PP b, PP i], .func (.func 130) #[] #[PP b, PP n], .func (.func 130) #[] #[PP b, PP w]] 1)]) <| .P 6 140 (f = 9) (.r 2 <| .dD <| .nm [3,5] <| .ph 11 [0,1,2,3,5,6,7,8] [4,9,10] 3 <| .qu [1,101,3,101,2] <| .dn <| .cl 129 [.pointer (some ⟨a, 20, none⟩), PP b] l <| .ex fun o => .rt (.func (.func 130) #[] #[PP b, PP o]) [(b, .cells #[PP B] 100), (d, .cells #[PP a] 107), (c, .cells #[.pointer (some ⟨a, 3, none⟩)] 155), (o, .cells #[.pointer (some ⟨a, 20, none⟩)] 155)] <| .cl 129 [.pointer (some ⟨a, 22, none⟩), PP b] [(b, .cells #[PP B] 100), (d, .cells #[PP a] 107), (c, .cells #[.pointer (some ⟨a, 3, none⟩)] 155), (o, .cells #[.pointer (some ⟨a, 20, none⟩)] 155)] <| .ex fun x => .rt (.func (.func 130) #[] #[PP b, PP x]) [(b, .cells #[PP B] 100), (d, .cells #[PP a] 107), (c, .cells #[.pointer (some ⟨a, 3, none⟩)] 155), (o, .cells #[.pointer (some ⟨a, 20, none⟩)] 155), (x, .cells #[.pointer (some ⟨a, 22, none⟩)] 155)] <| .n2 2 (.cells #[.func (.func 130) #[] #[PP b, PP o], .func (.func 130) #[] #[PP b, PP x]] 1) fun D => .dn <| .tl <| .re 2 (.slice (SO D) 2 2) [(b, .cells #[PP B] 100), (d, .cells #[PP a] 107), (c, .cells #[.pointer (some ⟨a, 3, none⟩)] 155), (o, .cells #[.pointer (some ⟨a, 20, none⟩)] 155), (x, .cells #[.pointer (some ⟨a, 22, none⟩)] 155), (D, .cells #[.func (.func 130) #[] #[PP b, PP o], .func (.func 130) #[] #[PP b, PP x]] 1)]) <| .re 7 (.slice none 0 0) l)) : Calls TP 99 ⟨[PP B, PP a]⟩ W R := VC.cs Tryz.func99 hm _ H
def wFact_c0 (a : Nat) (j : OA) (i h : Nat) (k l : Int) (c : Bool) (d : BA) (e : Int) (f : Value) (g : Value) (b : SHeap) (S : List Nat) (w0 : World) (R : Ending → World → Prop) : Prop :=
 AtE TP 59 38 (KC Tryz.f59 508) [(29, .slice j i h), (30, IV k), (31, IV l)] ((a, .cells #[.bool c, .string d, IV e, f, g] 105) :: b) S w0 (nrm R)
theorem wFact_c0_vc (d : Nat) (A : OA) (q x : Nat) (y a : Int) (e : Bool) (f : BA) (g : Int) (m : Value) (n : Value) (k : SHeap)
 (H :
 Br (a < y)
 (∃ h c : Nat, A = some ⟨h, c, none⟩ ∧
 (0 ≤ a ∧ a < q) ∧
 ∃ (w : List Value) (p : Value), (∃ N C, (h, Obj.cells ⟨w⟩ N C) ∈ ((d, .cells #[.bool e, .string f, IV g, m, n] 105) :: k)) ∧ w[(c + (Int.toNat a))]? = some (p) ∧
 ∃ (j : Nat) (l : List Value), p = .func (.func j) ⟨[]⟩ ⟨l⟩ ∧ FnReady TP j ∧
 CallP TP j ⟨[] ++ l⟩ ((d, .cells #[.bool e, .string f, IV g, m, n] 105) :: k) S w0 (fun v L' => ∃ (u : Value) (t : Value), ∃ s, v = .tuple #[] ∧ L' = ((d, .cells #[.bool e, .string f, IV g, u, t] 105) :: s) ∧
 wFact_c0 d (some ⟨h, c, none⟩) q x y (IntKind.i64.wrap (a + (1 : Int))) e f g u t s S w0 R) (fun z L' => FinP R L' S w0 z))
 (Fin R ((d, .cells #[.bool e, .string f, IV g, m, n] 105) :: k) S w0 (.tuple #[]))) :
 wFact_c0 d A q x y a e f g m n k S w0 R:= by
 unfold wFact_c0
 refine .ru 5 (.sP 32 H ?_ ?_) <;> clear H <;> intro H
 ·refine .ru 6 ?_
  obtain ⟨h, c, rfl, H⟩ := H
  refine .indexAddrL (E := 1) (b := h) (o := c) (len := q) (cap := x) (sz := 1) (o' := (c + (Int.toNat a))) (kd := .i64) (i := a) (by kernel_rfl) H.1 (by omega) ?_
  replace H := H.2
  obtain ⟨w, p, G, M, H⟩ := H
  refine .loadT (b := h) (off := (c + (Int.toNat a))) (T := 1) (v := p) (by kernel_rfl) G (valAt_one M (by kernel_rfl)) (.ru 4 ?_)
  obtain ⟨j, l, rfl, F, H⟩ := H
  refine .callV j [] l [] (by kernel_rfl) F H ?_ (fun z L' D => RaiseE.nrm Tryz.func59 D)
  clear H
  rintro _ _ ⟨u, t, s, rfl, rfl, H⟩
  refine .ru 7 (.tT [0] 1 H)
 ·refine .ru 2 (.rt Tryz.func59 H)
theorem wFact_vc (B e : Nat) (b : BA) (a : Int) (u : Value) (s : Value) (q : SHeap) (hm : Mem ((B, .cells #[.bool false, .string b, IV a, u, s] 105) :: q) S w0 W)
 (H :
 CallH TP 98 ⟨[PP B, PP e]⟩ ((B, .cells #[.bool false, .string b, IV a, u, s] 105) :: q) S w0 (fun v L' => ∃ (m : Value) (k : Value), ∃ h, v = .tuple #[] ∧ L' = ((B, .cells #[.bool false, .string b, IV a, m, k] 105) :: h) ∧
 CallH TP 98 ⟨[PP B, .pointer (some ⟨e, 1, none⟩)]⟩ ((B, .cells #[.bool false, .string b, IV a, m, k] 105) :: h) S w0 (fun v L' => ∃ (n : Value) (l : Value), ∃ i, v = .tuple #[] ∧ L' = ((B, .cells #[.bool false, .string b, IV a, n, l] 105) :: i) ∧
 CallH TP 98 ⟨[PP B, .pointer (some ⟨e, 2, none⟩)]⟩ ((B, .cells #[.bool false, .string b, IV a, n, l] 105) :: i) S w0 (fun v L' => ∃ (d : Value) (c : Value), ∃ j, v = .tuple #[] ∧ L' = ((B, .cells #[.bool false, .string b, IV a, d, c] 105) :: j) ∧
 CallH TP 99 ⟨[PP B, PP e]⟩ ((B, .cells #[.bool false, .string b, IV a, d, c] 105) :: j) S w0 (fun v L' => ∃ (p : OA) (f : Nat) (o : Nat), ∃ g, v = (.slice p f o) ∧ L' = ((B, .cells #[.bool false, .string b, IV a, d, c] 105) :: g) ∧
 Br ((f : Int) = (0 : Int))
 (FinP R ((B, .cells #[.bool false, .string b, IV a, d, c] 105) :: g) S w0 [{ v := .iface 25 (IV 50), recovered := false }])
 (wFact_c0 B p f o (f : Int) (0 : Int) false b a d c g S w0 R)))))) :
 Calls TP 59 ⟨[PP B, PP e]⟩ W R:= by
 refine AtE.cs 38 Tryz.func59 hm (.ru 6 (.cl H ?_))
 rintro _ _ ⟨m, k, h, rfl, rfl, H⟩
 refine .ru 7 (.cl H ?_)
 rintro _ _ ⟨n, l, i, rfl, rfl, H⟩
 refine .ru 7 (.cl H ?_)
 rintro _ _ ⟨d, c, j, rfl, rfl, H⟩
 refine .ru 5 (.cl H ?_)
 rintro _ _ ⟨p, f, o, g, rfl, rfl, H⟩
 refine .ru 9 (.sP 27 H (fun H => ?_) fun H => ?_)
 ·refine .ru 3 (.panic (t := 25) (v := IV 50) (by kernel_rfl) ?_)
  exact RaiseE.nrm Tryz.func59 H
 ·refine .ru 10 (.tT [0] 1 H)
abbrev zF17aa (a : Fct) (b x2 x3 : Nat) (x4 x5 c : OA) : Array Value := #[IV a.n, IV a.time, IV a.kind, IV a.story, .string a.lang, IV a.rev, IV a.base, .string a.title, .string a.author, .slice x4 a.topics.length b, .slice x5 a.blocks.length x2, IV a.lab.unt, .slice c a.lab.after.length x3, IV a.lab.appr, IV a.lab.den, IV a.editor, IV a.block, IV a.sentence, .string a.text, .string a.name, IV a.partner, IV a.cls, IV a.unt]
theorem fEncode_vc (a : Fct) (g : OA) (f : Nat) (e : OA) (d : Nat) (c : OA) (b : Nat) (hm : Mem [] [] w0 W) (H : VP [] w0 R (.np 2 (.cells (zF17aa a f d b g e c) 38) fun B => .hp [(B, .cells (zF17aa a f d b g e c) 38)] fun i => .ru [6,200] <| .cl 0 24 [.agg (zF17aa a f d b g e c)] i <| .ex fun m => .rt (.bool m) i <| .B 0 6 m (.np 7 (.cells #[.bool false, sZ, IV 0, .pointer none, .slice none 0 0] 105) fun h => .cl 5 59 [PP h, PP B] [(B, .cells (zF17aa a f d b g e c) 38), (h, .cells #[.bool false, sZ, IV 0, .pointer none, .slice none 0 0] 105)] <| .x3 fun (l k : Value) F => .rt (.tuple #[]) ((B, .cells (zF17aa a f d b g e c) 38) :: (h, .cells #[.bool false, sZ, IV 0, l, k] 105) :: F) <| .cl 6 60 [.pointer (some ⟨h, 3, none⟩)] ((B, .cells (zF17aa a f d b g e c) 38) :: (h, .cells #[.bool false, sZ, IV 0, l, k] 105) :: F) <| .x2 fun n j => .rt (.string n) ((B, .cells (zF17aa a f d b g e c) 38) :: j) <| .re 3 (.tuple #[.string n, IV 0]) ((B, .cells (zF17aa a f d b g e c) 38) :: j)) <| .re 8 (.tuple #[sZ, IV 50]) i)) : Calls TP 20 ⟨[.agg (zF17aa a f d b g e c)]⟩ W R := VC.cs Tryz.func20 hm _ H
abbrev pt (B o : Nat) : Value := .pointer (some ⟨B, o, none⟩)
abbrev cloV (g kc kn : Nat) : Value := .func (.func g) #[] #[pt kc 0, pt kn 0]
def CloAt (F : SHeap) (B FB : Nat) (x : Fld) (v : Value) : Prop :=
  ∃ kc kn, (kc, .cells #[pt B 0] 100) ∈ F ∧
    ((x.ty = .int ∧ v = cloV 130 kc kn ∧ (kn, .cells #[pt FB x.off] 155) ∈ F) ∨
     (x.ty = .str ∧ v = cloV 132 kc kn ∧ (kn, .cells #[pt FB x.off] 192) ∈ F) ∨
     (x = .topics ∧ v = cloV 134 kc kn ∧ (kn, .cells #[pt FB 0] 107) ∈ F) ∨
     (x = .blocks ∧ v = cloV 136 kc kn ∧ (kn, .cells #[pt FB 0] 107) ∈ F) ∨
     (x = .label ∧ v = cloV 138 kc kn ∧ (kn, .cells #[pt FB 0] 107) ∈ F))
def Clos (F : SHeap) (B FB : Nat) : List Fld → List Value → Prop
 | [], [] => True
 | x :: l, v :: vs => CloAt F B FB x v ∧ Clos F B FB l vs
 | _, _ => False
theorem Clos.len {F : SHeap} {B FB : Nat} : ∀ {l : List Fld} {vs : List Value}, Clos F B FB l vs → vs.length = l.length
 | [], [], _ => rfl
 | x :: l, v :: vs, h => by rw [List.length_cons, List.length_cons, Clos.len h.2]
 | [], _ :: _, h => h.elim
 | _ :: _, [], h => h.elim
theorem Clos.get {F : SHeap} {B FB : Nat} : ∀ {l : List Fld} {vs : List Value} (i : Nat) (hi : i < l.length), Clos F B FB l vs → ∃ v, vs[i]? = some v ∧ CloAt F B FB l[i] v
 | x :: l, v :: vs, 0, _, h => ⟨v, rfl, h.1⟩
 | x :: l, v :: vs, i + 1, hi, h => by
  obtain ⟨u, M, O⟩ := Clos.get i (by simpa using hi) h.2
  exact ⟨u, by simpa using M, by simpa using O⟩
 | [], _, i, hi, _ => absurd hi (by simp)
 | _ :: _, [], _, _, h => h.elim
def FieldsOut (F : SHeap) (B FB : Nat) (k : Int) (v : Value) : Prop :=
 (kfields k = [] ∧ v = .slice none 0 0) ∨ ∃ Bs vs, v = .slice (SO Bs) (kfields k).length (kfields k).length ∧ (Bs, .cells ⟨vs⟩ 1) ∈ F ∧ Clos F B FB (kfields k) vs
theorem CallH.more {L : SHeap} (h : EffC P g args [] K) (M : ∀ v F, K v F → K' v (L ++ F)) : CallH P g args L S w0 K' :=
 CallH.eff (L0 := []) (L1 := L) h (by simp) fun v L' O => ⟨L ++ L', List.perm_append_comm, M v L' O⟩
theorem numB_e (M no kc : Nat) : EffC TP 129 ⟨[pt M no, pt kc 0]⟩ [] (fun v F => ∃ O, v = cloV 130 kc O ∧ F = [(O, .cells #[pt M no] 155)]) :=
 fun W hm => fNumB_vc M no kc hm fun B => dkFin ⟨B, rfl, rfl⟩
theorem wordB_e (M no kc : Nat) : EffC TP 131 ⟨[pt M no, pt kc 0]⟩ [] (fun v F => ∃ O, v = cloV 132 kc O ∧ F = [(O, .cells #[pt M no] 192)]) :=
 fun W hm => fWordB_vc M no kc hm fun B => dkFin ⟨B, rfl, rfl⟩
theorem cloI {F : SHeap} {B FB kc kn : Nat} {x : Fld} (M : (kc, .cells #[pt B 0] 100) ∈ F) (O : (kn, .cells #[pt FB x.off] 155) ∈ F) (V : x.ty = .int) : CloAt F B FB x (cloV 130 kc kn) := ⟨kc, kn, M, .inl ⟨V, rfl, O⟩⟩
theorem cloS {F : SHeap} {B FB kc kn : Nat} {x : Fld} (M : (kc, .cells #[pt B 0] 100) ∈ F) (O : (kn, .cells #[pt FB x.off] 192) ∈ F) (V : x.ty = .str) : CloAt F B FB x (cloV 132 kc kn) := ⟨kc, kn, M, .inr (.inl ⟨V, rfl, O⟩)⟩
theorem cloT {F : SHeap} {B FB kc kn : Nat} (M : (kc, .cells #[pt B 0] 100) ∈ F) (O : (kn, .cells #[pt FB 0] 107) ∈ F) : CloAt F B FB .topics (cloV 134 kc kn) := ⟨kc, kn, M, .inr (.inr (.inl ⟨rfl, rfl, O⟩))⟩
theorem cloB {F : SHeap} {B FB kc kn : Nat} (M : (kc, .cells #[pt B 0] 100) ∈ F) (O : (kn, .cells #[pt FB 0] 107) ∈ F) : CloAt F B FB .blocks (cloV 136 kc kn) := ⟨kc, kn, M, .inr (.inr (.inr (.inl ⟨rfl, rfl, O⟩)))⟩
theorem cloL {F : SHeap} {B FB kc kn : Nat} (M : (kc, .cells #[pt B 0] 100) ∈ F) (O : (kn, .cells #[pt FB 0] 107) ∈ F) : CloAt F B FB .label (cloV 138 kc kn) := ⟨kc, kn, M, .inr (.inr (.inr (.inr ⟨rfl, rfl, O⟩)))⟩
theorem fieldsOk {F : SHeap} {B FB Bs : Nat} {k : Int} {l : List Fld} {vs : List Value} (h : kfields k = l) (hm : F.getLast? = some (Bs, .cells ⟨vs⟩ 1)) (M : Clos F B FB l vs) : FieldsOut F B FB k (.slice (SO Bs) l.length l.length) :=
 .inr ⟨Bs, vs, by rw [h], List.mem_of_getLast? hm, by rw [h]; exact M⟩
theorem fields_e {B FB : Nat} {k : Int} : EffW TP 99 ⟨[pt B 0, pt FB 0]⟩ [] (fun W => ∃ cs, blkW W FB = some cs ∧ cs[2]? = some (.int .i64 k)) (fun v F => FieldsOut F B FB k v) := by
 rintro W hm ⟨cs, a5, a6⟩
 refine fFields_vc B FB hm fun a7 B2 => CallH.more (numB_e _ _ _) fun v F ⟨nb, hv, hF⟩ => ⟨nb, hv, by rw [hF]; rfl, cs, k, a5, a6, ?_⟩
 refine ⟨fun e => ?_, fun e1 => ⟨fun e => ?_, fun O => ⟨fun e => ?_, fun V => ⟨fun e => ?_, fun Z => ⟨fun e => ?_, fun a0 => ⟨fun e => ?_, fun a1 => ⟨fun e => ?_, fun M => ⟨fun e => ?_, fun a2 => ⟨fun e => ?_, fun a3 => ⟨fun e => ?_, fun a4 => ?_⟩⟩⟩⟩⟩⟩⟩⟩⟩⟩
 ·refine CallH.more (wordB_e _ _ _) fun v F ⟨n1, hv, hF⟩ => ⟨n1, hv, by rw [hF]; rfl, ?_⟩
  refine CallH.more (numB_e _ _ _) fun v F ⟨n2, hv, hF⟩ => ⟨n2, hv, by rw [hF]; rfl, ?_⟩
  refine CallH.more (numB_e _ _ _) fun v F ⟨n3, hv, hF⟩ => ⟨n3, hv, by rw [hF]; rfl, ?_⟩
  refine CallH.more (wordB_e _ _ _) fun v F ⟨n4, hv, hF⟩ => ⟨n4, hv, by rw [hF]; rfl, ?_⟩
  refine CallH.more (wordB_e _ _ _) fun v F ⟨n5, hv, hF⟩ => ⟨n5, hv, by rw [hF]; rfl, fun B3 => dkFin ?_⟩
  exact fieldsOk (l := [.story, .lang, .rev, .base, .title, .author, .topics, .blocks, .label]) (by rw [e]; rfl) rfl ⟨cloI (by simp) (by simp [Fld.off]) rfl, cloS (by simp) (by simp [Fld.off]) rfl, cloI (by simp) (by simp [Fld.off]) rfl, cloI (by simp) (by simp [Fld.off]) rfl, cloS (by simp) (by simp [Fld.off]) rfl, cloS (by simp) (by simp [Fld.off]) rfl, cloT (by simp) (by simp), cloB (by simp) (by simp), cloL (by simp) (by simp), trivial⟩
 ·refine CallH.more (numB_e _ _ _) fun v F ⟨n1, hv, hF⟩ => ⟨n1, hv, by rw [hF]; rfl, fun B3 => dkFin ?_⟩
  exact fieldsOk (l := [.story, .editor]) (by rw [e]; rfl) rfl ⟨cloI (by simp) (by simp [Fld.off]) rfl, cloI (by simp) (by simp [Fld.off]) rfl, trivial⟩
 ·exact fun B3 => dkFin (fieldsOk (l := [.story, .label]) (by rw [e]; rfl) rfl ⟨cloI (by simp) (by simp [Fld.off]) rfl, cloL (by simp) (by simp), trivial⟩)
 ·refine CallH.more (wordB_e _ _ _) fun v F ⟨n1, hv, hF⟩ => ⟨n1, hv, by rw [hF]; rfl, ?_⟩
  refine CallH.more (numB_e _ _ _) fun v F ⟨n2, hv, hF⟩ => ⟨n2, hv, by rw [hF]; rfl, ?_⟩
  refine CallH.more (numB_e _ _ _) fun v F ⟨n3, hv, hF⟩ => ⟨n3, hv, by rw [hF]; rfl, ?_⟩
  refine CallH.more (wordB_e _ _ _) fun v F ⟨n4, hv, hF⟩ => ⟨n4, hv, by rw [hF]; rfl, fun B3 => dkFin ?_⟩
  exact fieldsOk (l := [.story, .lang, .block, .sentence, .text]) (by rw [e]; rfl) rfl ⟨cloI (by simp) (by simp [Fld.off]) rfl, cloS (by simp) (by simp [Fld.off]) rfl, cloI (by simp) (by simp [Fld.off]) rfl, cloI (by simp) (by simp [Fld.off]) rfl, cloS (by simp) (by simp [Fld.off]) rfl, trivial⟩
 ·refine CallH.more (wordB_e _ _ _) fun v F ⟨n1, hv, hF⟩ => ⟨n1, hv, by rw [hF]; rfl, fun B3 => dkFin ?_⟩
  exact fieldsOk (l := [.story, .text]) (by rw [e]; rfl) rfl ⟨cloI (by simp) (by simp [Fld.off]) rfl, cloS (by simp) (by simp [Fld.off]) rfl, trivial⟩
 ·exact fun B3 => dkFin (fieldsOk (l := [.story]) (by rw [e]; rfl) rfl ⟨cloI (by simp) (by simp [Fld.off]) rfl, trivial⟩)
 ·exact fun B3 => dkFin (fieldsOk (l := [.story]) (by rw [e]; rfl) rfl ⟨cloI (by simp) (by simp [Fld.off]) rfl, trivial⟩)
 ·refine CallH.more (wordB_e _ _ _) fun v F ⟨n1, hv, hF⟩ => ⟨n1, hv, by rw [hF]; rfl, ?_⟩
  refine CallH.more (wordB_e _ _ _) fun v F ⟨n2, hv, hF⟩ => ⟨n2, hv, by rw [hF]; rfl, fun B3 => dkFin ?_⟩
  exact fieldsOk (l := [.name, .text]) (by rw [e]; rfl) rfl ⟨cloS (by simp) (by simp [Fld.off]) rfl, cloS (by simp) (by simp [Fld.off]) rfl, trivial⟩
 ·refine CallH.more (numB_e _ _ _) fun v F ⟨n1, hv, hF⟩ => ⟨n1, hv, by rw [hF]; rfl, ?_⟩
  refine CallH.more (numB_e _ _ _) fun v F ⟨n2, hv, hF⟩ => ⟨n2, hv, by rw [hF]; rfl, ?_⟩
  refine CallH.more (numB_e _ _ _) fun v F ⟨n3, hv, hF⟩ => ⟨n3, hv, by rw [hF]; rfl, fun B3 => dkFin ?_⟩
  exact fieldsOk (l := [.partner, .cls, .unt]) (by rw [e]; rfl) rfl ⟨cloI (by simp) (by simp [Fld.off]) rfl, cloI (by simp) (by simp [Fld.off]) rfl, cloI (by simp) (by simp [Fld.off]) rfl, trivial⟩
 ·refine CallH.more (numB_e _ _ _) fun v F ⟨n1, hv, hF⟩ => ⟨n1, hv, by rw [hF]; rfl, ?_⟩
  refine CallH.more (numB_e _ _ _) fun v F ⟨n2, hv, hF⟩ => ⟨n2, hv, by rw [hF]; rfl, fun B3 => dkFin ?_⟩
  exact fieldsOk (l := [.partner, .unt]) (by rw [e]; rfl) rfl ⟨cloI (by simp) (by simp [Fld.off]) rfl, cloI (by simp) (by simp [Fld.off]) rfl, trivial⟩
 ·refine dkFin (.inl ⟨?_, rfl⟩)
  unfold kfields
  simp only [e1, O, V, Z, a0, a1, a2, a3, a4, M, if_false]
theorem fld_int {f : Fct} {x : Fld} (h : x.ty = .int) : ∃ n, f.put x = Wire.enc n ∧ (∀ tp tc bp bc ap ac, (f.cells tp tc bp bc ap ac)[x.off]? = some (.int .i64 n)) ∧ (vOk x.ty (f.get x) → okInt n) := by
 cases x <;> first | exact absurd h (by decide) | exact ⟨_, rfl, fun _ _ _ _ _ _ => rfl, id⟩
theorem fld_str {f : Fct} {x : Fld} (h : x.ty = .str) : ∃ s : BA, f.put x = encS (bts s) ∧ (∀ tp tc bp bc ap ac, (f.cells tp tc bp bc ap ac)[x.off]? = some (.string s)) ∧ (vOk x.ty (f.get x) → s.size ≤ 65536) := by
 cases x <;> first | exact absurd h (by decide) | exact ⟨_, rfl, fun _ _ _ _ _ _ => rfl, id⟩
def XPre (S : List Nat) (X : SHeap) (W : World) : Prop := ∀ b c t fz, (b, Obj.cells ⟨c⟩ t fz) ∈ X → lkX S W b c
theorem wClo {X : SHeap} {B FB : Nat} {x : Fld} {v : Value} (h : CloAt X B FB x v) {f : Fct} (a6 : vOk x.ty (f.get x)) : ∃ g b1, v = .func (.func g) ⟨[]⟩ ⟨b1⟩ ∧ FnReady TP g ∧
  ∀ {l : List UInt8} {p u : Value} {G : SHeap}, KRep B l p u G → l.length ≤ 800000000 → EffW TP g ⟨b1⟩ (kH B p u :: G) (fun W => XPre (nm B p u G) X W ∧ FPre (nm B p u G) f FB W) (KOut B (l ++ f.put x) (.tuple #[])) := by
 obtain ⟨kc, kn, a4, ⟨a0, rfl, a1⟩ | ⟨a0, rfl, a1⟩ | ⟨rfl, rfl, a1⟩ | ⟨rfl, rfl, a1⟩ | ⟨rfl, rfl, a1⟩⟩ := h
 ·obtain ⟨n, e1, a8, a9⟩ := fld_int (f := f) a0
  refine ⟨_, _, rfl, ⟨_, Tryz.func130, by kernel_rfl, by kernel_rfl⟩, ?_⟩
  rintro l p u G M a3 W hm ⟨O, cs, b0, tp, tc, bp, bc, ap, ac, rfl, b3⟩
  have V := O _ _ _ _ a4; have Z := O _ _ _ _ a1
  rw [e1]
  refine wNumC_vc kc kn B FB x.off ⟨#[]⟩ 0 p u G hm ⟨_, V.1, V.2, rfl, _, Z.1, Z.2, rfl, ?_⟩
  exact CallH.effW0 (wNum_e (a9 a6) M (by omega)) (fun a7 a2 => ⟨_, lkX_old a2 (fun x a0 => a0) _ _ b0, a8 _ _ _ _ _ _⟩) fun _ F' ⟨p', v', G', hu, hL, M⟩ => ⟨p', v', G', hu, hL, dkFin ⟨_, _, _, rfl, rfl, M⟩⟩
 ·obtain ⟨n, e1, a8, a9⟩ := fld_str (f := f) a0
  refine ⟨_, _, rfl, ⟨_, Tryz.func132, by kernel_rfl, by kernel_rfl⟩, ?_⟩
  rintro l p u G M a3 W hm ⟨O, cs, b0, tp, tc, bp, bc, ap, ac, rfl, b3⟩
  have V := O _ _ _ _ a4; have Z := O _ _ _ _ a1
  rw [e1]
  refine wWordC_vc kc kn B FB x.off ⟨#[]⟩ 0 p u G hm ⟨_, V.1, V.2, rfl, _, Z.1, Z.2, rfl, ?_⟩
  exact CallH.effW0 (wWord_e (a9 a6) M (by omega)) (fun a7 a2 => ⟨_, lkX_old a2 (fun x a0 => a0) _ _ b0, a8 _ _ _ _ _ _⟩) fun _ F' ⟨p', v', G', hu, hL, M⟩ => ⟨p', v', G', hu, hL, dkFin ⟨_, _, _, rfl, rfl, M⟩⟩
 ·refine ⟨_, _, rfl, ⟨_, Tryz.func134, by kernel_rfl, by kernel_rfl⟩, ?_⟩
  rintro l p u G M a3 W hm ⟨O, a5⟩
  have V := O _ _ _ _ a4; have Z := O _ _ _ _ a1
  refine wTopC_vc kc kn B FB ⟨#[]⟩ 0 p u G hm ⟨_, V.1, V.2, rfl, _, Z.1, Z.2, rfl, ?_⟩
  exact CallH.effW0 (wTopics_e a6 M a3) (fun a7 a2 => a5.old a2 fun x a0 => a0) fun _ F' ⟨p', v', G', hu, hL, M⟩ => ⟨p', v', G', hu, hL, dkFin ⟨_, _, _, rfl, rfl, M⟩⟩
 ·refine ⟨_, _, rfl, ⟨_, Tryz.func136, by kernel_rfl, by kernel_rfl⟩, ?_⟩
  rintro l p u G M a3 W hm ⟨O, a5⟩
  have V := O _ _ _ _ a4; have Z := O _ _ _ _ a1
  refine wBlkC_vc kc kn B FB ⟨#[]⟩ 0 p u G hm ⟨_, V.1, V.2, rfl, _, Z.1, Z.2, rfl, ?_⟩
  exact CallH.effW0 (wBlocks_e a6 M a3) (fun a7 a2 => a5.old a2 fun x a0 => a0) fun _ F' ⟨p', v', G', hu, hL, M⟩ => ⟨p', v', G', hu, hL, dkFin ⟨_, _, _, rfl, rfl, M⟩⟩
 ·refine ⟨_, _, rfl, ⟨_, Tryz.func138, by kernel_rfl, by kernel_rfl⟩, ?_⟩
  rintro l p u G M a3 W hm ⟨O, a5⟩
  have V := O _ _ _ _ a4; have Z := O _ _ _ _ a1
  refine wLabC_vc kc kn B FB ⟨#[]⟩ 0 p u G hm ⟨_, V.1, V.2, rfl, _, Z.1, Z.2, rfl, ?_⟩
  exact CallH.effW0 (wLabel_e a6 M a3) (fun a7 a2 => a5.old a2 fun x a0 => a0) fun _ F' ⟨p', v', G', hu, hL, M⟩ => ⟨p', v', G', hu, hL, dkFin ⟨_, _, _, rfl, rfl, M⟩⟩
theorem put_len {f : Fct} {x : Fld} (h : vOk x.ty (f.get x)) : (f.put x).length ≤ 400000 := by
 cases M : x.ty with
 | int =>
  obtain ⟨n, e1, _, _⟩ := fld_int (f := f) M
  rw [e1]; have := enc_len n; omega
 | str =>
  obtain ⟨s, e1, _, Z⟩ := fld_str (f := f) M
  have := Z h
  rw [e1]; have O := encS_len (bts s); rw [bts_len] at O; omega
 | topics =>
  have M : x = .topics := by cases x <;> first | rfl | exact absurd M (by decide)
  subst M
  have h : vOk .topics f.topics := h
  have V := h.1
  have O := flat_len (e := fun s : BA => encS (bts s)) (m := 65546) f.topics (fun x M => by
   have := h.2 x M; have O := encS_len (bts x); rw [bts_len] at O; omega)
  have a0 : 65546 * f.topics.length ≤ 65546 * 4 := Nat.mul_le_mul_left _ V
  have a1 := enc_len (f.topics.length : Int)
  show (Wire.enc (f.topics.length : Int) ++ f.topics.flatMap fun s : BA => encS (bts s)).length ≤ _
  rw [List.length_append]; omega
 | blocks =>
  have M : x = .blocks := by cases x <;> first | rfl | exact absurd M (by decide)
  subst M
  have h : listOk f.blocks = true := h
  have V := encL_le h
  have O := encS_len (encL f.blocks)
  show (encS (encL f.blocks)).length ≤ _
  omega
 | label =>
  have M : x = .label := by cases x <;> first | rfl | exact absurd M (by decide)
  subst M
  have h : vOk .label f.lab := h
  obtain ⟨a4, a5, a6, a7, a8⟩ := h
  have O := flat_len (e := Wire.enc) (m := 10) f.lab.after (fun x _ => enc_len x)
  have a0 := enc_len f.lab.unt; have a1 := enc_len (f.lab.after.length : Int); have a2 := enc_len f.lab.appr; have a3 := enc_len f.lab.den
  show (Wire.enc f.lab.unt ++ (Wire.enc (f.lab.after.length : Int) ++ (f.lab.after.flatMap Wire.enc ++ (Wire.enc f.lab.appr ++ Wire.enc f.lab.den)))).length ≤ _
  simp only [List.length_append]; omega
theorem kfields_len (k : Int) : (kfields k).length ≤ 9 := by
 unfold kfields
 repeat' split
 all_goals decide
theorem encF_len {f : Fct} (h : f.Good) : (encF f).length ≤ 4000000 := by
 have O := flat_len (e := f.put) (m := 400000) (kfields f.kind) (fun x M => put_len (h.fields x M))
 have V : 400000 * (kfields f.kind).length ≤ 400000 * 9 := Nat.mul_le_mul_left _ (kfields_len _)
 have Z := enc_len f.n; have a0 := enc_len f.time; have a1 := enc_len f.kind
 rw [encF, Fct.head]; simp only [List.length_append]; omega
def FOut (B : Nat) (s : List UInt8) (v : Value) (L' : SHeap) : Prop := ∃ p' v' G' X, v = .tuple #[] ∧ L' = kH B p' v' :: (G' ++ X) ∧ KRep B s p' v' G'
theorem xpre_of {X L0 : SHeap} (hm : Mem (L0 ++ X) S w0 W) : XPre (L0.map (·.1)) X W :=
 fun b c t fz h => lkX_in (told := X) (F := L0) (hm.perm List.perm_append_comm) h
theorem wFact_loop {B FB Bs : Nat} {f : Fct} {X : SHeap} {vs : List Value} (a0 : FPre S f FB w0) (M : f.Good) (a2 : (Bs, .cells ⟨vs⟩ 1) ∈ X) (Z : Clos X B FB (kfields f.kind) vs) {l : List UInt8} (a6 : l.length ≤ 1000) :
  ∀ (g i : Nat) (p v : Value) (G : SHeap), g + i = (kfields f.kind).length → KRep B (l ++ ((kfields f.kind).take i).flatMap f.put) p v G →
   wFact_c0 B (SO Bs) (kfields f.kind).length (kfields f.kind).length ((kfields f.kind).length : Int) (i : Int) false ⟨#[]⟩ 0 p v (G ++ X) S w0 (DK (FOut B (l ++ (kfields f.kind).flatMap f.put)) S w0)
 | 0, i, p, v, G, hi, h => by
  apply wFact_c0_vc
  rw [List.take_of_length_le (by omega)] at h
  exact no (by omega) (dkFin ⟨_, _, _, _, rfl, rfl, h⟩)
 | g + 1, i, p, v, G, hi, h => by
  apply wFact_c0_vc
  have O : i < (kfields f.kind).length := by omega
  obtain ⟨u, a8, a9⟩ := Z.get i O
  have b0 := M.fields _ (List.getElem_mem O)
  obtain ⟨gf, a3, e1, a4, a5⟩ := wClo a9 (f := f) b0
  have a7 := flat_len (e := f.put) (m := 400000) ((kfields f.kind).take i) (fun x V => put_len (M.fields x (List.mem_of_mem_take V)))
  have b3 := kfields_len f.kind
  rw [List.length_take] at a7
  have b4 : 400000 * min i (kfields f.kind).length ≤ 400000 * 9 := Nat.mul_le_mul_left _ (by omega)
  refine yes (by omega) ⟨Bs, 0, rfl, by omega, vs, u, ⟨_, _, List.mem_cons_of_mem _ (List.mem_append_right _ a2)⟩, by simpa using a8, gf, a3, e1, a4, ?_⟩
  refine CallP.of ?_
  refine CallH.effW (L0 := kH B p v :: G) (L1 := X) (a5 h (by rw [List.length_append]; omega)) (fun b1 a1 => ⟨xpre_of a1, a0.old a1 fun x V => List.mem_append_left _ V⟩) (List.Perm.refl _) fun _ F' ⟨p', v', G', hu, hL, hR⟩ => ⟨kH B p' v' :: (G' ++ X), by rw [hL]; exact List.Perm.refl _, p', v', G' ++ X, hu, rfl, ?_⟩
  rw [wi64 (by omega), show (i : Int) + 1 = ((i + 1 : Nat) : Int) by omega]
  refine wFact_loop a0 M a2 Z a6 g (i + 1) p' v' G' (by omega) ?_
  rw [flat_take O, ← List.append_assoc]
  exact hR
theorem wFact_e {B FB : Nat} {f : Fct} {p v : Value} {G : SHeap} (O : f.Good) (h : KRep B [] p v G) :
  EffW TP 59 ⟨[.pointer (SO B), .pointer (SO FB)]⟩ (kH B p v :: G) (FPre (nm B p v G) f FB) (FOut B (encF f)) := by
 intro W hm a2
 have a4 := a2
 obtain ⟨cs, Z, tp, tc, bp, bc, ap, ac, rfl, a8⟩ := a2
 have a9 := O.n; have b0 := O.time; have b1 := O.kind
 have a5 := enc_len f.n; have a6 := enc_len f.time; have a7 := enc_len f.kind
 refine wFact_vc B FB ⟨#[]⟩ 0 p v G hm ?_
 refine CallH.effW0 (wNum_e (n := f.n) (okI (by omega)) h (by simp)) (fun a0 M => ⟨_, lkX_old M (fun x V => V) _ _ Z, rfl⟩) fun u F' ⟨p1, v1, G1, hu, hL, hR⟩ => ⟨p1, v1, G1, hu, hL, ?_⟩
 refine CallH.effW0 (wNum_e (n := f.time) (okI (by omega)) hR (by rw [List.length_append, List.length_nil]; omega)) (fun a0 M => ⟨_, lkX_old M (fun x V => V) _ _ Z, rfl⟩) fun u F' ⟨p2, v2, G2, hu, hL, hR⟩ => ⟨p2, v2, G2, hu, hL, ?_⟩
 refine CallH.effW0 (wNum_e (n := f.kind) (okI (by omega)) hR (by simp only [List.length_append, List.length_nil]; omega)) (fun a0 M => ⟨_, lkX_old M (fun x V => V) _ _ Z, rfl⟩) fun u F' ⟨p3, v3, G3, hu, hL, hR⟩ => ⟨p3, v3, G3, hu, hL, ?_⟩
 refine CallH.effW (L0 := []) (L1 := kH B p3 v3 :: G3) (fields_e (k := f.kind)) (fun a0 M => ⟨_, (lkX_old M (F := []) (by simp) _ _ Z).2, rfl⟩) (by simp) fun u X a3 => ?_
 rcases a3 with ⟨a1, _⟩ | ⟨Bs, vs, rfl, hrow, hc⟩
 ·exact absurd a1 (kfields_pos O.kind)
 refine ⟨kH B p3 v3 :: (G3 ++ X), List.perm_append_comm, _, _, _, G3 ++ X, rfl, rfl, fun a1 => ?_, fun a1 => ?_⟩
 ·have := List.length_pos_iff.2 (kfields_pos O.kind)
  omega
 have := wFact_loop (B := B) (FB := FB) a4 O hrow hc (l := f.head) (by rw [Fct.head]; simp only [List.length_append]; omega) (kfields f.kind).length 0 p3 v3 G3 (by omega) (by simpa [Fct.head] using hR)
 exact this
def encFAns (f : Fct) : Value := if f.ok = true then .tuple #[.string (ba (encF f)), .int .i64 0] else .tuple #[.string ⟨#[]⟩, .int .i64 50]
theorem fEncode_c {f : Fct} (h : FAt (lkW W) f tp tc bp bc ap ac) : PW TP 20 ⟨[.agg ⟨f.cells tp tc bp bc ap ac⟩]⟩ W (encFAns f) := by
 refine fEncode_vc f tp tc bp bc ap ac (Mem.start [] W) fun B => ?_
 refine CallH.pw (fun a1 O => fValid_c (h.mono (lkW_kept O))) ⟨_, rfl, rfl, fun V => fun M => ?_, fun V => finPW (by rw [encFAns, V]; rfl)⟩
 have a0 := Fct.good V
 have a3 := encF_len a0
 refine CallH.effWT [(B, Obj.cells ⟨f.cells tp tc bp bc ap ac⟩ 38)] (wFact_e a0 (KRep.new M)) (fun a1 O => ⟨_, lkX_in O (List.mem_singleton.2 rfl), _, _, _, _, _, _, rfl, h.mono fun b c a2 => lkX_of O b c (.inr a2)⟩) fun u F' ⟨p', v', G', X, Z, hL, hR⟩ => ⟨p', v', G' ++ X, Z, by rw [hL]; rfl, ?_⟩
 refine CallH.eff (L0 := kH M p' v' :: G') (L1 := X ++ [(B, Obj.cells ⟨f.cells tp tc bp bc ap ac⟩ 38)]) (kstring_e hR (by omega)) ?_ fun u F' Z => ⟨(B, Obj.cells ⟨f.cells tp tc bp bc ap ac⟩ 38) :: (F' ++ X), ?_, _, F' ++ X, Z, rfl, finPW ?_⟩
 ·show (kH M p' v' :: G' ++ (X ++ [(B, Obj.cells ⟨f.cells tp tc bp bc ap ac⟩ 38)])).Perm ([(B, Obj.cells ⟨f.cells tp tc bp bc ap ac⟩ 38)] ++ (kH M p' v' :: (G' ++ X)))
  rw [← List.append_assoc]
  exact List.perm_append_comm
 ·rw [← List.append_assoc]
  exact List.perm_append_comm (l₁ := F' ++ X) (l₂ := [(B, Obj.cells ⟨f.cells tp tc bp bc ap ac⟩ 38)])
 ·rw [encFAns, V]; rfl
abbrev zF12aa (a : BA) (b : Int) : Array Value := #[.bool true, .string a, IV b, .pointer none, .slice none 0 0]
theorem rNum_vc (B a no : Nat) (b : BA) (c : Int) (e : Nat) (cs : List Value) (hm : Mem [(B, .cells (zF12aa b c) 105), (a, .cells ⟨cs⟩ e)] S w0 W) (H : VP S w0 R (.hp [(B, .cells (zF12aa b c) 105), (a, .cells ⟨cs⟩ e)] fun f => .ru [6,200] <| .r 5 <| .dr 16 <| .qu [3,100,3,100] <| .x3 fun d g h => .qc 83 [.string b, IV c] f (.tuple #[IV d, IV g, IV h]) <| .qu [7] <| .dn <| .I 7 40 (h = 0) (.r 3 <| .pn 25 (IV 10) f) <| .r 8 <| .sr 1 a no 3 (IV d) cs <| .ru [2,200] <| .re 1 (.tuple #[]) [(B, .cells (zF12aa b g) 105), (a, .cells ⟨((cs).set no (IV d))⟩ e)])) : Calls TP 98 ⟨[PP B, .pointer (some ⟨a, no, none⟩)]⟩ W R := VC.cs Tryz.func98 hm _ H
theorem rWord_vc (B a no : Nat) (b : BA) (c : Int) (e : Nat) (cs : List Value) (hm : Mem [(B, .cells (zF12aa b c) 105), (a, .cells ⟨cs⟩ e)] S w0 W) (H : VP S w0 R (.hp [(B, .cells (zF12aa b c) 105), (a, .cells ⟨cs⟩ e)] fun f => .ru [6,200] <| .r 5 <| .dr 16 <| .qu [3,100,3,100] <| .x3 fun d g h => .qc 122 [.string b, IV c] f (.tuple #[.string d, IV g, IV h]) <| .qu [7] <| .dn <| .I 7 40 (h = 0) (.r 3 <| .pn 25 (IV 10) f) <| .r 8 <| .sr 1 a no 9 (.string d) cs <| .ru [2,200] <| .re 1 (.tuple #[]) [(B, .cells (zF12aa b g) 105), (a, .cells ⟨((cs).set no (.string d))⟩ e)])) : Calls TP 133 ⟨[PP B, .pointer (some ⟨a, no, none⟩)]⟩ W R := VC.cs Tryz.func133 hm _ H
theorem rCount_vc (B : Nat) (f e : Int) (c : BA) (g : Int) (hm : Mem [(B, .cells (zF12aa c g) 105)] S w0 W) (H : VP S w0 R (.np 2 (.cells #[IV f] 3) fun b => .r 5 <| .cP 98 [PP B, PP b] [(B, .cells (zF12aa c g) 105), (b, .cells #[IV f] 3)] <| .x2 fun h a => .rt (.tuple #[]) [(B, .cells (zF12aa c h) 105), (b, .cells #[IV a] 3)] <| .hp [(B, .cells (zF12aa c h) 105), (b, .cells #[IV a] 3)] fun d => .ru [7,200,1,201] <| .il 1 Tryz.func64 [IV a, IV 0, IV e] <| .P 10 10 (0 ≤ a) (.rk 6 <| .I 3 18 (a ≤ e) (.r 3 <| .pn 25 (IV 50) d) <| .ru [4,201] <| .re 2 (IV a) d) <| .rk 6 <| .r 6 <| .pn 25 (IV 50) d)) : Calls TP 168 ⟨[PP B, IV f, IV e]⟩ W R := VC.cs Tryz.func168 hm _ H
abbrev zF13aa (a : BA) (b : Int) : Array Value := #[.bool true, .string a, IV b, .pointer none, .slice none 0 0]
abbrev zF13ab (a : Fct) (b x2 x3 : Nat) (x4 x5 c : OA) : Array Value := #[IV a.n, IV a.time, IV a.kind, IV a.story, .string a.lang, IV a.rev, IV a.base, .string a.title, .string a.author, .slice x4 a.topics.length b, .slice x5 a.blocks.length x2, IV a.lab.unt, .slice c a.lab.after.length x3, IV a.lab.appr, IV a.lab.den, IV a.editor, IV a.block, IV a.sentence, .string a.text, .string a.name, IV a.partner, IV a.cls, IV a.unt]
abbrev zF13ac (a : Fct) (b x2 x3 x4 x5 : Nat) (c d : OA) : Array Value := #[IV a.n, IV a.time, IV a.kind, IV a.story, .string a.lang, IV a.rev, IV a.base, .string a.title, .string a.author, .slice (SO b) x2 x3, .slice c a.blocks.length x4, IV a.lab.unt, .slice d a.lab.after.length x5, IV a.lab.appr, IV a.lab.den, IV a.editor, IV a.block, IV a.sentence, .string a.text, .string a.name, IV a.partner, IV a.cls, IV a.unt]
noncomputable def rTopics_c0 (j : Fct) (p : OA) (o : Nat) (n : OA) (m : Nat) (l : OA) (k : Nat) (i : BA) (a b c : Nat) (g h d : Int) (f e : Nat) (cs : List Value) (S : List Nat) : Cut := ⟨TP, S, 135, 35, (KC Tryz.f135 60), [(0, PP a), (1, .pointer (some ⟨b, 9, none⟩)), (23, IV g), (24, IV h)], [(a, .cells (zF13aa i d) 105), (b, .cells (zF13ac j c f e m k n l) 38), (c, .cells ⟨cs⟩ 9)]⟩
theorem rTopics_c0_vc (h : Fct) (s : OA) (q : Nat) (l : OA) (k : Nat) (j : OA) (i : Nat) (g : BA) (c f a : Nat) (m b p : Int) (e d : Nat) (cs : List Value) (H : VP S w0 R (.hp [(c, .cells (zF13aa g p) 105), (f, .cells (zF13ac h a e d k i l j) 38), (a, .cells ⟨cs⟩ 9)] fun o => .P 5 25 (b < m) (.ru [13,201] <| .r 1 <| .iL a 0 e d 1 b (Int.toNat b) <| .cP 133 [PP c, .pointer (some ⟨a, (Int.toNat b), none⟩)] o <| .x2 fun ca2 (n : List Value) => .rt (.tuple #[]) [(c, .cells (zF13aa g ca2) 105), (f, .cells (zF13ac h a e d k i l j) 38), (a, .cells ⟨n⟩ 9)] <| .ct 7 [0,1,2] (rTopics_c0 h s q l k j i g c f a m (IntKind.i64.wrap (b + 1)) ca2 e d n S)) <| .re 2 (.tuple #[]) o)) : rTopics_c0 h s q l k j i g c f a m b p e d cs S w0 R := VC.go Tryz.func135 _ H
theorem rTopics_vc (B b : Nat) (d : BA) (k : Int) (c : Fct) (j : OA) (i : Nat) (h : OA) (g : Nat) (f : OA) (e : Nat) (hm : Mem [(B, .cells (zF13aa d k) 105), (b, .cells (zF13ab c i g e j h f) 38)] S w0 W) (H : VP S w0 R (.ru [5,201] <| .r 1 <| .cP 168 [PP B, IV (c.topics.length : Int), IV 4] [(B, .cells (zF13aa d k) 105), (b, .cells (zF13ab c i g e j h f) 38)] <| .x2 fun a l => .rt (IV a) [(B, .cells (zF13aa d l) 105), (b, .cells (zF13ab c i g e j h f) 38)] <| .ru [8,200] <| .r 5 <| .mk' false 9 .i64 .i64 a a (sZ) 16 fun m => .ru [1,201,5,201] <| .ct 5 [0,1,2] (rTopics_c0 c j i h g f e d B b m ((Int.toNat a) : Int) 0 l (Int.toNat a) (Int.toNat a) (List.replicate (Int.toNat a) (sZ)) S))) : Calls TP 135 ⟨[PP B, .pointer (some ⟨b, 9, none⟩)]⟩ W R := VC.cs Tryz.func135 hm _ H
theorem rBlocks_vc (B b : Nat) (d : BA) (o : Int) (a : Fct) (h : OA) (g : Nat) (k : OA) (j : Nat) (f : OA) (e : Nat) (hm : Mem [(B, .cells (zF13aa d o) 105), (b, .cells (zF13ab a g j e h k f) 38)] S w0 W) (H : VP S w0 R (.np 2 (.cells #[sZ] 9) fun c => .ru [202,7,200] <| .r 7 <| .cP 133 [PP B, PP c] [(B, .cells (zF13aa d o) 105), (b, .cells (zF13ab a g j e h k f) 38), (c, .cells #[sZ] 9)] <| .x2 fun l i => .rt (.tuple #[]) [(B, .cells (zF13aa d l) 105), (b, .cells (zF13ab a g j e h k f) 38), (c, .cells #[.string i] 9)] <| .ru [6,200,4,202] <| .cl 0 170 [.string i] [(B, .cells (zF13aa d l) 105), (b, .cells (zF13ab a g j e h k f) 38), (c, .cells #[.string i] 9)] <| .x5 fun s q p t m => .rt (.tuple #[.slice s q p, IV t]) ((B, .cells (zF13aa d l) 105) :: (b, .cells (zF13ab a g j e h k f) 38) :: (c, .cells #[.string i] 9) :: m) <| .I 12 31 (t = 0) (.r 3 <| .pn 25 (IV 50) ((B, .cells (zF13aa d l) 105) :: (b, .cells (zF13ab a g j e h k f) 38) :: (c, .cells #[.string i] 9) :: m)) <| .ru [6,201] <| .re 1 (.tuple #[]) ((B, .cells (zF13aa d l) 105) :: (b, .cells #[IV a.n, IV a.time, IV a.kind, IV a.story, .string a.lang, IV a.rev, IV a.base, .string a.title, .string a.author, .slice h a.topics.length g, .slice s q p, IV a.lab.unt, .slice f a.lab.after.length e, IV a.lab.appr, IV a.lab.den, IV a.editor, IV a.block, IV a.sentence, .string a.text, .string a.name, IV a.partner, IV a.cls, IV a.unt] 38) :: (c, .cells #[.string i] 9) :: m))) : Calls TP 137 ⟨[PP B, .pointer (some ⟨b, 10, none⟩)]⟩ W R := VC.cs Tryz.func137 hm _ H
abbrev zF14aa (a : BA) (b : Int) : Array Value := #[.bool true, .string a, IV b, .pointer none, .slice none 0 0]
abbrev zF14ab (a : Fct) (b : Int) (x2 x3 x4 x5 c : Nat) (d e : OA) : Array Value := #[IV a.n, IV a.time, IV a.kind, IV a.story, .string a.lang, IV a.rev, IV a.base, .string a.title, .string a.author, .slice d a.topics.length x2, .slice e a.blocks.length x3, IV b, .slice (SO x4) x5 c, IV a.lab.appr, IV a.lab.den, IV a.editor, IV a.block, IV a.sentence, .string a.text, .string a.name, IV a.partner, IV a.cls, IV a.unt]
abbrev zF14ac (a : Fct) (b : Int) (x2 x3 x4 : Nat) (x5 c d : OA) : Array Value := #[IV a.n, IV a.time, IV a.kind, IV a.story, .string a.lang, IV a.rev, IV a.base, .string a.title, .string a.author, .slice x5 a.topics.length x2, .slice c a.blocks.length x3, IV b, .slice d a.lab.after.length x4, IV a.lab.appr, IV a.lab.den, IV a.editor, IV a.block, IV a.sentence, .string a.text, .string a.name, IV a.partner, IV a.cls, IV a.unt]
abbrev zF14ad (a : Fct) (b x2 x3 : Nat) (x4 x5 c : OA) : Array Value := #[IV a.n, IV a.time, IV a.kind, IV a.story, .string a.lang, IV a.rev, IV a.base, .string a.title, .string a.author, .slice x4 a.topics.length b, .slice x5 a.blocks.length x2, IV a.lab.unt, .slice c a.lab.after.length x3, IV a.lab.appr, IV a.lab.den, IV a.editor, IV a.block, IV a.sentence, .string a.text, .string a.name, IV a.partner, IV a.cls, IV a.unt]
noncomputable def rLabel_c0 (k : Fct) (o : OA) (n : Nat) (m : OA) (l : Nat) (q : OA) (p : Nat) (j : BA) (a b c : Nat) (h i g d : Int) (f e : Nat) (cs : List Value) (S : List Nat) : Cut := ⟨TP, S, 139, 54, (KC Tryz.f139 244), [(0, PP a), (1, .pointer (some ⟨b, 11, none⟩)), (31, IV h), (32, IV i)], [(a, .cells (zF14aa j g) 105), (b, .cells (zF14ab k d n l c f e o m) 38), (c, .cells ⟨cs⟩ 3)]⟩
theorem rLabel_c0_vc (a : Fct) (l : OA) (k : Nat) (j : OA) (i : Nat) (z : OA) (y : Nat) (h : BA) (c d b : Nat) (p m w g : Int) (f e : Nat) (cs : List Value) (H : VP S w0 R (.hp [(c, .cells (zF14aa h w) 105), (d, .cells (zF14ab a g k i b f e l j) 38), (b, .cells ⟨cs⟩ 3)] fun u => .P 5 33 (m < p) (.ru [14,201] <| .r 1 <| .iL b 0 f e 1 m (Int.toNat m) <| .cP 98 [PP c, .pointer (some ⟨b, (Int.toNat m), none⟩)] u <| .x2 fun ca3 (t : List Value) => .rt (.tuple #[]) [(c, .cells (zF14aa h ca3) 105), (d, .cells (zF14ab a g k i b f e l j) 38), (b, .cells ⟨t⟩ 3)] <| .ct 7 [0,1,2] (rLabel_c0 a l k j i z y h c d b p (IntKind.i64.wrap (m + 1)) ca3 g f e t S)) <| .r 8 <| .cP 98 [PP c, .pointer (some ⟨d, 13, none⟩)] u <| .x2 fun q o => .rt (.tuple #[]) [(c, .cells (zF14aa h q) 105), (d, .cells #[IV a.n, IV a.time, IV a.kind, IV a.story, .string a.lang, IV a.rev, IV a.base, .string a.title, .string a.author, .slice l a.topics.length k, .slice j a.blocks.length i, IV g, .slice (SO b) f e, IV o, IV a.lab.den, IV a.editor, IV a.block, IV a.sentence, .string a.text, .string a.name, IV a.partner, IV a.cls, IV a.unt] 38), (b, .cells ⟨cs⟩ 3)] <| .r 6 <| .cP 98 [PP c, .pointer (some ⟨d, 14, none⟩)] [(c, .cells (zF14aa h q) 105), (d, .cells #[IV a.n, IV a.time, IV a.kind, IV a.story, .string a.lang, IV a.rev, IV a.base, .string a.title, .string a.author, .slice l a.topics.length k, .slice j a.blocks.length i, IV g, .slice (SO b) f e, IV o, IV a.lab.den, IV a.editor, IV a.block, IV a.sentence, .string a.text, .string a.name, IV a.partner, IV a.cls, IV a.unt] 38), (b, .cells ⟨cs⟩ 3)] <| .x2 fun s x => .rt (.tuple #[]) [(c, .cells (zF14aa h s) 105), (d, .cells #[IV a.n, IV a.time, IV a.kind, IV a.story, .string a.lang, IV a.rev, IV a.base, .string a.title, .string a.author, .slice l a.topics.length k, .slice j a.blocks.length i, IV g, .slice (SO b) f e, IV o, IV x, IV a.editor, IV a.block, IV a.sentence, .string a.text, .string a.name, IV a.partner, IV a.cls, IV a.unt] 38), (b, .cells ⟨cs⟩ 3)] <| .re 1 (.tuple #[]) [(c, .cells (zF14aa h s) 105), (d, .cells #[IV a.n, IV a.time, IV a.kind, IV a.story, .string a.lang, IV a.rev, IV a.base, .string a.title, .string a.author, .slice l a.topics.length k, .slice j a.blocks.length i, IV g, .slice (SO b) f e, IV o, IV x, IV a.editor, IV a.block, IV a.sentence, .string a.text, .string a.name, IV a.partner, IV a.cls, IV a.unt] 38), (b, .cells ⟨cs⟩ 3)])) : rLabel_c0 a l k j i z y h c d b p m w g f e cs S w0 R := VC.go Tryz.func139 _ H
theorem rLabel_vc (B a : Nat) (d : BA) (l : Int) (c : Fct) (j : OA) (i : Nat) (h : OA) (g : Nat) (f : OA) (e : Nat) (hm : Mem [(B, .cells (zF14aa d l) 105), (a, .cells (zF14ad c i g e j h f) 38)] S w0 W) (H : VP S w0 R (.r 6 <| .cP 98 [PP B, .pointer (some ⟨a, 11, none⟩)] [(B, .cells (zF14aa d l) 105), (a, .cells (zF14ad c i g e j h f) 38)] <| .x2 fun m k => .rt (.tuple #[]) [(B, .cells (zF14aa d m) 105), (a, .cells (zF14ac c k i g e j h f) 38)] <| .ru [7,201] <| .r 1 <| .cP 168 [PP B, IV (c.lab.after.length : Int), IV 64] [(B, .cells (zF14aa d m) 105), (a, .cells (zF14ac c k i g e j h f) 38)] <| .x2 fun b n => .rt (IV b) [(B, .cells (zF14aa d n) 105), (a, .cells (zF14ac c k i g e j h f) 38)] <| .ru [8,200] <| .r 5 <| .mk' false 3 .i64 .i64 b b (IV 0) 8 fun o => .ru [2,201,7,201] <| .ct 5 [0,1,2] (rLabel_c0 c j i h g f e d B a o ((Int.toNat b) : Int) 0 n k (Int.toNat b) (Int.toNat b) (List.replicate (Int.toNat b) (IV 0)) S))) : Calls TP 139 ⟨[PP B, .pointer (some ⟨a, 11, none⟩)]⟩ W R := VC.cs Tryz.func139 hm _ H
abbrev PK (K : Value → SHeap → Prop) (K' : List PanicEntry → SHeap → Prop) (S : List Nat) (w0 : World) : Ending → World → Prop :=
 fun e W' => (∃ v L', e = .returned v ∧ Mem L' S w0 W' ∧ K v L') ∨ ∃ ch L', e = .panicked ch ∧ Mem L' S w0 W' ∧ K' ch L'
theorem finK {K' : List PanicEntry → SHeap → Prop} {L : SHeap} {v : Value} (h : K v L) : Fin (PK K K' S w0) L S w0 v := fun _ hm => .inl ⟨v, L, rfl, hm, h⟩
theorem finX {K' : List PanicEntry → SHeap → Prop} {L : SHeap} {M : List PanicEntry} (h : K' M L) : FinP (PK K K' S w0) L S w0 M := fun _ hm => .inr ⟨M, L, rfl, hm, h⟩
theorem finKs (O : List Nat) {K' : List PanicEntry → SHeap → Prop} {L L' : SHeap} {v : Value} (M : (selL L O, nodupB O) = (L', true)) (h : K v L') : Fin (PK K K' S w0) L S w0 v := by
 simp only [Prod.mk.injEq] at M
 obtain ⟨rfl, V⟩ := M
 exact fun _ hm => .inl ⟨v, _, rfl, hm.sel (nodupB_spec V), h⟩
theorem finXs (V : List Nat) {K' : List PanicEntry → SHeap → Prop} {L L' : SHeap} {M : List PanicEntry} (O : (selL L V, nodupB V) = (L', true)) (h : K' M L') : FinP (PK K K' S w0) L S w0 M := by
 simp only [Prod.mk.injEq] at O
 obtain ⟨rfl, Z⟩ := O
 exact fun _ hm => .inr ⟨M, _, rfl, hm.sel (nodupB_spec Z), h⟩
theorem finKst (A : SHeap) (O : List Nat) {T : SHeap} {K' : List PanicEntry → SHeap → Prop} {L' : SHeap} {v : Value} (M : (selL A O, nodupB O) = (L', true)) (h : K v (L' ++ T)) : Fin (PK K K' S w0) (A ++ T) S w0 v := by
 simp only [Prod.mk.injEq] at M
 obtain ⟨rfl, V⟩ := M
 exact fun _ hm => .inl ⟨v, _, rfl, hm.selT (nodupB_spec V), h⟩
abbrev pan (e : Int) : List PanicEntry := [{ v := .iface 25 (.int .i64 e), recovered := false }]
theorem CallP.eff0 {L0 L1 : SHeap} {V : World → Prop} {K k1 : Value → SHeap → Prop} {K' Z : List PanicEntry → SHeap → Prop} (h : EffP P g args L0 V K K') (a2 : ∀ W, Mem (L0 ++ L1) S w0 W → V W)
  (a0 : ∀ v L', K v L' → k1 v (L' ++ L1)) (a1 : ∀ M L', K' M L' → Z M (L' ++ L1)) : CallP P g args (L0 ++ L1) S w0 k1 Z :=
 CallP.eff h a2 (List.Perm.refl _) (fun v L' O => ⟨L' ++ L1, List.Perm.refl _, a0 v L' O⟩) (fun M L' O => ⟨L' ++ L1, List.Perm.refl _, a1 M L' O⟩)
theorem CallP.st {L0 L V N Z M : SHeap} {u : Value} {c : List PanicEntry} {A O : Prop} {a0 : World → Prop} {k1 : Value → SHeap → Prop} {a2 : List PanicEntry → SHeap → Prop} (L1 : SHeap)
  (h : EffP P g args L0 a0 (fun v L' => A ∧ v = u ∧ L' = V) (fun a1 L' => O ∧ a1 = c ∧ L' = Z)) (a5 : ∀ W, Mem L S w0 W → a0 W) (p1 : (L0 ++ L1).Perm L) (a6 : (V ++ L1).Perm N) (a7 : (Z ++ L1).Perm M) (a3 : A → k1 u N) (a4 : O → a2 c M) : CallP P g args L S w0 k1 a2 :=
 CallP.eff h a5 p1 (fun v L' ⟨h0, hv, hL⟩ => ⟨N, hL ▸ a6, hv ▸ a3 h0⟩) (fun a1 L' ⟨h0, hc, hL⟩ => ⟨M, hL ▸ a7, hc ▸ a4 h0⟩)
theorem perm3 {a b c : Nat × Obj} : ([a, b] ++ [c] : SHeap).Perm [a, c, b] := List.Perm.cons _ (List.Perm.swap _ _ _)
theorem perm2 {a b : Nat × Obj} : ([a, b] ++ [] : SHeap).Perm [a, b] := List.Perm.refl _
theorem perm1 {a b : Nat × Obj} : ([a] ++ [b] : SHeap).Perm [a, b] := List.Perm.refl _
abbrev rK (B : Nat) (tx : BA) (a : Nat) : Nat × Obj := (B, .cells #[.bool true, .string tx, .int .i64 (a : Int), .pointer none, .slice none 0 0] 105)
theorem rNum_e {B O no tn a : Nat} {M : BA} {cs : List Value} (a3 : M.size < 4611686018427387904) (a1 : a ≤ (bts M).length) (a2 : no < cs.length) :
  EffP TP 98 ⟨[pt B 0, pt O no]⟩ [rK B M a, (O, .cells ⟨cs⟩ tn)] (fun _ => True)
   (fun v L' => (rdI (bts M) (a, 0)).2.2 = 0 ∧ v = .tuple #[] ∧ L' = [rK B M (rdI (bts M) (a, 0)).2.1, (O, .cells ⟨cs.set no (.int .i64 (rdI (bts M) (a, 0)).1)⟩ tn)])
   (fun a0 L' => (rdI (bts M) (a, 0)).2.2 = 10 ∧ a0 = pan 10 ∧ L' = [rK B M a, (O, .cells ⟨cs⟩ tn)]) := by
 intro W hm _
 refine rNum_vc B O no M a tn cs hm ?_
 have V : QCall TP 83 ⟨[.string M, .int .i64 (a : Int)]⟩ [rK B M a, (O, .cells ⟨cs⟩ tn)] (([rK B M a, (O, .cells ⟨cs⟩ tn)] : SHeap).map (·.1)) W (intAns M (a : Int)) := QCall.of (Int_c M _ a3)
 rw [int_ans (st := (a, 0)) a1 rfl] at V
 rw [rdI, if_pos rfl]
 cases hr : rdInt ((bts M).drop a) with
 | none =>
  rw [hr] at V
  exact ⟨_, _, _, V, fun _ => finX ⟨rfl, rfl, rfl⟩, fun Z => absurd Z (by decide)⟩
 | some p =>
  rw [hr] at V
  exact ⟨_, _, _, V, fun Z => absurd rfl Z, fun _ => ⟨a2, finK ⟨rfl, rfl, rfl⟩⟩⟩
theorem rWord_e {B O no tn a : Nat} {M : BA} {cs : List Value} (a3 : M.size < 4611686018427387904) (a1 : a ≤ (bts M).length) (a2 : no < cs.length) :
  EffP TP 133 ⟨[pt B 0, pt O no]⟩ [rK B M a, (O, .cells ⟨cs⟩ tn)] (fun _ => True)
   (fun v L' => (rdT (bts M) (a, 0)).2.2 = 0 ∧ v = .tuple #[] ∧ L' = [rK B M (rdT (bts M) (a, 0)).2.1, (O, .cells ⟨cs.set no (.string (rdT (bts M) (a, 0)).1)⟩ tn)])
   (fun a0 L' => (rdT (bts M) (a, 0)).2.2 = 10 ∧ a0 = pan 10 ∧ L' = [rK B M a, (O, .cells ⟨cs⟩ tn)]) := by
 intro W hm _
 refine rWord_vc B O no M a tn cs hm ?_
 have V : QCall TP 122 ⟨[.string M, .int .i64 (a : Int)]⟩ [rK B M a, (O, .cells ⟨cs⟩ tn)] (([rK B M a, (O, .cells ⟨cs⟩ tn)] : SHeap).map (·.1)) W (strAns M (a : Int)) := QCall.of (String_c M _ a3)
 rw [str_ans (st := (a, 0)) a1 rfl] at V
 rw [rdT, if_pos rfl]
 cases hr : rdStr ((bts M).drop a) with
 | none =>
  rw [hr] at V
  exact ⟨_, _, _, V, fun _ => finX ⟨rfl, rfl, rfl⟩, fun Z => absurd Z (by decide)⟩
 | some p =>
  rw [hr] at V
  exact ⟨_, _, _, V, fun Z => absurd rfl Z, fun _ => ⟨a2, finK ⟨rfl, rfl, rfl⟩⟩⟩
theorem fcnt_bad {s : List UInt8} {m : Int} {st : RS} (h : (rdI s st).2.2 = 0) (M : (rdI s st).1 < 0 ∨ m < (rdI s st).1) : fcnt s m st = ((rdI s st).1, ((rdI s st).2.1, 50)) := by rw [fcnt, if_pos ⟨h, M⟩]
theorem fcnt_good {s : List UInt8} {m : Int} {st : RS} (h : ¬ ((rdI s st).2.2 = 0 ∧ ((rdI s st).1 < 0 ∨ m < (rdI s st).1))) : fcnt s m st = rdI s st := by rw [fcnt, if_neg h]
theorem rdI_bad {s : List UInt8} {a : Nat} (h : (rdI s (a, 0)).2.2 = 10) : (rdI s (a, 0)).2.1 = a := by
 rw [rdI, if_pos rfl] at *
 split at h
 ·rfl
 ·simp at h
theorem rCount_e {B a : Nat} {n most : Int} {M : BA} (a3 : M.size < 4611686018427387904) (a2 : a ≤ (bts M).length) :
  EffP TP 168 ⟨[pt B 0, .int .i64 n, .int .i64 most]⟩ [rK B M a] (fun _ => True)
   (fun v L' => (fcnt (bts M) most (a, 0)).2.2 = 0 ∧ v = .int .i64 (fcnt (bts M) most (a, 0)).1 ∧ L' = [rK B M (fcnt (bts M) most (a, 0)).2.1])
   (fun Z L' => (fcnt (bts M) most (a, 0)).2.2 ≠ 0 ∧ Z = pan (fcnt (bts M) most (a, 0)).2.2 ∧ L' = [rK B M (rdI (bts M) (a, 0)).2.1]) := by
 intro W hm _
 refine rCount_vc B n most M a hm fun a4 => ?_
 refine CallP.st [] (rNum_e (tn := 3) (cs := [.int .i64 n]) a3 a2 (by simp)) (fun _ _ => trivial) perm2 perm2 perm2 (fun O => ⟨_, _, rfl, rfl, ?_⟩) (fun O => ?_)
 ·refine ⟨fun a0 => ⟨fun a1 => ?_, fun a1 => ?_⟩, fun a0 => ?_⟩
  ·refine finXs [0] rfl ?_
   rw [fcnt_bad O (.inr (by omega))]
   exact ⟨show (50 : Int) ≠ 0 by decide, rfl, rfl⟩
  ·refine finKs [0] rfl ?_
   rw [fcnt_good (fun V => by rcases V.2 with h | h <;> omega)]
   exact ⟨O, rfl, rfl⟩
  ·refine finXs [0] rfl ?_
   rw [fcnt_bad O (.inl (by omega))]
   exact ⟨show (50 : Int) ≠ 0 by decide, rfl, rfl⟩
 ·refine finXs [0] rfl ?_
  rw [fcnt_good (fun V => by rw [O] at V; exact absurd V.1 (by decide)), O, rdI_bad O]
  exact ⟨by decide, rfl, rfl⟩
abbrev fH (FB : Nat) (cs : List Value) : Nat × Obj := (FB, .cells ⟨cs⟩ 38)
theorem set_next {z v : Value} (l : List Value) (g : Nat) : (l ++ List.replicate (g + 1) z).set l.length v = l ++ [v] ++ List.replicate g z := by
 rw [List.set_append_right _ _ (Nat.le_refl _), Nat.sub_self, List.replicate_succ, List.set_cons_zero, List.append_assoc]; rfl
def TopK (B FB : Nat) (tx : BA) (x : Fct) (bp : OA) (bc : Nat) (ap : OA) (ac : Nat) (r : List BA × RS) (v : Value) (L' : SHeap) : Prop :=
 r.2.2 = 0 ∧ v = .tuple #[] ∧ ∃ Bn, L' = [rK B tx r.2.1, fH FB (({ x with topics := r.1 } : Fct).cells (SO Bn) r.1.length bp bc ap ac), (Bn, .cells ⟨r.1.map .string⟩ 9)]
def BadK (B FB : Nat) (tx : BA) (e : Int) (ch : List PanicEntry) (L' : SHeap) : Prop :=
 e ≠ 0 ∧ ch = pan e ∧ ∃ a cs N, L' = rK B tx a :: fH FB cs :: N ∧ cs.length = 23
theorem rTopics_loop {B FB Bn : Nat} {M : BA} (a0 : M.size < 4611686018427387904) {x : Fct} {tp bp ap : OA} {tc bc ac n : Nat} {S : List Nat} {w0 : World} {r : List BA × RS} (hn : n ≤ 4) :
  ∀ (g : Nat) (l : List BA) (a : Nat), l.length + g = n → a ≤ (bts M).length → r = (l ++ (rdMany (rdT (bts M)) g (a, 0)).1, (rdMany (rdT (bts M)) g (a, 0)).2) →
   rTopics_c0 x tp tc bp bc ap ac M B FB Bn (n : Int) (l.length : Int) (a : Int) n n (l.map .string ++ List.replicate g (.string ⟨#[]⟩)) S w0 (PK (TopK B FB M x bp bc ap ac r) (BadK B FB M r.2.2) S w0)
 | 0, l, a, hg, ha, O => by
  apply rTopics_c0_vc
  have O : r = (l, (a, 0)) := by rw [O]; simp [rdMany]
  have a1 : l.length = n := by omega
  refine no (by omega) (finK ?_)
  rw [O]
  refine ⟨rfl, rfl, Bn, ?_⟩
  rw [← a1]; simp
 | g + 1, l, a, hg, ha, O => by
  apply rTopics_c0_vc
  rw [rdMany, if_pos rfl] at O
  refine yes (by omega) ⟨by omega, ?_⟩
  refine CallP.st [fH FB _] (rWord_e a0 ha (by simp)) (fun _ _ => trivial) perm3 perm3 perm3 (fun V => ⟨_, _, rfl, rfl, ?_⟩) (fun V => ?_)
  ·have e1 : Int.toNat (l.length : Int) = (l.map Value.string).length := by simp
   rw [e1, set_next, wi64 (by omega), show (l.length : Int) + 1 = ((l ++ [(rdT (bts M) (a, 0)).1]).length : Int) by simp]
   have Z : (rdT (bts M) (a, 0)).2 = ((rdT (bts M) (a, 0)).2.1, 0) := Prod.ext rfl V
   have := rTopics_loop (B := B) (FB := FB) (Bn := Bn) a0 (x := x) (tp := tp) (tc := tc) (bp := bp) (bc := bc) (ap := ap) (ac := ac) (S := S) (w0 := w0) (r := r) hn g (l ++ [(rdT (bts M) (a, 0)).1]) (rdT (bts M) (a, 0)).2.1 (by simp; omega) (rdT_le (st := (a, 0)) ha).1 (by rw [O, Z]; simp)
   simpa using this
  ·have Z : r.2.2 = 10 := by rw [O]; simp only; rw [rdMany_err (by rw [V]; decide)]; exact V
   refine finX ?_
   rw [Z]
   exact ⟨by decide, rfl, _, _, _, rfl, rfl⟩
theorem rTopics_e {B FB a : Nat} {M : BA} (Z : M.size < 4611686018427387904) (V : a ≤ (bts M).length) {x : Fct} :
  EffP TP 135 ⟨[pt B 0, pt FB 9]⟩ [rK B M a, fH FB (x.cells tp tc bp bc ap ac)] (fun _ => True) (TopK B FB M x bp bc ap ac (rdV (bts M) .topics (a, 0))) (BadK B FB M (rdV (bts M) .topics (a, 0)).2.2) := by
 intro W hm _
 refine rTopics_vc B FB M a x tp tc bp bc ap ac hm ?_
 refine CallP.st [fH FB _] (rCount_e Z V) (fun _ _ => trivial) perm1 perm1 perm1 (fun O => ⟨_, _, rfl, rfl, ?_⟩) (fun O => ?_)
 ·have a3 := fcnt_ok O
  refine ⟨by omega, fun a0 => ?_⟩
  generalize hq : (fcnt (bts M) 4 (a, 0)) = q at *
  have a1 : q.2 = (q.2.1, 0) := Prod.ext rfl O
  have a2 : q.2.1 ≤ (bts M).length := by rw [← hq]; exact fcnt_le V
  have := rTopics_loop (B := B) (FB := FB) (Bn := a0) Z (x := x) (tp := tp) (tc := tc) (bp := bp) (bc := bc) (ap := ap) (ac := ac) (S := [rK B M a, fH FB (x.cells tp tc bp bc ap ac)].map (·.1)) (w0 := W) (n := q.1.toNat) (r := rdV (bts M) .topics (a, 0)) (by omega) q.1.toNat [] q.2.1 (by simp) a2
   (by show flist (rdT (bts M)) (bts M) 4 (a, 0) = _; rw [flist, hq, a1]; simp)
  exact this
 ·refine finX ?_
  have e : (rdV (bts M) .topics (a, 0)).2 = (fcnt (bts M) 4 (a, 0)).2 := by show (flist _ _ _ _).2 = _; rw [flist, rdMany_err O]
  rw [e]
  exact ⟨O, rfl, _, _, [], rfl, rfl⟩
def BlkK (B FB : Nat) (tx : BA) (x : Fct) (tp : OA) (tc : Nat) (ap : OA) (ac : Nat) (r : List Blk × RS) (v : Value) (L' : SHeap) : Prop :=
 r.2.2 = 0 ∧ v = .tuple #[] ∧ ∃ bp bc N, L' = rK B tx r.2.1 :: fH FB (({ x with blocks := r.1 } : Fct).cells tp tc bp bc ap ac) :: N ∧ BlksL (lkF N) bp r.1 ∧ r.1.length ≤ bc ∧ r.1.length ≤ 24
theorem rBlocks_e {B FB a : Nat} {M : BA} (a0 : M.size < 4611686018427387904) (Z : a ≤ (bts M).length) {x : Fct} :
  EffP TP 137 ⟨[pt B 0, pt FB 10]⟩ [rK B M a, fH FB (x.cells tp tc bp bc ap ac)] (fun _ => True) (BlkK B FB M x tp tc ap ac (rdV (bts M) .blocks (a, 0))) (BadK B FB M (rdV (bts M) .blocks (a, 0)).2.2) := by
 intro W hm _
 refine rBlocks_vc B FB M a x tp tc bp bc ap ac hm fun a1 => ?_
 refine CallP.st [fH FB (x.cells tp tc bp bc ap ac)] (rWord_e (tn := 9) (cs := [.string ⟨#[]⟩]) a0 Z (by simp)) (fun _ _ => trivial) perm3 perm3 perm3 (fun O => ⟨_, (rdT (bts M) (a, 0)).1, rfl, rfl, ?_⟩) (fun O => ?_)
 ·have a2 := (rdT_le (s := bts M) (st := (a, 0)) Z).2
  refine CallH.more (decode_e (rdT (bts M) (a, 0)).1 (by omega)) fun v F ⟨p, c, hv, hc, hb⟩ => ⟨p, _, c, _, F, hv, rfl, fun V => ?_, fun V => ?_⟩
  ·have e : rdV (bts M) .blocks (a, 0) = ([], ((rdT (bts M) (a, 0)).2.1, 50)) := by show rdBlks _ _ = _; rw [rdBlks, if_pos O, if_neg V]
   rw [e]
   exact finX ⟨show (50 : Int) ≠ 0 by decide, rfl, _, _, _, rfl, rfl⟩
  ·have e : rdV (bts M) .blocks (a, 0) = ((decSpec (bts (rdT (bts M) (a, 0)).1)).1, (rdT (bts M) (a, 0)).2) := by show rdBlks _ _ = _; rw [rdBlks, if_pos O, if_pos V]
   rw [e]
   refine finKst [_, _, _] [0, 1] rfl ⟨O, rfl, p, c, F, rfl, hb, hc, decode_len _⟩
 ·have e : (rdV (bts M) .blocks (a, 0)).2 = (rdT (bts M) (a, 0)).2 := by show (rdBlks _ _).2 = _; rw [rdBlks, if_neg (by rw [O]; decide)]
  rw [e, O]
  exact finX ⟨by decide, rfl, _, _, _, rfl, rfl⟩
def LabK (B FB : Nat) (tx : BA) (x : Fct) (tp : OA) (tc : Nat) (bp : OA) (bc : Nat) (r : Lab × RS) (v : Value) (L' : SHeap) : Prop :=
 r.2.2 = 0 ∧ v = .tuple #[] ∧ ∃ Bn, L' = [rK B tx r.2.1, fH FB (({ x with lab := r.1 } : Fct).cells tp tc bp bc (SO Bn) r.1.after.length), (Bn, .cells ⟨r.1.after.map (.int .i64)⟩ 3)] ∧ r.1.after.length ≤ 64
def labEnd (s : List UInt8) (u : Int) (r : List Int × RS) : Lab × RS := (⟨u, r.1, (rdI s r.2).1, (rdI s (rdI s r.2).2).1⟩, (rdI s (rdI s r.2).2).2)
theorem labEnd_err {s : List UInt8} {u : Int} {r : List Int × RS} (h : ¬ r.2.2 = 0) : (labEnd s u r).2 = r.2 := by
 show (rdI s (rdI s r.2).2).2 = _
 have M := rdI_err (s := s) h
 rw [M, M]
theorem rLabel_loop {B FB Bn : Nat} {M : BA} (a1 : M.size < 4611686018427387904) {x : Fct} {tp bp ap : OA} {tc bc ac n : Nat} {u : Int} {S : List Nat} {w0 : World} {r : List Int × RS} (hn : n ≤ 64) :
  ∀ (g : Nat) (l : List Int) (a : Nat), l.length + g = n → a ≤ (bts M).length → r = (l ++ (rdMany (rdI (bts M)) g (a, 0)).1, (rdMany (rdI (bts M)) g (a, 0)).2) →
   rLabel_c0 x tp tc bp bc ap ac M B FB Bn (n : Int) (l.length : Int) (a : Int) u n n (l.map (.int .i64) ++ List.replicate g (.int .i64 0)) S w0 (PK (LabK B FB M x tp tc bp bc (labEnd (bts M) u r)) (BadK B FB M (labEnd (bts M) u r).2.2) S w0)
 | 0, l, a, hg, ha, Z => by
  apply rLabel_c0_vc
  have Z : r = (l, (a, 0)) := by rw [Z]; simp [rdMany]
  have a2 : l.length = n := by omega
  subst Z
  refine no (by omega) ?_
  refine CallP.st [(Bn, _)] (rNum_e a1 ha (by simp)) (fun _ _ => trivial) (List.Perm.refl _) (List.Perm.refl _) (List.Perm.refl _) (fun O => ⟨_, (rdI (bts M) (a, 0)).1, rfl, rfl, ?_⟩) (fun O => ?_)
  ·have V : (rdI (bts M) (a, 0)).2 = ((rdI (bts M) (a, 0)).2.1, 0) := Prod.ext rfl O
   refine CallP.st [(Bn, _)] (rNum_e a1 (rdI_le (st := (a, 0)) ha) (by simp)) (fun _ _ => trivial) (List.Perm.refl _) (List.Perm.refl _) (List.Perm.refl _) (fun a0 => ⟨_, (rdI (bts M) ((rdI (bts M) (a, 0)).2.1, 0)).1, rfl, rfl, finK ?_⟩) (fun a0 => finX ?_)
   ·rw [← V] at a0 ⊢
    refine ⟨a0, rfl, Bn, ?_, by show l.length ≤ 64; omega⟩
    rw [← a2]; simp [labEnd]
   ·rw [← V] at a0
    have e : (labEnd (bts M) u (l, (a, 0))).2.2 = 10 := a0
    rw [e]
    exact ⟨by decide, rfl, _, _, _, rfl, rfl⟩
  ·have e : (labEnd (bts M) u (l, (a, 0))).2.2 = 10 := by
    show (rdI (bts M) (rdI (bts M) (a, 0)).2).2.2 = 10
    rw [rdI_err (by rw [O]; decide)]; exact O
   refine finX ?_
   rw [e]
   exact ⟨by decide, rfl, _, _, _, rfl, rfl⟩
 | g + 1, l, a, hg, ha, Z => by
  apply rLabel_c0_vc
  rw [rdMany, if_pos rfl] at Z
  refine yes (by omega) ⟨by omega, ?_⟩
  refine CallP.st [fH FB _] (rNum_e a1 ha (by simp)) (fun _ _ => trivial) perm3 perm3 perm3 (fun O => ⟨_, _, rfl, rfl, ?_⟩) (fun O => ?_)
  ·have e1 : Int.toNat (l.length : Int) = (l.map (Value.int .i64)).length := by simp
   rw [e1, set_next, wi64 (by omega), show (l.length : Int) + 1 = ((l ++ [(rdI (bts M) (a, 0)).1]).length : Int) by simp]
   have V : (rdI (bts M) (a, 0)).2 = ((rdI (bts M) (a, 0)).2.1, 0) := Prod.ext rfl O
   have := rLabel_loop (B := B) (FB := FB) (Bn := Bn) a1 (x := x) (tp := tp) (tc := tc) (bp := bp) (bc := bc) (ap := ap) (ac := ac) (u := u) (S := S) (w0 := w0) (r := r) hn g (l ++ [(rdI (bts M) (a, 0)).1]) (rdI (bts M) (a, 0)).2.1 (by simp; omega) (rdI_le (st := (a, 0)) ha) (by rw [Z, V]; simp)
   simpa using this
  ·have V : r.2.2 = 10 := by rw [Z]; simp only; rw [rdMany_err (by rw [O]; decide)]; exact O
   refine finX ?_
   rw [labEnd_err (by rw [V]; decide), V]
   exact ⟨by decide, rfl, _, _, _, rfl, rfl⟩
theorem rLabel_e {B FB a : Nat} {M : BA} (Z : M.size < 4611686018427387904) (a0 : a ≤ (bts M).length) {x : Fct} :
  EffP TP 139 ⟨[pt B 0, pt FB 11]⟩ [rK B M a, fH FB (x.cells tp tc bp bc ap ac)] (fun _ => True) (LabK B FB M x tp tc bp bc (rdV (bts M) .label (a, 0))) (BadK B FB M (rdV (bts M) .label (a, 0)).2.2) := by
 intro W hm _
 refine rLabel_vc B FB M a x tp tc bp bc ap ac hm ?_
 have ev : rdV (bts M) .label (a, 0) = labEnd (bts M) (rdI (bts M) (a, 0)).1 (flist (rdI (bts M)) (bts M) 64 (rdI (bts M) (a, 0)).2) := rfl
 rw [ev]
 refine CallP.st [] (rNum_e Z a0 (by simp)) (fun _ _ => trivial) perm2 perm2 perm2 (fun V => ⟨_, (rdI (bts M) (a, 0)).1, rfl, rfl, ?_⟩) (fun V => ?_)
 ·have a4 : (rdI (bts M) (a, 0)).2 = ((rdI (bts M) (a, 0)).2.1, 0) := Prod.ext rfl V
  rw [a4]
  have a1 := rdI_le (s := bts M) (st := (a, 0)) a0
  generalize (rdI (bts M) (a, 0)).2.1 = a2 at *
  generalize (rdI (bts M) (a, 0)).1 = u at *
  refine CallP.st [fH FB _] (rCount_e Z a1) (fun _ _ => trivial) perm1 perm1 perm1 (fun O => ⟨_, _, rfl, rfl, ?_⟩) (fun O => ?_)
  ·have a8 := fcnt_ok O
   refine ⟨by omega, fun a3 => ?_⟩
   have a6 := fcnt_le (s := bts M) (m := 64) (st := (a2, 0)) a1
   have a7 : flist (rdI (bts M)) (bts M) 64 (a2, 0) = rdMany (rdI (bts M)) (fcnt (bts M) 64 (a2, 0)).1.toNat (fcnt (bts M) 64 (a2, 0)).2 := rfl
   generalize hq : (fcnt (bts M) 64 (a2, 0)) = q at *
   have a5 : q.2 = (q.2.1, 0) := Prod.ext rfl O
   rw [a7, a5]
   exact rLabel_loop (B := B) (FB := FB) (Bn := a3) Z (x := x) (tp := tp) (tc := tc) (bp := bp) (bc := bc) (ap := ap) (ac := ac) (u := u) (S := [rK B M a, fH FB (x.cells tp tc bp bc ap ac)].map (·.1)) (w0 := W) (n := q.1.toNat) (r := rdMany (rdI (bts M)) q.1.toNat (q.2.1, 0)) (by omega) q.1.toNat [] q.2.1 (by simp) a6 (by simp)
  ·refine finX ?_
   have e : (flist (rdI (bts M)) (bts M) 64 (a2, 0)).2 = (fcnt (bts M) 64 (a2, 0)).2 := by rw [flist, rdMany_err O]
   rw [labEnd_err (by rw [e]; exact O), e]
   exact ⟨O, rfl, _, _, [], rfl, rfl⟩
 ·refine finX ?_
  have e : (flist (rdI (bts M)) (bts M) 64 (rdI (bts M) (a, 0)).2).2 = (rdI (bts M) (a, 0)).2 := flist_err (by rw [V]; decide)
  rw [labEnd_err (by rw [e, V]; decide), e, V]
  exact ⟨by decide, rfl, _, _, [], rfl, rfl⟩
abbrev zF15aa (a : BA) (b : Int) : Array Value := #[.bool true, .string a, IV b, .pointer none, .slice none 0 0]
abbrev yF15aa (a : BA) (b : Int) (x2 : List Value) (x3 x4 : Nat) (x5 : SHeap) : SHeap := (x3, .cells (zF15aa a b) 105) :: (x4, .cells ⟨x2⟩ 38) :: x5
theorem rNumC_vc (f kn B a no : Nat) (c : BA) (d : Int) (cs : List Value) (b : SHeap) (hm : Mem (yF15aa c d cs B a b) S w0 W) (H : VP S w0 R (.r 1 <| .ex fun (g : List Value) => .lgs f 0 100 g (PP B) <| .ex fun (h : List Value) => .lgs kn 0 155 h (.pointer (some ⟨a, no, none⟩)) <| .cP 98 [PP B, .pointer (some ⟨a, no, none⟩)] (yF15aa c d cs B a b) <| .x2 fun ca1 (e : List Value) => .rt (.tuple #[]) (yF15aa c ca1 e B a b) <| .re 1 (.tuple #[]) (yF15aa c ca1 e B a b))) : Calls TP 130 ⟨[PP f, PP kn]⟩ W R := VC.cs Tryz.func130 hm _ H
theorem rWordC_vc (f kn B a no : Nat) (c : BA) (d : Int) (cs : List Value) (b : SHeap) (hm : Mem (yF15aa c d cs B a b) S w0 W) (H : VP S w0 R (.r 1 <| .ex fun (g : List Value) => .lgs f 0 100 g (PP B) <| .ex fun (h : List Value) => .lgs kn 0 192 h (.pointer (some ⟨a, no, none⟩)) <| .cP 133 [PP B, .pointer (some ⟨a, no, none⟩)] (yF15aa c d cs B a b) <| .x2 fun ca1 (e : List Value) => .rt (.tuple #[]) (yF15aa c ca1 e B a b) <| .re 1 (.tuple #[]) (yF15aa c ca1 e B a b))) : Calls TP 132 ⟨[PP f, PP kn]⟩ W R := VC.cs Tryz.func132 hm _ H
theorem rTopC_vc (f g B a : Nat) (b : BA) (d : Int) (cs : List Value) (c : SHeap) (hm : Mem (yF15aa b d cs B a c) S w0 W) (H : VP S w0 R (.dr 4 <| .ex fun (h : List Value) => .lgs f 0 100 h (PP B) <| .ex fun (i : List Value) => .lgs g 0 107 i (PP a) <| .qu [2] <| .dn <| .cP 135 [PP B, .pointer (some ⟨a, 9, none⟩)] (yF15aa b d cs B a c) <| .x3 fun ca1 (e : List Value) F1 => .rt (.tuple #[]) (yF15aa b ca1 e B a F1) <| .re 1 (.tuple #[]) (yF15aa b ca1 e B a F1))) : Calls TP 134 ⟨[PP f, PP g]⟩ W R := VC.cs Tryz.func134 hm _ H
theorem rBlkC_vc (f g B a : Nat) (b : BA) (d : Int) (cs : List Value) (c : SHeap) (hm : Mem (yF15aa b d cs B a c) S w0 W) (H : VP S w0 R (.dr 4 <| .ex fun (h : List Value) => .lgs f 0 100 h (PP B) <| .ex fun (i : List Value) => .lgs g 0 107 i (PP a) <| .qu [2] <| .dn <| .cP 137 [PP B, .pointer (some ⟨a, 10, none⟩)] (yF15aa b d cs B a c) <| .x3 fun ca1 (e : List Value) F1 => .rt (.tuple #[]) (yF15aa b ca1 e B a F1) <| .re 1 (.tuple #[]) (yF15aa b ca1 e B a F1))) : Calls TP 136 ⟨[PP f, PP g]⟩ W R := VC.cs Tryz.func136 hm _ H
theorem rLabC_vc (f g B a : Nat) (b : BA) (d : Int) (cs : List Value) (c : SHeap) (hm : Mem (yF15aa b d cs B a c) S w0 W) (H : VP S w0 R (.dr 4 <| .ex fun (h : List Value) => .lgs f 0 100 h (PP B) <| .ex fun (i : List Value) => .lgs g 0 107 i (PP a) <| .qu [2] <| .dn <| .cP 139 [PP B, .pointer (some ⟨a, 11, none⟩)] (yF15aa b d cs B a c) <| .x3 fun ca1 (e : List Value) F1 => .rt (.tuple #[]) (yF15aa b ca1 e B a F1) <| .re 1 (.tuple #[]) (yF15aa b ca1 e B a F1))) : Calls TP 138 ⟨[PP f, PP g]⟩ W R := VC.cs Tryz.func138 hm _ H
abbrev zF16aa (a : BA) (b : Int) : Array Value := #[.bool true, .string a, IV b, .pointer none, .slice none 0 0]
abbrev yF16aa (a : BA) (b : Int) (x2 : List Value) (x3 x4 : Nat) (x5 : SHeap) : SHeap := (x3, .cells (zF16aa a b) 105) :: (x4, .cells ⟨x2⟩ 38) :: x5
abbrev rFactH0 (a : Nat) (f : BA) (e : Int) (b : Nat) (d : List Value) (c : SHeap) : SHeap := (yF16aa f e d a b c)
def rFact_c0 (k : BA) (a b : Nat) (h : OA) (g f : Nat) (i j e : Int) (d : List Value) (c : SHeap) (S : List Nat) (w0 : World) (R : Ending → World → Prop) : Prop :=
 AtE TP 59 38 (KC Tryz.f59 508) [(29, .slice h g f), (30, IV i), (31, IV j)] (rFactH0 a k e b d c) S w0 (nrm R)
theorem rFact_c0_vc (f : BA) (c d : Nat) (s : OA) (q y : Nat) (z a n : Int) (l : List Value) (j : SHeap)
 (H :
 Br (a < z)
 (∃ h e : Nat, s = some ⟨h, e, none⟩ ∧ (0 ≤ a ∧ a < q) ∧
 ∃ (x : List Value) (m : Value), (∃ N C, (h, Obj.cells ⟨x⟩ N C) ∈ (rFactH0 c f n d l j)) ∧ x[(e + (Int.toNat a))]? = some (m) ∧
 ∃ (g : Nat) (k : List Value), m = .func (.func g) ⟨[]⟩ ⟨k⟩ ∧ FnReady TP g ∧
 CallP TP g ⟨[] ++ k⟩ (rFactH0 c f n d l j) S w0 (fun v L' => ∃ (u : Int) (w : List Value), ∃ t, v = .tuple #[] ∧ L' = (yF16aa f u w c d t) ∧
 rFact_c0 f c d s q y z (IntKind.i64.wrap (a + (1 : Int))) u w t S w0 R) (fun A L' => FinP R L' S w0 A))
 (Fin R (rFactH0 c f n d l j) S w0 (.tuple #[]))) :
 rFact_c0 f c d s q y z a n l j S w0 R:= by
 unfold rFact_c0
 refine .ru 5 (.sP 32 H ?_ ?_) <;> clear H <;> intro H
 ·refine .ru 6 ?_
  obtain ⟨h, e, hp, H⟩ := H
  refine .indexAddrP (E := 1) (p := s) (b := h) (o := e) (len := q) (cap := y) (sz := 1) (o' := (e + (Int.toNat a))) (kd := .i64) (i := a) hp (by kernel_rfl) H.1 (by omega) ?_
  replace H := H.2
  obtain ⟨x, m, G, M, H⟩ := H
  refine .loadT (b := h) (off := (e + (Int.toNat a))) (T := 1) (v := m) (by kernel_rfl) G (valAt_one M (by kernel_rfl)) (.ru 4 ?_)
  obtain ⟨g, k, rfl, F, H⟩ := H
  refine .callV g [] k [] (by kernel_rfl) F H ?_ (fun A L' D => RaiseE.nrm Tryz.func59 D)
  clear H
  rintro _ _ ⟨u, w, t, rfl, rfl, H⟩
  refine .ru 7 (.tT [0,1] 2 H)
 ·refine .ru 2 (.rt Tryz.func59 H)
theorem rFact_vc (B a : Nat) (b : BA) (p : Int) (cs : List Value) (c : SHeap) (hm : Mem (yF16aa b p cs B a c) S w0 W)
 (H :
 CallP TP 98 ⟨[PP B, PP a]⟩ (yF16aa b p cs B a c) S w0 (fun v L' => ∃ (j : Int) (l : List Value), v = .tuple #[] ∧ L' = (yF16aa b j l B a c) ∧
 CallP TP 98 ⟨[PP B, .pointer (some ⟨a, 1, none⟩)]⟩ (yF16aa b j l B a c) S w0 (fun v L' => ∃ (k : Int) (m : List Value), v = .tuple #[] ∧ L' = (yF16aa b k m B a c) ∧
 CallP TP 98 ⟨[PP B, .pointer (some ⟨a, 2, none⟩)]⟩ (yF16aa b k m B a c) S w0 (fun v L' => ∃ (e : Int) (f : List Value), v = .tuple #[] ∧ L' = (yF16aa b e f B a c) ∧
 CallH TP 99 ⟨[PP B, PP a]⟩ (yF16aa b e f B a c) S w0 (fun v L' => ∃ (o : OA) (h : Nat) (n : Nat), ∃ i, v = (.slice o h n) ∧ L' = (yF16aa b e f B a i) ∧
 Br ((h : Int) = (0 : Int))
 (FinP R (yF16aa b e f B a i) S w0 [{ v := .iface 25 (IV 50), recovered := false }])
 (rFact_c0 b B a o h n (h : Int) (0 : Int) e f i S w0 R))) (fun d L' => FinP R L' S w0 d)) (fun d L' => FinP R L' S w0 d)) (fun d L' => FinP R L' S w0 d)) :
 Calls TP 59 ⟨[PP B, PP a]⟩ W R:= by
 refine AtE.cs 38 Tryz.func59 hm (.ru 6 (.callP 98 ⟨[PP B, PP a]⟩ (fun W => by kernel_rfl) (by kernel_rfl) H ?_ (fun d L' g => RaiseE.nrm Tryz.func59 g)))
 rintro _ _ ⟨j, l, rfl, rfl, H⟩
 refine .ru 7 (.callP 98 ⟨[PP B, .pointer (some ⟨a, 1, none⟩)]⟩ (fun W => by kernel_rfl) (by kernel_rfl) H ?_ (fun d L' g => RaiseE.nrm Tryz.func59 g))
 rintro _ _ ⟨k, m, rfl, rfl, H⟩
 refine .ru 7 (.callP 98 ⟨[PP B, .pointer (some ⟨a, 2, none⟩)]⟩ (fun W => by kernel_rfl) (by kernel_rfl) H ?_ (fun d L' g => RaiseE.nrm Tryz.func59 g))
 rintro _ _ ⟨e, f, rfl, rfl, H⟩
 refine .ru 5 (.cl H ?_)
 rintro _ _ ⟨o, h, n, i, rfl, rfl, H⟩
 refine .ru 9 (.sP 27 H (fun H => ?_) fun H => ?_)
 ·refine .ru 3 (.panic (t := 25) (v := IV 50) (by kernel_rfl) ?_)
  exact RaiseE.nrm Tryz.func59 H
 ·refine .ru 10 (.tT [0,1] 2 H)
def lkU (M : SHeap) (lk : Lk) : Lk := fun b c => lkF M b c ∨ lk b c
def StepK (B FB : Nat) (tx : BA) (f : Fct) (tp : OA) (tc : Nat) (bp : OA) (bc : Nat) (ap : OA) (ac : Nat) (x : Fld) (a : Nat) (v : Value) (L' : SHeap) : Prop :=
 (rdV (bts tx) x.ty (a, 0)).2.2 = 0 ∧ v = .tuple #[] ∧ ∃ tp' tc' bp' bc' ap' ac' M, L' = rK B tx (rdV (bts tx) x.ty (a, 0)).2.1 :: fH FB ((f.set x (rdV (bts tx) x.ty (a, 0)).1).cells tp' tc' bp' bc' ap' ac') :: M ∧
  ∀ lk, FAt lk f tp tc bp bc ap ac → FAt (lkU M lk) (f.set x (rdV (bts tx) x.ty (a, 0)).1) tp' tc' bp' bc' ap' ac'
theorem rd_int {s : List UInt8} {st : RS} {f : Fct} {x : Fld} (h : x.ty = .int) : (rdV s x.ty st).2 = (rdI s st).2 ∧
  (∀ tp tc bp bc ap ac, (f.cells tp tc bp bc ap ac).set x.off (.int .i64 (rdI s st).1) = (f.set x (rdV s x.ty st).1).cells tp tc bp bc ap ac) ∧ x.off < 23 ∧
  ∀ lk tp tc bp bc ap ac, FAt lk f tp tc bp bc ap ac → FAt lk (f.set x (rdV s x.ty st).1) tp tc bp bc ap ac := by
 cases x <;> first | exact absurd h (by decide) | exact ⟨rfl, fun _ _ _ _ _ _ => rfl, by decide, fun _ _ _ _ _ _ _ h => ⟨h.tops, h.blks, h.ints, h.ct, h.cb, h.ca, h.fits⟩⟩
theorem rd_str {s : List UInt8} {st : RS} {f : Fct} {x : Fld} (M : (rdT s st).1.size ≤ 9223372036854775807) (h : x.ty = .str) : (rdV s x.ty st).2 = (rdT s st).2 ∧
  (∀ tp tc bp bc ap ac, (f.cells tp tc bp bc ap ac).set x.off (.string (rdT s st).1) = (f.set x (rdV s x.ty st).1).cells tp tc bp bc ap ac) ∧ x.off < 23 ∧
  ∀ lk tp tc bp bc ap ac, FAt lk f tp tc bp bc ap ac → FAt lk (f.set x (rdV s x.ty st).1) tp tc bp bc ap ac := by
 cases x
 case lang => exact ⟨rfl, fun _ _ _ _ _ _ => rfl, by decide, fun _ _ _ _ _ _ _ h => ⟨h.tops, h.blks, h.ints, h.ct, h.cb, h.ca, ⟨M, h.fits.1.2⟩, h.fits.2⟩⟩
 case title => exact ⟨rfl, fun _ _ _ _ _ _ => rfl, by decide, fun _ _ _ _ _ _ _ h => ⟨h.tops, h.blks, h.ints, h.ct, h.cb, h.ca, ⟨h.fits.1.1, M, h.fits.1.2.2⟩, h.fits.2⟩⟩
 case author => exact ⟨rfl, fun _ _ _ _ _ _ => rfl, by decide, fun _ _ _ _ _ _ _ h => ⟨h.tops, h.blks, h.ints, h.ct, h.cb, h.ca, ⟨h.fits.1.1, h.fits.1.2.1, M, h.fits.1.2.2.2⟩, h.fits.2⟩⟩
 case text => exact ⟨rfl, fun _ _ _ _ _ _ => rfl, by decide, fun _ _ _ _ _ _ _ h => ⟨h.tops, h.blks, h.ints, h.ct, h.cb, h.ca, ⟨h.fits.1.1, h.fits.1.2.1, h.fits.1.2.2.1, M, h.fits.1.2.2.2.2⟩, h.fits.2⟩⟩
 case name => exact ⟨rfl, fun _ _ _ _ _ _ => rfl, by decide, fun _ _ _ _ _ _ _ h => ⟨h.tops, h.blks, h.ints, h.ct, h.cb, h.ca, ⟨h.fits.1.1, h.fits.1.2.1, h.fits.1.2.2.1, h.fits.1.2.2.2.1, M⟩, h.fits.2⟩⟩
 all_goals exact absurd h (by decide)
theorem rdMany_sizes {s : List UInt8} : ∀ (n : Nat) (st : RS), st.1 ≤ s.length → ∀ t ∈ (rdMany (rdT s) n st).1, t.size ≤ 65536
 | 0, st, _, t, ht => by simp [rdMany] at ht
 | n + 1, st, h, t, ht => by
  unfold rdMany at ht
  split at ht
  ·rcases List.mem_cons.1 ht with rfl | ht
   ·exact (rdT_le h).2
   ·exact rdMany_sizes n _ (rdT_le h).1 t ht
  ·simp at ht
theorem cells_len {f : Fct} : (f.cells tp tc bp bc ap ac).length = 23 := rfl
theorem lkU_r {M : SHeap} : ∀ b c, lk b c → lkU M lk b c := fun _ _ h => .inr h
theorem lkU_l {M : SHeap} : ∀ b c, lkF M b c → lkU M lk b c := fun _ _ h => .inl h
theorem strs_at {Bn : Nat} {l : List BA} (h : lk Bn (l.map .string)) : StrsL lk (SO Bn) l :=
 fun _ => ⟨Bn, 0, _, rfl, h, fun i hi => by rw [Nat.zero_add, List.getElem?_map, List.getElem?_eq_getElem hi]; rfl⟩
theorem ints_at {Bn : Nat} {l : List Int} (h : lk Bn (l.map (.int .i64))) : IntsL lk (SO Bn) l :=
 fun _ => ⟨Bn, 0, _, rfl, h, fun i hi => by rw [Nat.zero_add, List.getElem?_map, List.getElem?_eq_getElem hi]; rfl⟩
theorem rClo {X : SHeap} {B FB : Nat} {x : Fld} {v : Value} (h : CloAt X B FB x v) {M : BA} (a5 : M.size < 4611686018427387904) : ∃ g b0, v = .func (.func g) ⟨[]⟩ ⟨b0⟩ ∧ FnReady TP g ∧
  ∀ {a : Nat} {f : Fct} {tp bp ap : OA} {tc bc ac : Nat}, a ≤ (bts M).length → EffP TP g ⟨b0⟩ [rK B M a, fH FB (f.cells tp tc bp bc ap ac)] (fun W => XPre [B, FB] X W) (StepK B FB M f tp tc bp bc ap ac x a) (BadK B FB M (rdV (bts M) x.ty (a, 0)).2.2) := by
 obtain ⟨kc, kn, a4, ⟨a9, rfl, a2⟩ | ⟨a9, rfl, a2⟩ | ⟨rfl, rfl, a2⟩ | ⟨rfl, rfl, a2⟩ | ⟨rfl, rfl, a2⟩⟩ := h
 ·refine ⟨_, _, rfl, ⟨_, Tryz.func130, by kernel_rfl, by kernel_rfl⟩, ?_⟩
  intro a f tp bp ap tc bc ac a1 W hm O
  obtain ⟨e1, a6, a7, a8⟩ := rd_int (s := bts M) (st := (a, 0)) (f := f) a9
  have V := O _ _ _ _ a4; have Z := O _ _ _ _ a2
  refine rNumC_vc kc kn B FB x.off M a _ [] hm ⟨_, V.1, V.2, rfl, _, Z.1, Z.2, rfl, ?_⟩
  refine CallP.st [] (rNum_e a5 a1 (by rw [cells_len]; exact a7)) (fun _ _ => trivial) perm2 perm2 perm2 (fun a0 => ⟨_, _, rfl, rfl, finK ?_⟩) (fun a0 => finX ?_)
  ·rw [StepK, e1, a6]
   exact ⟨a0, rfl, tp, tc, bp, bc, ap, ac, [], rfl, fun lk h => (a8 _ _ _ _ _ _ _ h).mono lkU_r⟩
  ·rw [e1, a0]
   exact ⟨by decide, rfl, _, _, _, rfl, rfl⟩
 ·refine ⟨_, _, rfl, ⟨_, Tryz.func132, by kernel_rfl, by kernel_rfl⟩, ?_⟩
  intro a f tp bp ap tc bc ac a1 W hm O
  have b3 := (rdT_le (s := bts M) (st := (a, 0)) a1).2
  obtain ⟨e1, a6, a7, a8⟩ := rd_str (s := bts M) (st := (a, 0)) (f := f) (by omega) a9
  have V := O _ _ _ _ a4; have Z := O _ _ _ _ a2
  refine rWordC_vc kc kn B FB x.off M a _ [] hm ⟨_, V.1, V.2, rfl, _, Z.1, Z.2, rfl, ?_⟩
  refine CallP.st [] (rWord_e a5 a1 (by rw [cells_len]; exact a7)) (fun _ _ => trivial) perm2 perm2 perm2 (fun a0 => ⟨_, _, rfl, rfl, finK ?_⟩) (fun a0 => finX ?_)
  ·rw [StepK, e1, a6]
   exact ⟨a0, rfl, tp, tc, bp, bc, ap, ac, [], rfl, fun lk h => (a8 _ _ _ _ _ _ _ h).mono lkU_r⟩
  ·rw [e1, a0]
   exact ⟨by decide, rfl, _, _, _, rfl, rfl⟩
 ·refine ⟨_, _, rfl, ⟨_, Tryz.func134, by kernel_rfl, by kernel_rfl⟩, ?_⟩
  intro a f tp bp ap tc bc ac a1 W hm O
  have V := O _ _ _ _ a4; have Z := O _ _ _ _ a2
  refine rTopC_vc kc kn B FB M a _ [] hm ⟨_, V.1, V.2, rfl, _, Z.1, Z.2, rfl, ?_⟩
  refine CallP.eff0 (L0 := [rK B M a, fH FB _]) (L1 := []) (rTopics_e a5 a1) (fun _ _ => trivial) ?_ (fun b1 L' a3 => finX (by rw [List.append_nil]; exact a3))
  rintro _ _ ⟨a0, rfl, Bn, rfl⟩
  refine ⟨_, _, [_], rfl, rfl, finK ?_⟩
  refine ⟨a0, rfl, some ⟨Bn, 0, none⟩, _, bp, bc, ap, ac, _, rfl, fun lk h => ?_⟩
  have b7 := (flist_le (f := rdT (bts M)) (s := bts M) (m := 4) (fun st h => (rdT_le h).1) (st := (a, 0)) a1).2
  have b3 := rdMany_sizes (s := bts M) (fcnt (bts M) 4 (a, 0)).1.toNat _ (fcnt_le (m := 4) (st := (a, 0)) a1)
  refine ⟨strs_at (.inl ⟨_, _, List.mem_singleton.2 rfl⟩), h.blks.mono lkU_r, h.ints.mono lkU_r, Nat.le_refl _, h.cb, h.ca, h.fits.1, ⟨Nat.le_trans b7 (by decide), fun t b9 => Nat.le_trans (b3 t b9) (by decide)⟩, h.fits.2.2⟩
 ·refine ⟨_, _, rfl, ⟨_, Tryz.func136, by kernel_rfl, by kernel_rfl⟩, ?_⟩
  intro a f tp bp ap tc bc ac a1 W hm O
  have V := O _ _ _ _ a4; have Z := O _ _ _ _ a2
  refine rBlkC_vc kc kn B FB M a _ [] hm ⟨_, V.1, V.2, rfl, _, Z.1, Z.2, rfl, ?_⟩
  refine CallP.eff0 (L0 := [rK B M a, fH FB _]) (L1 := []) (rBlocks_e a5 a1) (fun _ _ => trivial) ?_ (fun b1 L' a3 => finX (by rw [List.append_nil]; exact a3))
  rintro _ _ ⟨a0, rfl, p, c, N, rfl, a3, b6, b4⟩
  rw [List.append_nil]
  refine ⟨_, _, N, rfl, rfl, finK ?_⟩
  exact ⟨a0, rfl, tp, tc, p, c, ap, ac, N, rfl, fun lk h => ⟨h.tops.mono lkU_r, a3.mono lkU_l, h.ints.mono lkU_r, h.ct, b6, h.ca, h.fits.1, h.fits.2.1, Nat.le_trans b4 (by decide), h.fits.2.2.2⟩⟩
 ·refine ⟨_, _, rfl, ⟨_, Tryz.func138, by kernel_rfl, by kernel_rfl⟩, ?_⟩
  intro a f tp bp ap tc bc ac a1 W hm O
  have V := O _ _ _ _ a4; have Z := O _ _ _ _ a2
  refine rLabC_vc kc kn B FB M a _ [] hm ⟨_, V.1, V.2, rfl, _, Z.1, Z.2, rfl, ?_⟩
  refine CallP.eff0 (L0 := [rK B M a, fH FB _]) (L1 := []) (rLabel_e a5 a1) (fun _ _ => trivial) ?_ (fun b1 L' a3 => finX (by rw [List.append_nil]; exact a3))
  rintro _ _ ⟨a0, rfl, Bn, rfl, b5⟩
  refine ⟨_, _, [_], rfl, rfl, finK ?_⟩
  exact ⟨a0, rfl, tp, tc, bp, bc, some ⟨Bn, 0, none⟩, _, _, rfl, fun lk h => ⟨h.tops.mono lkU_r, h.blks.mono lkU_r, ints_at (.inl ⟨_, _, List.mem_singleton.2 rfl⟩), h.ct, h.cb, Nat.le_refl _, h.fits.1, h.fits.2.1, h.fits.2.2.1, Nat.le_trans b5 (by decide)⟩⟩
def FactK (B FB : Nat) (tx : BA) (r : Fct × RS) (v : Value) (L' : SHeap) : Prop :=
 r.2.2 = 0 ∧ v = .tuple #[] ∧ ∃ tp tc bp bc ap ac N, L' = rK B tx r.2.1 :: fH FB (r.1.cells tp tc bp bc ap ac) :: N ∧ FAt (lkF N) r.1 tp tc bp bc ap ac
theorem lkU_F {M N : SHeap} : ∀ b c, lkU M (lkF N) b c → lkF (M ++ N) b c := by
 rintro b c (⟨t, fz, h⟩ | ⟨t, fz, h⟩)
 ·exact ⟨t, fz, List.mem_append_left _ h⟩
 ·exact ⟨t, fz, List.mem_append_right _ h⟩
theorem rFact_loop {B FB Bs : Nat} {M : BA} (a2 : M.size < 4611686018427387904) {k : Int} {X : SHeap} {vs : List Value} (a1 : (Bs, .cells ⟨vs⟩ 1) ∈ X) (Z : Clos X B FB (kfields k) vs) {r : Fct × RS} :
  ∀ (g i : Nat) (f : Fct) (a : Nat) (tp : OA) (tc : Nat) (bp : OA) (bc : Nat) (ap : OA) (ac : Nat) (N : SHeap), g + i = (kfields k).length → r = ((kfields k).drop i).foldl (rdFld (bts M)) (f, (a, 0)) → a ≤ (bts M).length → FAt (lkF N) f tp tc bp bc ap ac →
   rFact_c0 M B FB (SO Bs) (kfields k).length (kfields k).length ((kfields k).length : Int) (i : Int) (a : Int) (f.cells tp tc bp bc ap ac) (N ++ X) S w0 (PK (FactK B FB M r) (BadK B FB M r.2.2) S w0)
 | 0, i, f, a, tp, tc, bp, bc, ap, ac, N, hi, hr, ha, hF => by
  apply rFact_c0_vc
  rw [List.drop_of_length_le (by omega)] at hr
  subst hr
  exact no (by omega) (finK ⟨rfl, rfl, tp, tc, bp, bc, ap, ac, N ++ X, rfl, hF.mono (lkF_mono fun x c2 => List.mem_append_left _ c2)⟩)
 | g + 1, i, f, a, tp, tc, bp, bc, ap, ac, N, hi, hr, ha, hF => by
  apply rFact_c0_vc
  have a0 : i < (kfields k).length := by omega
  have c6 := kfields_len k
  obtain ⟨u, b7, b9⟩ := Z.get i a0
  obtain ⟨gf, a9, e1, b0, b1⟩ := rClo b9 a2
  rw [List.drop_eq_getElem_cons a0, List.foldl_cons] at hr
  refine yes (by omega) ⟨Bs, 0, rfl, by omega, vs, u, ⟨_, _, List.mem_cons_of_mem _ (List.mem_cons_of_mem _ (List.mem_append_right _ a1))⟩, by simpa using b7, gf, a9, e1, b0, ?_⟩
  refine CallP.eff0 (L0 := [rK B M a, fH FB (f.cells tp tc bp bc ap ac)]) (L1 := N ++ X) (b1 ha) (fun c5 b6 => fun b c t fz b5 => xpre_of b6 b c t fz (List.mem_append_right _ b5)) ?_ ?_
  ·rintro _ _ ⟨O, rfl, c4, c3, a8, a7, a6, a5, V, rfl, b4⟩
   refine ⟨_, _, (V ++ N) ++ X, rfl, by rw [List.append_assoc]; rfl, ?_⟩
   rw [wi64 (by omega), show (i : Int) + 1 = ((i + 1 : Nat) : Int) by omega]
   refine rFact_loop a2 a1 Z g (i + 1) _ _ c4 c3 a8 a7 a6 a5 (V ++ N) (by omega) ?_ (rdV_le (st := (a, 0)) ha) ((b4 _ hF).mono lkU_F)
   rw [hr]
   congr 1
   rw [rdFld]
   exact Prod.ext rfl (Prod.ext rfl O)
  ·rintro _ _ ⟨O, rfl, a4, cs, a3, rfl, b3⟩
   refine finX ?_
   have e : r.2 = (rdV (bts M) (kfields k)[i].ty (a, 0)).2 := by rw [hr, fold_err _ _ O]; rfl
   rw [e]
   exact ⟨O, rfl, a4, cs, a3 ++ (N ++ X), rfl, b3⟩
theorem decFRun_bad {s : List UInt8} (h : ¬ (rdH3 s).2.2 = 0) : (decFRun s).2 = (rdH3 s).2 := by
 have e : rdKind s = (rdH3 s).2 := by rw [rdKind, if_neg (fun M => h M.1)]
 rw [decFRun, fold_err _ _ (by simp only; rw [e]; exact h)]
 exact e
theorem rFact_e {B FB : Nat} {M : BA} (a2 : M.size < 4611686018427387904) :
  EffP TP 59 ⟨[pt B 0, pt FB 0]⟩ [rK B M 0, fH FB (Fct.zero.cells none 0 none 0 none 0)] (fun _ => True) (FactK B FB M (decFRun (bts M))) (BadK B FB M (decFRun (bts M)).2.2) := by
 intro W hm _
 have a4 := rdH_le (bts M)
 refine rFact_vc B FB M 0 _ [] hm ?_
 refine CallP.st [] (rNum_e a2 (Nat.zero_le _) (by rw [cells_len]; decide)) (fun _ _ => trivial) perm2 perm2 perm2 (fun a1 => ⟨_, _, rfl, rfl, ?_⟩) (fun a1 => finX ?_)
 ·have a1 : (rdH1 (bts M)).2.2 = 0 := a1
  have a5 : (rdH1 (bts M)).2 = ((rdH1 (bts M)).2.1, 0) := Prod.ext rfl a1
  show CallP _ _ _ [rK B M (rdH1 (bts M)).2.1, fH FB ((Fct.bare (rdH1 (bts M)).1 0 0).cells none 0 none 0 none 0)] _ _ _ _
  refine CallP.st [] (rNum_e a2 a4.1 (by rw [cells_len]; decide)) (fun _ _ => trivial) perm2 perm2 perm2 (fun Z => ⟨_, _, rfl, rfl, ?_⟩) (fun Z => finX ?_)
  ·rw [← a5] at Z ⊢
   have Z : (rdH2 (bts M)).2.2 = 0 := Z
   have a6 : (rdH2 (bts M)).2 = ((rdH2 (bts M)).2.1, 0) := Prod.ext rfl Z
   show CallP _ _ _ [rK B M (rdH2 (bts M)).2.1, fH FB ((Fct.bare (rdH1 (bts M)).1 (rdH2 (bts M)).1 0).cells none 0 none 0 none 0)] _ _ _ _
   refine CallP.st [] (rNum_e a2 a4.2.1 (by rw [cells_len]; decide)) (fun _ _ => trivial) perm2 perm2 perm2 (fun O => ⟨_, _, rfl, rfl, ?_⟩) (fun O => finX ?_)
   ·rw [← a6] at O ⊢
    have O : (rdH3 (bts M)).2.2 = 0 := O
    have b1 : (rdH3 (bts M)).2 = ((rdH3 (bts M)).2.1, 0) := Prod.ext rfl O
    show CallH _ _ _ [rK B M (rdH3 (bts M)).2.1, fH FB ((Fct.bare (rdH1 (bts M)).1 (rdH2 (bts M)).1 (rdH3 (bts M)).1).cells none 0 none 0 none 0)] _ _ _
    refine CallH.effW (L0 := []) (L1 := [rK B M (rdH3 (bts M)).2.1, fH FB ((Fct.bare (rdH1 (bts M)).1 (rdH2 (bts M)).1 (rdH3 (bts M)).1).cells none 0 none 0 none 0)]) (fields_e (k := (rdH3 (bts M)).1)) (fun b3 a9 => ⟨(Fct.bare (rdH1 (bts M)).1 (rdH2 (bts M)).1 (rdH3 (bts M)).1).cells none 0 none 0 none 0, ?_, rfl⟩) (by simp) fun u X a7 => ?_
    ·have := a9.here (fH FB ((Fct.bare (rdH1 (bts M)).1 (rdH2 (bts M)).1 (rdH3 (bts M)).1).cells none 0 none 0 none 0)) (by simp)
     simp only at this
     simp [blkW, this]
    ·rcases a7 with ⟨V, rfl⟩ | ⟨Bs, vs, rfl, hrow, hc⟩
     ·refine ⟨rK B M (rdH3 (bts M)).2.1 :: fH FB _ :: X, List.perm_append_comm, _, _, _, X, rfl, rfl, fun _ => finX ?_, fun h => absurd rfl h⟩
      have e : decFRun (bts M) = (Fct.bare (rdH1 (bts M)).1 (rdH2 (bts M)).1 (rdH3 (bts M)).1, ((rdH3 (bts M)).2.1, 50)) := by
       rw [decFRun, V, rdKind, if_pos ⟨O, V⟩]; rfl
      rw [e]
      exact ⟨show (50 : Int) ≠ 0 by decide, rfl, _, _, X, rfl, rfl⟩
     ·refine ⟨rK B M (rdH3 (bts M)).2.1 :: fH FB _ :: X, List.perm_append_comm, _, _, _, X, rfl, rfl, fun h => ?_, fun h => ?_⟩
      ·have b4 := hc.len
       have V : kfields (rdH3 (bts M)).1 = [] := List.length_eq_zero_iff.1 (by omega)
       have e : decFRun (bts M) = (Fct.bare (rdH1 (bts M)).1 (rdH2 (bts M)).1 (rdH3 (bts M)).1, ((rdH3 (bts M)).2.1, 50)) := by
        rw [decFRun, V, rdKind, if_pos ⟨O, V⟩]; rfl
       rw [e]
       exact finX ⟨show (50 : Int) ≠ 0 by decide, rfl, _, _, X, rfl, rfl⟩
      ·have b0 : kfields (rdH3 (bts M)).1 ≠ [] := fun V => h (by rw [V]; rfl)
       refine rFact_loop a2 hrow hc (kfields (rdH3 (bts M)).1).length 0 (Fct.bare (rdH1 (bts M)).1 (rdH2 (bts M)).1 (rdH3 (bts M)).1) (rdH3 (bts M)).2.1 none 0 none 0 none 0 [] (by omega) ?_ a4.2.2 ?_
       ·rw [List.drop_zero, decFRun, rdKind, if_neg (fun a8 => b0 a8.2), b1]
       ·exact noLists rfl rfl rfl ⟨e0_sz, e0_sz, e0_sz, e0_sz, e0_sz⟩
   ·rw [← a6] at O
    have e : (rdH3 (bts M)).2.2 = 10 := O
    rw [decFRun_bad (by rw [e]; decide), e]
    exact ⟨by decide, rfl, _, _, [], rfl, rfl⟩
  ·rw [← a5] at Z
   have e : (rdH2 (bts M)).2.2 = 10 := Z
   have a0 : (rdH3 (bts M)).2 = (rdH2 (bts M)).2 := rdI_err (by rw [e]; decide)
   rw [decFRun_bad (by rw [a0, e]; decide), a0, e]
   exact ⟨by decide, rfl, _, _, [], rfl, rfl⟩
 ·have e : (rdH1 (bts M)).2.2 = 10 := a1
  have a3 : (rdH2 (bts M)).2 = (rdH1 (bts M)).2 := rdI_err (by rw [e]; decide)
  have a0 : (rdH3 (bts M)).2 = (rdH2 (bts M)).2 := rdI_err (by rw [a3, e]; decide)
  rw [decFRun_bad (by rw [a0, a3, e]; decide), a0, a3, e]
  exact ⟨by decide, rfl, _, _, [], rfl, rfl⟩
abbrev zF18aa : Array Value := #[IV 0, IV 0, IV 0, IV 0, sZ, IV 0, IV 0, sZ, sZ, .slice none 0 0, .slice none 0 0, IV 0, .slice none 0 0, IV 0, IV 0, IV 0, IV 0, IV 0, sZ, sZ, IV 0, IV 0, IV 0]
abbrev fDecodeH0 (B : Nat) (e : Fct) (k : OA) (j : Nat) (i : OA) (h : Nat) (g : OA) (f a b : Nat) (l : BA) (d : Int) (c : SHeap) : SHeap := ((B, .cells ⟨e.cells k j i h g f⟩ 38) :: (a, .cells #[IV 0] 25) :: (b, .cells #[.bool true, .string l, IV d, .pointer none, .slice none 0 0] 105) :: c)
abbrev fDecodeH1 (B a b : Nat) (e : BA) (d : Int) (c : SHeap) : SHeap := ((B, .cells zF18aa 38) :: (a, .cells #[IV 10] 25) :: (b, .cells #[.bool true, .string e, IV d, .pointer none, .slice none 0 0] 105) :: c)
abbrev fDecodeH2 (B a b : Nat) (e : BA) (d : Int) (c : SHeap) : SHeap := ((B, .cells zF18aa 38) :: (a, .cells #[IV 50] 25) :: (b, .cells #[.bool true, .string e, IV d, .pointer none, .slice none 0 0] 105) :: c)
abbrev fDecodeH3 (B a : Nat) (c : Int) (b : SHeap) : SHeap := ((B, .cells zF18aa 38) :: (a, .cells #[IV c] 25) :: b)
abbrev fDecodeA0 : Array Value := zF18aa
abbrev fDecodeA1 (a : Fct) (g : OA) (f : Nat) (e : OA) (d : Nat) (c : OA) (b : Nat) : Array Value := ⟨a.cells g f e d c b⟩
theorem fDecode_vc (e : BA) (hm : Mem [] [] w0 W)
 (H :
 ∀ B c d : Nat,
 CallP TP 59 ⟨[PP d, PP B]⟩ [(B, .cells fDecodeA0 38), (c, .cells #[IV 0] 25), (d, .cells #[.bool true, .string e, IV 0, .pointer none, .slice none 0 0] 105)] [] w0 (fun v L' => ∃ (f : Int) (h : Fct) (n : OA) (m : Nat) (l : OA) (k : Nat) (j : OA) (i : Nat), ∃ g, v = .tuple #[] ∧ L' = (fDecodeH0 B h n m l k j i c d e f g) ∧
 Br (f < (e.size : Int))
 (DCall TP 123 ⟨[PP B, PP c]⟩ (fDecodeH1 B c d e f g) [] w0 .returning (fun p L' => p = .returning ∧ L' = (fDecodeH1 B c d e f g) ∧
 Fin R (fDecodeH1 B c d e f g) [] w0 (.tuple #[.agg fDecodeA0, IV 10])))
 (CallH TP 24 ⟨[.agg (fDecodeA1 h n m l k j i)]⟩ (fDecodeH0 B h n m l k j i c d e f g) [] w0 (fun v L' => ∃ s, v = .bool s ∧ L' = (fDecodeH0 B h n m l k j i c d e f g) ∧
 Bb (s)
 (DCall TP 123 ⟨[PP B, PP c]⟩ (fDecodeH0 B h n m l k j i c d e f g) [] w0 .returning (fun p L' => p = .returning ∧ L' = (fDecodeH0 B h n m l k j i c d e f g) ∧
 Fin R (fDecodeH0 B h n m l k j i c d e f g) [] w0 (.tuple #[.agg (fDecodeA1 h n m l k j i), IV 0])))
 (DCall TP 123 ⟨[PP B, PP c]⟩ (fDecodeH2 B c d e f g) [] w0 .returning (fun p L' => p = .returning ∧ L' = (fDecodeH2 B c d e f g) ∧
 Fin R (fDecodeH2 B c d e f g) [] w0 (.tuple #[.agg fDecodeA0, IV 50])))))) (fun a4 L' => ∃ (t : Value) (w : Value) (N : Value) (X : Value) (Y : Value) (Z : Value) (a0 : Value) (a1 : Value) (a2 : Value) (a3 : Value) (x : Value) (y : Value) (z : Value) (A : Value) (C : Value) (D : Value) (E : Value) (F : Value) (G : Value) (M : Value) (O : Value) (Q : Value) (V : Value) (o : Int) (q : SHeap), a4 = [{ v := .iface 25 (IV o), recovered := false }] ∧ L' = ((B, .cells #[t, w, N, X, Y, Z, a0, a1, a2, a3, x, y, z, A, C, D, E, F, G, M, O, Q, V] 38) :: (c, .cells #[IV 0] 25) :: q) ∧
 DCall TP 123 ⟨[PP B, PP c]⟩ ((B, .cells #[t, w, N, X, Y, Z, a0, a1, a2, a3, x, y, z, A, C, D, E, F, G, M, O, Q, V] 38) :: (c, .cells #[IV 0] 25) :: q) [] w0 (.panicking [{ v := .iface 25 (IV o), recovered := false }]) (fun p L' => p = (.panicking [{ v := .iface 25 (IV o), recovered := true }]) ∧ L' = (fDecodeH3 B c o q) ∧
 Fin R (fDecodeH3 B c o q) [] w0 (.tuple #[.agg fDecodeA0, IV o])))) :
 Calls TP 85 ⟨[.string e]⟩ W R:= by
 refine AtE.cs 24 Tryz.func85 hm (.ru 2 (.nH (.cells fDecodeA0 38) H fun B H => (.nH (.cells #[IV 0] 25) H fun c H => (.ru 4 (.defer (d := ⟨.fn (.func 123) #[PP B, PP c], #[]⟩) (by kernel_rfl) (fun W => by kernel_rfl) (.ru 5 (.nH (.cells #[.bool true, .string e, IV 0, .pointer none, .slice none 0 0] 105) H fun d H => (.ru 5 (.callP 59 ⟨[PP d, PP B]⟩ (fun W => by kernel_rfl) (by kernel_rfl) H ?_ ?_)))))))))
 rotate_left
 ·clear H
  rintro _ _ ⟨t, w, N, X, Y, Z, a0, a1, a2, a3, x, y, z, A, C, D, E, F, G, M, O, Q, V, o, q, rfl, rfl, H⟩
  refine RaiseE.dfr Tryz.func85 rfl (fun W => by kernel_rfl) (DCall.mono H ?_)
  rintro _ _ ⟨rfl, rfl, H⟩
  exact ⟨rfl, _, ResOk.cells2 (a := 2) (b := 3) (T := 38) (U := 25) (u := .agg fDecodeA0) (v := IV o) 0 0 1 0 (by kernel_rfl) (by kernel_rfl), H⟩
 rintro _ _ ⟨f, h, n, m, l, k, j, i, g, rfl, rfl, H⟩
 refine .ru 7 (.load 2 2 (T := 3) (v := IV f) (by kernel_rfl) (.ru 4 (.sP 17 H (fun H => ?_) fun H => ?_)))
 ·refine .nm (KC Tryz.f85 125) [(2, PP B), (3, PP c), (17, .bool true)] (fDecodeH0 B h n m l k j i c d e f g) (.ru 4 (.store 0 0 (T := 38) (v := .agg fDecodeA0) (by kernel_rfl) (.store 1 0 (T := 25) (v := IV 10) (by kernel_rfl) (.ru 1 (.retD Tryz.func85 rfl (fun W => by kernel_rfl) (by kernel_rfl) (DCall.mono H ?_))))))
  rintro _ _ ⟨rfl, rfl, H⟩
  exact ⟨rfl, _, ResOk.cells2 (a := 2) (b := 3) (T := 38) (U := 25) (u := .agg fDecodeA0) (v := IV 10) 0 0 1 0 (by kernel_rfl) (by kernel_rfl), H⟩
 ·refine .nm (KC Tryz.f85 125) [(2, PP B), (3, PP c), (17, .bool false)] (fDecodeH0 B h n m l k j i c d e f g) (.ru 5 (.load 0 0 (T := 38) (v := .agg (fDecodeA1 h n m l k j i)) (by kernel_rfl) (.cl H ?_)))
  rintro _ _ ⟨s, rfl, rfl, H⟩
  refine .sB 20 H (fun H => ?_) fun H => ?_
  ·refine .ru 6 (.load 0 0 (T := 38) (v := .agg (fDecodeA1 h n m l k j i)) (by kernel_rfl) (.store 0 0 (T := 38) (v := .agg (fDecodeA1 h n m l k j i)) (by kernel_rfl) (.store 1 0 (T := 25) (v := IV 0) (by kernel_rfl) (.ru 1 (.retD Tryz.func85 rfl (fun W => by kernel_rfl) (by kernel_rfl) (DCall.mono H ?_))))))
   rintro _ _ ⟨rfl, rfl, H⟩
   exact ⟨rfl, _, ResOk.cells2 (a := 2) (b := 3) (T := 38) (U := 25) (u := .agg (fDecodeA1 h n m l k j i)) (v := IV 0) 0 0 1 0 (by kernel_rfl) (by kernel_rfl), H⟩
  ·refine .ru 6 (.store 0 0 (T := 38) (v := .agg fDecodeA0) (by kernel_rfl) (.store 1 0 (T := 25) (v := IV 50) (by kernel_rfl) (.ru 1 (.retD Tryz.func85 rfl (fun W => by kernel_rfl) (by kernel_rfl) (DCall.mono H ?_)))))
   rintro _ _ ⟨rfl, rfl, H⟩
   exact ⟨rfl, _, ResOk.cells2 (a := 2) (b := 3) (T := 38) (U := 25) (u := .agg fDecodeA0) (v := IV 50) 0 0 1 0 (by kernel_rfl) (by kernel_rfl), H⟩
theorem fdecR_vc (b a : Nat) (d : Value) (e : Value) (p : Value) (u : Value) (w : Value) (x : Value) (y : Value) (z : Value) (A : Value) (C : Value) (f : Value) (g : Value) (h : Value) (i : Value) (j : Value) (k : Value) (l : Value) (m : Value) (n : Value) (o : Value) (q : Value) (s : Value) (t : Value) (c : Int) {R : Ending → FrameMode → World → Prop} (hm : Mem [(b, .cells #[d, e, p, u, w, x, y, z, A, C, f, g, h, i, j, k, l, m, n, o, q, s, t] 38), (a, .cells #[IV c] 25)] S w0 W)
 (H :
 FinD R .returning [(b, .cells #[d, e, p, u, w, x, y, z, A, C, f, g, h, i, j, k, l, m, n, o, q, s, t] 38), (a, .cells #[IV c] 25)] S w0 (.tuple #[])) :
 CallsD TP 123 ⟨[PP b, PP a]⟩ .returning W R:= by
 refine AtE.callsD (nt := 13) Tryz.func123 (by kernel_rfl) hm (.ru 2 (.recoverN (by kernel_rfl) (fun W => by kernel_rfl) (.ru 11 (.retG Tryz.func123 (by kernel_rfl) H))))
abbrev fdecPA0 : Array Value := #[IV 0, IV 0, IV 0, IV 0, sZ, IV 0, IV 0, sZ, sZ, .slice none 0 0, .slice none 0 0, IV 0, .slice none 0 0, IV 0, IV 0, IV 0, IV 0, IV 0, sZ, sZ, IV 0, IV 0, IV 0]
theorem fdecP_vc (c b : Nat) (e : Value) (f : Value) (q : Value) (w : Value) (x : Value) (y : Value) (z : Value) (A : Value) (C : Value) (D : Value) (g : Value) (h : Value) (i : Value) (j : Value) (k : Value) (l : Value) (m : Value) (n : Value) (o : Value) (p : Value) (s : Value) (t : Value) (u : Value) (d a : Int) {R : Ending → FrameMode → World → Prop} (hm : Mem [(c, .cells #[e, f, q, w, x, y, z, A, C, D, g, h, i, j, k, l, m, n, o, p, s, t, u] 38), (b, .cells #[IV d] 25)] S w0 W)
 (H :
 FinD R (.panicking [{ v := .iface 25 (IV a), recovered := true }]) [(c, .cells fdecPA0 38), (b, .cells #[IV a] 25)] S w0 (.tuple #[])) :
 CallsD TP 123 ⟨[PP c, PP b]⟩ (.panicking [{ v := .iface 25 (IV a), recovered := false }]) W R:= by
 refine AtE.callsD (nt := 13) Tryz.func123 (by kernel_rfl) hm (.ru 2 (.recoverP (v := .iface 25 (IV a)) (by kernel_rfl) (fun W => by kernel_rfl) (.ru 21 (.st 0 0 (.st 1 0 (.ru 2 (.retG Tryz.func123 (by kernel_rfl) H)))))))
def EffD (P : Program) (g : FuncId) (args : Array Value) (L0 : SHeap) (u : FrameMode) (K : FrameMode → SHeap → Prop) : Prop :=
 ∀ W, Mem L0 (L0.map (·.1)) W W → CallsD P g args u W fun e u' W' => ∃ v L', e = .returned v ∧ Mem L' (L0.map (·.1)) W W' ∧ K u' L'
theorem DCall.eff {L0 L1 L : SHeap} {u : FrameMode} {K K' : FrameMode → SHeap → Prop} (h : EffD P g args L0 u K) (hp : (L0 ++ L1).Perm L)
  (a5 : ∀ M L', K M L' → ∃ O, (L' ++ L1).Perm O ∧ K' M O) : DCall P g args L S w0 u K' := by
 intro W hm c cs a6
 have V : Mem (L0 ++ L1) S w0 W := hm.perm hp
 have Z := V.nodup
 rw [List.map_append, List.nodup_append] at Z
 obtain ⟨en, M, a0, fr, ⟨v, L', a1, a2, a3⟩, a4⟩ := h W ⟨Z.1, fun p hp => V.here p (List.mem_append_left _ hp), fun p hp => .inr (List.mem_map_of_mem hp), Kept.refl _ W⟩ c cs a6
 obtain ⟨O, a8, a7⟩ := a5 M L' a3
 exact ⟨en, M, a0, fr, ⟨v, O, a1, Mem.perm (L := L' ++ L1) (V.framed a2) a8.symm, a7⟩, a4⟩
theorem len_succ {α : Type} {l : List α} {n : Nat} (h : l.length = n + 1) : ∃ a t, l = a :: t ∧ t.length = n := by
 cases l with
 | nil => simp at h
 | cons a t => exact ⟨a, t, rfl, by simpa using h⟩
theorem len23 {l : List Value} (h : l.length = 23) : ∃ O V a9 b4 b5 b6 b7 b9 c2 c3 Z a0 a1 a2 a3 a4 a5 a6 a7 a8 b0 b1 b3, l = [O, V, a9, b4, b5, b6, b7, b9, c2, c3, Z, a0, a1, a2, a3, a4, a5, a6, a7, a8, b0, b1, b3] := by
 obtain ⟨O, h3, e0, e7⟩ := len_succ h
 obtain ⟨V, h4, e1, e8⟩ := len_succ e7
 obtain ⟨a9, i5, d4, g3⟩ := len_succ e8
 obtain ⟨b4, i9, d8, g6⟩ := len_succ g3
 obtain ⟨b5, j0, d9, g7⟩ := len_succ g6
 obtain ⟨b6, j1, e2, g8⟩ := len_succ g7
 obtain ⟨b7, j2, e3, g9⟩ := len_succ g8
 obtain ⟨b9, j3, e4, h0⟩ := len_succ g9
 obtain ⟨c2, j4, e5, h1⟩ := len_succ h0
 obtain ⟨c3, j5, e6, h2⟩ := len_succ h1
 obtain ⟨Z, h5, c4, e9⟩ := len_succ h2
 obtain ⟨a0, h6, c5, f2⟩ := len_succ e9
 obtain ⟨a1, h7, c6, f3⟩ := len_succ f2
 obtain ⟨a2, h8, c7, f4⟩ := len_succ f3
 obtain ⟨a3, h9, c8, f5⟩ := len_succ f4
 obtain ⟨a4, i0, c9, f6⟩ := len_succ f5
 obtain ⟨a5, i1, d0, f7⟩ := len_succ f6
 obtain ⟨a6, i2, d1, f8⟩ := len_succ f7
 obtain ⟨a7, i3, d2, f9⟩ := len_succ f8
 obtain ⟨a8, i4, d3, g2⟩ := len_succ f9
 obtain ⟨b0, i6, d5, g4⟩ := len_succ g2
 obtain ⟨b1, i7, d6, g5⟩ := len_succ g4
 obtain ⟨b3, i8, d7, M⟩ := len_succ g5
 rw [List.length_eq_zero_iff] at M
 subst M d7 d6 d5 d3 d2 d1 d0 c9 c8 c7 c6 c5 c4 e6 e5 e4 e3 e2 d9 d8 d4 e1 e0
 exact ⟨_, _, _, _, _, _, _, _, _, _, _, _, _, _, _, _, _, _, _, _, _, _, _, rfl⟩
abbrev eH (B : Nat) (e : Int) : Nat × Obj := (B, .cells #[.int .i64 e] 25)
theorem fdecR_e {B C : Nat} {cs : List Value} {e : Int} (h : cs.length = 23) : EffD TP 123 ⟨[pt B 0, pt C 0]⟩ [fH B cs, eH C e] .returning (fun O L' => O = .returning ∧ L' = [fH B cs, eH C e]) := by
 intro W hm
 obtain ⟨Z, a0, b1, b6, b7, b9, c2, c3, c4, c5, a1, a2, a3, a4, a5, a6, a7, a8, a9, b0, b3, b4, b5, rfl⟩ := len23 h
 exact fdecR_vc B C _ _ _ _ _ _ _ _ _ _ _ _ _ _ _ _ _ _ _ _ _ _ _ e hm fun V M => ⟨_, _, rfl, M, rfl, rfl⟩
theorem fdecP_e {B C : Nat} {cs : List Value} {e x : Int} (h : cs.length = 23) : EffD TP 123 ⟨[pt B 0, pt C 0]⟩ [fH B cs, eH C e] (.panicking (pan x))
  (fun O L' => O = .panicking [{ v := .iface 25 (.int .i64 x), recovered := true }] ∧ L' = [fH B (Fct.zero.cells none 0 none 0 none 0), eH C x]) := by
 intro W hm
 obtain ⟨Z, a0, b1, b6, b7, b9, c2, c3, c4, c5, a1, a2, a3, a4, a5, a6, a7, a8, a9, b0, b3, b4, b5, rfl⟩ := len23 h
 exact fdecP_vc B C _ _ _ _ _ _ _ _ _ _ _ _ _ _ _ _ _ _ _ _ _ _ _ e x hm fun V M => ⟨_, _, rfl, M, rfl, rfl⟩
theorem permD {a b x : Nat × Obj} {N : SHeap} : ((a :: b :: N) ++ [x]).Perm (b :: x :: a :: N) :=
 (((List.perm_append_comm (l₁ := N) (l₂ := [x])).cons b).cons a).trans ((List.Perm.swap b a _).trans ((List.Perm.swap x a N).cons b))
def DecFOut (r : Fct × Int) (v : Value) (F : SHeap) : Prop := ∃ tp tc bp bc ap ac, v = .tuple #[.agg ⟨r.1.cells tp tc bp bc ap ac⟩, .int .i64 r.2] ∧ FAt (lkF F) r.1 tp tc bp bc ap ac
theorem zeroAt : FAt lk Fct.zero none 0 none 0 none 0 := noLists rfl rfl rfl ⟨e0_sz, e0_sz, e0_sz, e0_sz, e0_sz⟩
theorem DecFOut.zero {e : Int} {F : SHeap} : DecFOut (Fct.zero, e) (.tuple #[.agg ⟨Fct.zero.cells none 0 none 0 none 0⟩, .int .i64 e]) F := ⟨none, 0, none, 0, none, 0, rfl, zeroAt⟩
theorem fDecode_e {s : BA} (a6 : s.size < 4611686018427387904) : EffC TP 85 ⟨[.string s]⟩ [] (DecFOut (decF (bts s))) := by
 intro W hm
 refine fDecode_vc s hm fun B O B2 => ?_
 refine CallP.eff (L1 := [eH O 0]) (rFact_e (B := B2) (FB := B) a6) (fun _ _ => trivial) permD ?_ ?_
 ·rintro _ _ ⟨V, rfl, tp, tc, bp, bc, ap, ac, N, rfl, a3⟩
  refine ⟨_, permD, (decFRun (bts s)).2.1, (decFRun (bts s)).1, tp, tc, bp, bc, ap, ac, N, rfl, rfl, fun a4 => ?_, fun a4 => ?_⟩
  ·have e : decF (bts s) = (Fct.zero, 10) := by rw [decF, if_neg (by simpa using V), if_pos (by rw [bts_len]; omega)]
   rw [e]
   exact DCall.eff (L1 := rK B2 s (decFRun (bts s)).2.1 :: N) (fdecR_e (B := B) (C := O) (cs := Fct.zero.cells none 0 none 0 none 0) (e := 10) rfl) (List.Perm.refl _) fun u' L' ⟨hu, hL⟩ => ⟨_, List.Perm.refl _, hu, by rw [hL]; rfl, fun Z M => ⟨_, _, rfl, M, DecFOut.zero⟩⟩
  ·refine CallH.pw (fun Z M => fValid_c (a3.mono (lkF_W M fun x a1 => List.mem_cons_of_mem _ (List.mem_cons_of_mem _ (List.mem_cons_of_mem _ a1))))) ⟨_, rfl, rfl, fun a0 => ?_, fun a0 => ?_⟩
   ·have e : decF (bts s) = ((decFRun (bts s)).1, 0) := by rw [decF, if_neg (by simpa using V), if_neg (by rw [bts_len]; omega), if_pos a0]
    rw [e]
    exact DCall.eff (L1 := rK B2 s (decFRun (bts s)).2.1 :: N) (fdecR_e (B := B) (C := O) (cs := (decFRun (bts s)).1.cells tp tc bp bc ap ac) (e := 0) rfl) (List.Perm.refl _) fun u' L' ⟨hu, hL⟩ => ⟨_, List.Perm.refl _, hu, by rw [hL]; rfl, fun Z M => ⟨_, _, rfl, M, tp, tc, bp, bc, ap, ac, rfl, a3.mono (lkF_mono fun x a1 => List.mem_cons_of_mem _ (List.mem_cons_of_mem _ (List.mem_cons_of_mem _ a1)))⟩⟩
   ·have e : decF (bts s) = (Fct.zero, 50) := by rw [decF, if_neg (by simpa using V), if_neg (by rw [bts_len]; omega), if_neg (by rw [a0]; decide)]
    rw [e]
    exact DCall.eff (L1 := rK B2 s (decFRun (bts s)).2.1 :: N) (fdecR_e (B := B) (C := O) (cs := Fct.zero.cells none 0 none 0 none 0) (e := 50) rfl) (List.Perm.refl _) fun u' L' ⟨hu, hL⟩ => ⟨_, List.Perm.refl _, hu, by rw [hL]; rfl, fun Z M => ⟨_, _, rfl, M, DecFOut.zero⟩⟩
 ·rintro _ _ ⟨V, rfl, a, cs, N, rfl, a2⟩
  have e : decF (bts s) = (Fct.zero, (decFRun (bts s)).2.2) := by rw [decF, if_pos V]
  rw [e]
  have a5 : EffD TP 123 ⟨[pt B 0, pt O 0]⟩ [fH B cs, eH O 0] (.panicking (pan (decFRun (bts s)).2.2)) _ := fdecP_e a2
  obtain ⟨a7, a8, c3, c7, c8, c9, d0, d1, d2, d3, a9, b0, b1, b3, b4, b5, b6, b7, b9, c2, c4, c5, c6, rfl⟩ := len23 a2
  refine ⟨_, permD, a7, a8, c3, c7, c8, c9, d0, d1, d2, d3, a9, b0, b1, b3, b4, b5, b6, b7, b9, c2, c4, c5, c6, _, rK B2 s a :: N, rfl, rfl, ?_⟩
  exact DCall.eff (L1 := rK B2 s a :: N) a5 (List.Perm.refl _) fun u' L' ⟨hu, hL⟩ => ⟨_, List.Perm.refl _, hu, by rw [hL]; rfl, fun Z M => ⟨_, _, rfl, M, DecFOut.zero⟩⟩
abbrev zF20aa (a b x2 x3 : Nat) (x4 x5 : OA) : Array Value := #[IV 0, IV 0, IV 0, IV 0, sZ, IV 0, IV 0, sZ, sZ, .slice x4 a b, .slice none 0 0, IV 0, .slice x5 x2 x3, IV 0, IV 0, IV 0, IV 0, IV 0, sZ, sZ, IV 0, IV 0, IV 0]
abbrev zF20ab : Array Value := #[IV 0, IV 0, IV 0, IV 0, sZ, IV 0, IV 0, sZ, sZ, .slice none 0 0, .slice none 0 0, IV 0, .slice none 0 0, IV 0, IV 0, IV 0, IV 0, IV 0, sZ, sZ, IV 0, IV 0, IV 0]
abbrev zF20ac (a : Fct) (b x2 x3 : Nat) (x4 x5 : OA) : Array Value := #[IV a.n, IV a.time, IV a.kind, IV a.story, .string a.lang, IV a.rev, IV a.base, .string a.title, .string a.author, .slice x4 b x2, .slice none 0 0, IV a.lab.unt, .slice x5 a.lab.after.length x3, IV a.lab.appr, IV a.lab.den, IV a.editor, IV a.block, IV a.sentence, .string a.text, .string a.name, IV a.partner, IV a.cls, IV a.unt]
abbrev zF20ad (a : Fct) : Array Value := #[IV a.n, IV a.time, IV 10, IV a.story, sZ, IV 0, IV 0, sZ, sZ, .slice none 0 0, .slice none 0 0, IV 0, .slice none 0 0, IV 0, IV 0, IV 0, IV 0, IV 0, sZ, sZ, IV 0, IV 0, IV 0]
abbrev fRedactH0 (c : Nat) (a : Fct) (p : OA) (o m b i h : Nat) (g : OA) (f : Nat) (cs : List Value) (d : Nat) (t : OA) (s q : Nat) (l : OA) (k j : Nat) (e : SHeap) : SHeap := ((c, .cells #[IV a.n, IV a.time, IV a.kind, IV a.story, .string a.lang, IV a.rev, IV a.base, .string a.title, .string a.author, .slice p o m, .slice (SO b) i h, IV a.lab.unt, .slice g a.lab.after.length f, IV a.lab.appr, IV a.lab.den, IV a.editor, IV a.block, IV a.sentence, .string a.text, .string a.name, IV a.partner, IV a.cls, IV a.unt] 38) :: (b, .cells ⟨cs⟩ 149) :: (d, .cells (zF20aa s q k j t l) 38) :: e)
abbrev fRedactH1 (a B : Nat) (c : Fct) (i : OA) (h : Nat) (g : OA) (f : Nat) (e : OA) (d : Nat) (b : SHeap) : SHeap := ((a, .cells zF20ab 38) :: (B, .cells ⟨c.cells i h g f e d⟩ 38) :: b)
abbrev fRedactH2 (a : Nat) (d : Fct) (o : OA) (n m : Nat) (f : OA) (e b : Nat) (l : OA) (k j : Nat) (i : OA) (h g : Nat) (c : SHeap) : SHeap := ((a, .cells (zF20ac d n m e o f) 38) :: (b, .cells (zF20aa k j h g l i) 38) :: c)
abbrev fRedactH3 (b : Nat) (a : Fct) (B : Nat) (i : OA) (h : Nat) (g : OA) (f : Nat) (e : OA) (d : Nat) (c : SHeap) : SHeap := ((b, .cells (zF20ad a) 38) :: (B, .cells ⟨a.cells i h g f e d⟩ 38) :: c)
abbrev fRedactA0 (a : Fct) : Array Value := (zF20ad a)
abbrev fRedactA1 (a : Fct) (i : OA) (h g c f e b d : Nat) : Array Value := #[IV a.n, IV a.time, IV a.kind, IV a.story, .string a.lang, IV a.rev, IV a.base, .string a.title, .string a.author, .slice i h g, .slice (SO c) f e, IV a.lab.unt, .slice (SO b) a.lab.after.length d, IV a.lab.appr, IV a.lab.den, IV a.editor, IV a.block, IV a.sentence, .string a.text, .string a.name, IV a.partner, IV a.cls, IV a.unt]
abbrev fRedactA2 (a : Fct) (f : OA) (e d b c : Nat) : Array Value := #[IV a.n, IV a.time, IV a.kind, IV a.story, .string a.lang, IV a.rev, IV a.base, .string a.title, .string a.author, .slice f e d, .slice none 0 0, IV a.lab.unt, .slice (SO b) a.lab.after.length c, IV a.lab.appr, IV a.lab.den, IV a.editor, IV a.block, IV a.sentence, .string a.text, .string a.name, IV a.partner, IV a.cls, IV a.unt]
abbrev fRedactA3 (a : Fct) (g : OA) (f e b d c : Nat) : Array Value := #[IV a.n, IV a.time, IV a.kind, IV a.story, .string a.lang, IV a.rev, IV a.base, .string a.title, .string a.author, .slice g f e, .slice (SO b) d c, IV a.lab.unt, .slice none 0 0, IV a.lab.appr, IV a.lab.den, IV a.editor, IV a.block, IV a.sentence, .string a.text, .string a.name, IV a.partner, IV a.cls, IV a.unt]
abbrev fRedactA4 (a : Fct) (d : OA) (c b : Nat) : Array Value := #[IV a.n, IV a.time, IV a.kind, IV a.story, .string a.lang, IV a.rev, IV a.base, .string a.title, .string a.author, .slice d c b, .slice none 0 0, IV a.lab.unt, .slice none 0 0, IV a.lab.appr, IV a.lab.den, IV a.editor, IV a.block, IV a.sentence, .string a.text, .string a.name, IV a.partner, IV a.cls, IV a.unt]
abbrev fRedactA5 : Array Value := zF20ab
abbrev fRedactA6 (a : Fct) (g : OA) (f : Nat) (e : OA) (d : Nat) (c : OA) (b : Nat) : Array Value := ⟨a.cells g f e d c b⟩
abbrev fRedactA7 (f : OA) (e d : Nat) (c : OA) (b a : Nat) : Array Value := (zF20aa e d b a f c)
abbrev fRedactA8 (a : Fct) (i : OA) (h g b f e : Nat) (d : OA) (c : Nat) : Array Value := #[IV a.n, IV a.time, IV a.kind, IV a.story, .string a.lang, IV a.rev, IV a.base, .string a.title, .string a.author, .slice i h g, .slice (SO b) f e, IV a.lab.unt, .slice d a.lab.after.length c, IV a.lab.appr, IV a.lab.den, IV a.editor, IV a.block, IV a.sentence, .string a.text, .string a.name, IV a.partner, IV a.cls, IV a.unt]
def fRedact_c0 (d : Fct) (w : OA) (u : Nat) (t : OA) (s : Nat) (f : OA) (e a b : Nat) (p q : Int) (o : OA) (n m : Nat) (l : OA) (k j : Nat) (i : OA) (h g : Nat) (c : SHeap) (w0 : World) (R : Ending → World → Prop) : Prop :=
 AtE TP 81 53 (KC Tryz.f81 500) [(1, PP a), (2, PP b), (27, IV p), (28, IV q)] (fRedactH2 a d o n m f e b l k j i h g c) [] w0 (nrm R)
def fRedact_c1 (c : Fct) (y : OA) (x : Nat) (w : OA) (u : Nat) (g : OA) (f a d b : Nat) (t : Int) (o : OA) (n m i h : Nat) (cs : List Value) (s : OA) (q p : Nat) (l : OA) (k j : Nat) (e : SHeap) (w0 : World) (R : Ending → World → Prop) : Prop :=
 AtE TP 81 53 (KC Tryz.f81 500) [(1, PP a), (2, PP b), (27, IV (c.blocks.length : Int)), (28, IV t)] (fRedactH0 a c o n m d i h g f cs b s q p l k j e) [] w0 (nrm R)
theorem fRedact_c0_vc (b : Fct) (G : OA) (F : Nat) (D : OA) (C : Nat) (k : OA) (j h i : Nat) (A w : Int) (e : OA) (d c : Nat) (t : OA) (s q : Nat) (p : OA) (o n : Nat) (l : SHeap)
 (H :
 Br (w < A)
 (False)
 (∃ m : List Value, (∀ W, Mem (fRedactH2 h b e d c k j i t s q p o n l) [] w0 W → Go.Src TP 1 34 (.slice k b.lab.after.length j) b.lab.after.length m W) ∧
 (b.lab.after.length ≤ 9223372036854775807 ∧ b.lab.after.length * 8 ≤ 140737488355328) ∧ ((b.lab.after.length = 0 →
 Fin R ((h, .cells (fRedactA4 b e d c) 38) :: (i, .cells (fRedactA4 b e d c) 38) :: l) [] w0 (.agg (fRedactA4 b e d c))) ∧
 (0 < b.lab.after.length → ∀ (g f : Nat) (u : List Value), b.lab.after.length ≤ f → (m ++ u).length = f * 1 →
 Fin R ((g, .cells ⟨(m ++ u)⟩ 3) :: (h, .cells (fRedactA2 b e d c g f) 38) :: (i, .cells (fRedactA2 b e d c g f) 38) :: l) [] w0 (.agg (fRedactA2 b e d c g f)))))) :
 fRedact_c0 b G F D C k j h i A w e d c t s q p o n l w0 R:= by
 unfold fRedact_c0
 refine .ru 5 (.sP 29 H (fun H => ?_) fun H => ?_)
 ·refine .ru 9 (.nm (KC Tryz.f81 16025) [(1, PP h), (2, PP i), (3, IV w), (27, IV A), (28, IV w)] (fRedactH2 h b e d c k j i t s q p o n l) (.dD (.ph 11 [0,1,2,3,4,5,6,7,8,9] [10] [(h, .cells (zF20ac b d c j e k) 38), (i, .cells (zF20aa s q o n t p) 38)] (.pu (.ld 0 10 (.pu (.pu (.ld 0 10 ?_))))))))
  exact H.elim
 ·refine .ru 6 (.ld 0 12 ?_)
  obtain ⟨m, O, H⟩ := H
  refine .appendS (T := 34) (U := 34) (E := 3) (z := IV 0) (sz := 1) (bytes := 8) (x := .slice k b.lab.after.length j) b.lab.after.length m (by kernel_rfl) O H.1 (fun y => ?_) (fun y g f u M N => ?_)
  ·replace H := H.2.1 y
   refine .ru 2 (.store 0 12 (T := 34) (v := .slice none 0 0) (by kernel_rfl) (.ru 3 (.ld 0 0 (.store 1 0 (T := 38) (v := .agg (fRedactA4 b e d c)) (by kernel_rfl) (.ru 1 (.retC 1 0 (a := 2) (T := 38) (v := .agg (fRedactA4 b e d c)) Tryz.func81 (by kernel_rfl) (by kernel_rfl) H))))))
  ·skip
   replace H := H.2.2 y g f u M N
   refine .front (.ru 2 (.store 1 12 (T := 34) (v := .slice (SO g) b.lab.after.length f) (by kernel_rfl) (.ru 3 (.ld 1 0 (.store 2 0 (T := 38) (v := .agg (fRedactA2 b e d c g f)) (by kernel_rfl) (.ru 1 (.retC 2 0 (a := 2) (T := 38) (v := .agg (fRedactA2 b e d c g f)) Tryz.func81 (by kernel_rfl) (by kernel_rfl) H)))))))
theorem fRedact_c1_vc (d : Fct) (a4 : OA) (a3 : Nat) (a2 : OA) (a1 : Nat) (s : OA) (q n f p : Nat) (e : Int) (l : OA) (k j g h : Nat) (cs : List Value) (G : OA) (F D : Nat) (C : OA) (A y : Nat) (t : SHeap)
 (H :
 Br (e < (d.blocks.length : Int))
 ((0 ≤ e ∧ e < g) ∧
 ∃ (X : OA) (m : Nat) (V : Nat), (cs)[((((Int.toNat e) * 9) + 5) + 1)]? = some (.slice X m V) ∧
 ∃ Q : List Value, (∀ W, Mem (fRedactH0 n d l k j f g h s q cs p G F D C A y t) [] w0 W → Go.Src TP 1 34 (.slice X m V) m Q W) ∧
 (m ≤ 9223372036854775807 ∧ m * 8 ≤ 140737488355328) ∧ ((m = 0 →
 (0 ≤ e ∧ e < g) ∧
 (((((Int.toNat e) * 9) + 5) + 1) < (cs).length) ∧
 fRedact_c1 d a4 a3 a2 a1 s q n f p (IntKind.i64.wrap (e + (1 : Int))) l k j g h ((cs).set ((((Int.toNat e) * 9) + 5) + 1) (.slice none 0 0)) G F D C A y t w0 R) ∧
 (0 < m → ∀ (M N : Nat) (Z : List Value), m ≤ N → (Q ++ Z).length = N * 1 →
 (0 ≤ e ∧ e < g) ∧
 (((((Int.toNat e) * 9) + 5) + 1) < (cs).length) ∧
 fRedact_c1 d a4 a3 a2 a1 s q n f p (IntKind.i64.wrap (e + (1 : Int))) l k j g h ((cs).set ((((Int.toNat e) * 9) + 5) + 1) (.slice (SO M) m N)) G F D C A y ((M, .cells ⟨(Q ++ Z)⟩ 3) :: t) w0 R)))
 (∃ Y : List Value, (∀ W, Mem (fRedactH0 n d l k j f g h s q cs p G F D C A y t) [] w0 W → Go.Src TP 1 34 (.slice s d.lab.after.length q) d.lab.after.length Y W) ∧
 (d.lab.after.length ≤ 9223372036854775807 ∧ d.lab.after.length * 8 ≤ 140737488355328) ∧ ((d.lab.after.length = 0 →
 Fin R ((n, .cells (fRedactA3 d l k j f g h) 38) :: (f, .cells ⟨cs⟩ 149) :: (p, .cells (fRedactA3 d l k j f g h) 38) :: t) [] w0 (.agg (fRedactA3 d l k j f g h))) ∧
 (0 < d.lab.after.length → ∀ (w u : Nat) (a0 : List Value), d.lab.after.length ≤ u → (Y ++ a0).length = u * 1 →
 Fin R ((w, .cells ⟨(Y ++ a0)⟩ 3) :: (n, .cells (fRedactA1 d l k j f g h w u) 38) :: (f, .cells ⟨cs⟩ 149) :: (p, .cells (fRedactA1 d l k j f g h w u) 38) :: t) [] w0 (.agg (fRedactA1 d l k j f g h w u)))))) :
 fRedact_c1 d a4 a3 a2 a1 s q n f p e l k j g h cs G F D C A y t w0 R:= by
 unfold fRedact_c1
 refine .ru 5 (.sP 29 H (fun H => ?_) fun H => ?_)
 ·refine .ru 9 (.nm (KC Tryz.f81 16025) [(1, PP n), (2, PP p), (3, IV e), (27, IV (d.blocks.length : Int)), (28, IV e)] (fRedactH0 n d l k j f g h s q cs p G F D C A y t) (.dD (.ph 11 [0,1,2,3,4,5,6,7,8,9] [10] [(n, .cells (fRedactA8 d l k j f g h s q) 38), (f, .cells ⟨cs⟩ 149), (p, .cells (fRedactA7 G F D C A y) 38)] (.pu (.ld 0 10 (.pu (.pu (.ld 0 10 (.pu (.indexAddrL (E := 149) (b := f) (o := 0) (len := g) (cap := h) (sz := 9) (o' := ((Int.toNat e) * 9)) (kd := .i64) (i := e) (by kernel_rfl) H.1 (by omega) ?_))))))))))
  replace H := H.2
  refine .pu (.pu ?_)
  obtain ⟨X, m, V, a8, H⟩ := H
  refine .loadS 1 (off := ((((Int.toNat e) * 9) + 5) + 1)) (T := 34) (v := .slice X m V) (by kernel_rfl) (valAt_one a8 (by kernel_rfl)) (.dn ?_)
  obtain ⟨Q, a7, H⟩ := H
  refine .appendS _ (T := 34) (U := 34) (E := 3) (z := IV 0) (sz := 1) (bytes := 8) (x := .slice X m V) m Q rfl (by kernel_rfl) a7 H.1 (fun O => ?_) (fun O M N Z a5 a6 => ?_)
  ·replace H := H.2.1 O
   refine .dn (.nm [(1, PP n), (2, PP p), (27, IV (d.blocks.length : Int)), (28, IV e), (32, .slice (SO f) g h), (33, IV e), (41, .slice none 0 0)] (fRedactH0 n d l k j f g h s q cs p G F D C A y t) (.tl (.indexAddrL (E := 149) (b := f) (o := 0) (len := g) (cap := h) (sz := 9) (o' := ((Int.toNat e) * 9)) (kd := .i64) (i := e) (by kernel_rfl) H.1 (by omega) ?_)))
   replace H := H.2
   refine .ru 2 (.storeS 1 (off := ((((Int.toNat e) * 9) + 5) + 1)) (lo := 0) (hi := 0) (T := 34) (v := .slice none 0 0) (c := cs) (by kernel_rfl) H.1 (.inr (Nat.zero_le _)) ?_)
   replace H := H.2
   refine .ru 7 (.tT [0,1,2] 3 H)
  ·skip
   replace H := H.2.2 O M N Z a5 a6
   refine .dn (.front (.nm [(1, PP n), (2, PP p), (27, IV (d.blocks.length : Int)), (28, IV e), (32, .slice (SO f) g h), (33, IV e), (41, .slice (SO M) m N)] ((M, .cells ⟨(Q ++ Z)⟩ 3) :: (n, .cells (fRedactA8 d l k j f g h s q) 38) :: (f, .cells ⟨cs⟩ 149) :: (p, .cells (fRedactA7 G F D C A y) 38) :: t) (.tl (.indexAddrL (E := 149) (b := f) (o := 0) (len := g) (cap := h) (sz := 9) (o' := ((Int.toNat e) * 9)) (kd := .i64) (i := e) (by kernel_rfl) H.1 (by omega) ?_))))
   replace H := H.2
   refine .ru 2 (.storeS 2 (off := ((((Int.toNat e) * 9) + 5) + 1)) (lo := 0) (hi := 0) (T := 34) (v := .slice (SO M) m N) (c := cs) (by kernel_rfl) H.1 (.inr (Nat.zero_le _)) ?_)
   replace H := H.2
   refine .ru 7 (.tT [1,2,3,0] 4 H)
 ·refine .ru 6 (.ld 0 12 ?_)
  obtain ⟨Y, a7, H⟩ := H
  refine .appendS (T := 34) (U := 34) (E := 3) (z := IV 0) (sz := 1) (bytes := 8) (x := .slice s d.lab.after.length q) d.lab.after.length Y (by kernel_rfl) a7 H.1 (fun O => ?_) (fun O w u a0 a5 a6 => ?_)
  ·replace H := H.2.1 O
   refine .ru 2 (.store 0 12 (T := 34) (v := .slice none 0 0) (by kernel_rfl) (.ru 3 (.ld 0 0 (.store 2 0 (T := 38) (v := .agg (fRedactA3 d l k j f g h)) (by kernel_rfl) (.ru 1 (.retC 2 0 (a := 2) (T := 38) (v := .agg (fRedactA3 d l k j f g h)) Tryz.func81 (by kernel_rfl) (by kernel_rfl) H))))))
  ·skip
   replace H := H.2.2 O w u a0 a5 a6
   refine .front (.ru 2 (.store 1 12 (T := 34) (v := .slice (SO w) d.lab.after.length u) (by kernel_rfl) (.ru 3 (.ld 1 0 (.store 3 0 (T := 38) (v := .agg (fRedactA1 d l k j f g h w u)) (by kernel_rfl) (.ru 1 (.retC 3 0 (a := 2) (T := 38) (v := .agg (fRedactA1 d l k j f g h w u)) Tryz.func81 (by kernel_rfl) (by kernel_rfl) H)))))))
theorem fRedact_vc (b : Fct) (g : OA) (f : Nat) (d : OA) (c : Nat) (i : OA) (h : Nat) (j : SHeap) (hm : Mem (j) [] w0 W)
 (H :
 ∀ B e : Nat,
 Br (b.kind = 1)
 (Fin R (fRedactH3 e b B g f d c i h j) [] w0 (.agg (fRedactA0 b)))
 (Br (b.kind = 4)
 (Fin R (fRedactH3 e b B g f d c i h j) [] w0 (.agg (fRedactA0 b)))
 (Br (b.kind = 5)
 (Fin R (fRedactH3 e b B g f d c i h j) [] w0 (.agg (fRedactA0 b)))
 (∃ o : List Value, (∀ W, Mem (fRedactH1 e B b g f d c i h j) [] w0 W → Go.Src TP 1 32 (.slice g b.topics.length f) b.topics.length o W) ∧
 (b.topics.length ≤ 9223372036854775807 ∧ b.topics.length * 16 ≤ 140737488355328) ∧ ((b.topics.length = 0 →
 ∃ w : List Value, (∀ W, Mem ((e, .cells fRedactA5 38) :: (B, .cells #[IV b.n, IV b.time, IV b.kind, IV b.story, .string b.lang, IV b.rev, IV b.base, .string b.title, .string b.author, .slice none 0 0, .slice d b.blocks.length c, IV b.lab.unt, .slice i b.lab.after.length h, IV b.lab.appr, IV b.lab.den, IV b.editor, IV b.block, IV b.sentence, .string b.text, .string b.name, IV b.partner, IV b.cls, IV b.unt] 38) :: j) [] w0 W → Go.Src TP 9 33 (.slice d b.blocks.length c) b.blocks.length w W) ∧
 (b.blocks.length ≤ 9223372036854775807 ∧ b.blocks.length * 96 ≤ 140737488355328) ∧ ((b.blocks.length = 0 →
 fRedact_c0 b g f d c i h B e (0 : Int) (0 : Int) none 0 0 none 0 0 none 0 0 j w0 R) ∧
 (0 < b.blocks.length → ∀ (A p : Nat) (D : List Value), b.blocks.length ≤ p → (w ++ D).length = p * 9 →
 fRedact_c1 b g f d c i h B A e (0 : Int) none 0 0 b.blocks.length p (w ++ D) none 0 0 none 0 0 j w0 R))) ∧
 (0 < b.topics.length → ∀ (l m : Nat) (r : List Value), b.topics.length ≤ m → (o ++ r).length = m * 1 →
 ∃ y : List Value, (∀ W, Mem ((l, .cells ⟨(o ++ r)⟩ 9) :: (e, .cells fRedactA5 38) :: (B, .cells #[IV b.n, IV b.time, IV b.kind, IV b.story, .string b.lang, IV b.rev, IV b.base, .string b.title, .string b.author, .slice (SO l) b.topics.length m, .slice d b.blocks.length c, IV b.lab.unt, .slice i b.lab.after.length h, IV b.lab.appr, IV b.lab.den, IV b.editor, IV b.block, IV b.sentence, .string b.text, .string b.name, IV b.partner, IV b.cls, IV b.unt] 38) :: j) [] w0 W → Go.Src TP 9 33 (.slice d b.blocks.length c) b.blocks.length y W) ∧
 (b.blocks.length ≤ 9223372036854775807 ∧ b.blocks.length * 96 ≤ 140737488355328) ∧ ((b.blocks.length = 0 →
 fRedact_c0 b g f d c i h B e (0 : Int) (0 : Int) (SO l) b.topics.length m none 0 0 none 0 0 ((l, .cells ⟨(o ++ r)⟩ 9) :: j) w0 R) ∧
 (0 < b.blocks.length → ∀ (C q : Nat) (F : List Value), b.blocks.length ≤ q → (y ++ F).length = q * 9 →
 fRedact_c1 b g f d c i h B C e (0 : Int) (SO l) b.topics.length m b.blocks.length q (y ++ F) none 0 0 none 0 0 ((l, .cells ⟨(o ++ r)⟩ 9) :: j) w0 R)))))))) :
 Calls TP 81 ⟨[.agg (fRedactA6 b g f d c i h)]⟩ W R:= by
 refine AtE.cs 53 Tryz.func81 hm (.ru 2 (.nH (.cells (fRedactA6 b g f d c i h) 38) H fun B H => (.front (.nH (.cells fRedactA5 38) H fun e H => (.front (.ru 5 (.ld 1 2 (.ru 8 (.sP 6 H (fun H => ?_) fun H => ?_)))))))))
 ·refine .ru 6 (.ld 1 0 (.ru 1 (.ld 1 1 (.ru 1 (.ld 1 3 (.nm (KR Tryz.f81 212 [6,7]) [(2, PP e), (11, IV b.n), (13, IV b.time), (15, IV b.story)] (fRedactH1 e B b g f d c i h j) (.ru 1 (.store 0 0 (T := 38) (v := .agg (fRedactA0 b)) (by kernel_rfl) (.ru 1 (.retC 0 0 (a := 2) (T := 38) (v := .agg (fRedactA0 b)) Tryz.func81 (by kernel_rfl) (by kernel_rfl) H))))))))))
 ·refine .ru 6 (.sP 6 H (fun H => ?_) fun H => ?_)
  ·refine .ru 6 (.ld 1 0 (.ru 1 (.ld 1 1 (.nm (KR Tryz.f81 212 [4,5,6,7]) [(1, PP B), (2, PP e), (11, IV b.n), (13, IV b.time)] (fRedactH1 e B b g f d c i h j) (.ru 1 (.ld 1 3 (.ru 1 (.store 0 0 (T := 38) (v := .agg (fRedactA0 b)) (by kernel_rfl) (.ru 1 (.retC 0 0 (a := 2) (T := 38) (v := .agg (fRedactA0 b)) Tryz.func81 (by kernel_rfl) (by kernel_rfl) H))))))))))
  ·refine .ru 5 (.sP 6 H (fun H => ?_) fun H => ?_)
   ·refine .ru 4 (.ld 1 0 (.nm (KR Tryz.f81 212 [2,3,4,5,6,7]) [(1, PP B), (2, PP e), (11, IV b.n)] (fRedactH1 e B b g f d c i h j) (.ru 1 (.ld 1 1 (.ru 1 (.ld 1 3 (.ru 1 (.store 0 0 (T := 38) (v := .agg (fRedactA0 b)) (by kernel_rfl) (.ru 1 (.retC 0 0 (a := 2) (T := 38) (v := .agg (fRedactA0 b)) Tryz.func81 (by kernel_rfl) (by kernel_rfl) H))))))))))
   ·refine .ru 6 (.ld 1 9 (.nm (KR Tryz.f81 14 [2,3,4]) [(1, PP B), (2, PP e), (18, .slice g b.topics.length f)] (fRedactH1 e B b g f d c i h j) ?_))
    obtain ⟨o, u, H⟩ := H
    refine .appendS (T := 32) (U := 32) (E := 9) (z := sZ) (sz := 1) (bytes := 16) (x := .slice g b.topics.length f) b.topics.length o (by kernel_rfl) u H.1 (fun k => ?_) (fun k l m r s t => ?_)
    ·replace H := H.2.1 k
     refine .ru 1 (.store 1 9 (T := 32) (v := .slice none 0 0) (by kernel_rfl) (.ru 4 (.ld 1 10 ?_)))
     obtain ⟨w, u, H⟩ := H
     refine .appendS (T := 33) (U := 33) (E := 149) (z := .agg #[IV 0, IV 0, sZ, IV 0, IV 0, IV 0, .slice none 0 0, IV 0, IV 0]) (sz := 9) (bytes := 96) (x := .slice d b.blocks.length c) b.blocks.length w (by kernel_rfl) u H.1 (fun k => ?_) (fun k A p D s t => ?_)
     ·replace H := H.2.1 k
      refine .ru 1 (.store 1 10 (T := 33) (v := .slice none 0 0) (by kernel_rfl) (.ru 5 (.ld 1 10 (.ru 5 (.tT [1,0] 2 H)))))
     ·skip
      replace H := H.2.2 k A p D s t
      refine .front (.ru 1 (.store 2 10 (T := 33) (v := .slice (SO A) b.blocks.length p) (by kernel_rfl) (.ru 5 (.ld 2 10 (.ru 5 (.tT [2,0,1] 3 H))))))
    ·skip
     replace H := H.2.2 k l m r s t
     refine .front (.ru 1 (.store 2 9 (T := 32) (v := .slice (SO l) b.topics.length m) (by kernel_rfl) (.ru 4 (.ld 2 10 ?_))))
     obtain ⟨y, u, H⟩ := H
     refine .appendS (T := 33) (U := 33) (E := 149) (z := .agg #[IV 0, IV 0, sZ, IV 0, IV 0, IV 0, .slice none 0 0, IV 0, IV 0]) (sz := 9) (bytes := 96) (x := .slice d b.blocks.length c) b.blocks.length y (by kernel_rfl) u H.1 (fun k => ?_) (fun k C q F s t => ?_)
     ·replace H := H.2.1 k
      refine .ru 1 (.store 2 10 (T := 33) (v := .slice none 0 0) (by kernel_rfl) (.ru 5 (.ld 2 10 (.ru 5 (.tT [2,1,0] 3 H)))))
     ·skip
      replace H := H.2.2 k C q F s t
      refine .front (.ru 1 (.store 3 10 (T := 33) (v := .slice (SO C) b.blocks.length q) (by kernel_rfl) (.ru 5 (.ld 3 10 (.ru 5 (.tT [3,0,2,1] 4 H))))))
theorem CallH.addF (told : SHeap) {F : SHeap} (h : EffC P g args [] K) (M : ∀ v F', K v F' → K' v (told ++ (F' ++ F))) : CallH P g args (told ++ F) S w0 K' :=
 CallH.eff (L1 := told ++ F) h (List.Perm.refl _) fun v L' O => ⟨told ++ (L' ++ F), List.perm_append_comm_assoc _ _ _, M v L' O⟩
theorem enc_ok {f : Fct} (h : f.ok = true) : encFAns f = .tuple #[.string (ba (encF f)), .int .i64 0] := if_pos h
def goneF (f : Fct) : Fct := ⟨f.n, f.time, 10, f.story, e0, 0, 0, e0, e0, [], [], Lab.zero, 0, 0, 0, e0, e0, 0, 0, 0⟩
def aboutB (k : Int) : Bool := decide (k = 1 ∨ k = 4 ∨ k = 5)
theorem goneAt {f : Fct} : FAt lk (goneF f) none 0 none 0 none 0 := noLists rfl rfl rfl ⟨e0_sz, e0_sz, e0_sz, e0_sz, e0_sz⟩
def RedG (f : Fct) (v : Value) (F : SHeap) : Prop := v = .agg ⟨(goneF f).cells none 0 none 0 none 0⟩
theorem gone_e {f : Fct} (M : aboutB f.kind = true) : EffC TP 81 ⟨[.agg ⟨f.cells tp tc bp bc ap ac⟩]⟩ [] (RedG f) := by
 intro W hm
 have M := of_decide_eq_true M
 refine fRedact_vc f tp tc bp bc ap ac [] hm fun B V => ⟨fun _ => ?_, fun a0 => ⟨fun _ => ?_, fun a1 => ⟨fun _ => ?_, fun a2 => absurd M (by omega)⟩⟩⟩
 all_goals exact fun Z O => ⟨_, _, rfl, O, rfl⟩
def BlkLc (lk : Lk) (cs : List Value) (b : Blk) : Prop := ∃ p c, cs = b.cells p c ∧ IntsL lk p b.lab.after ∧ b.Fits ∧ b.lab.after.length ≤ c
structure FArg (lk : Lk) (f : Fct) (tp : OA) (tc : Nat) (bp : OA) (bc : Nat) (ap : OA) (ac : Nat) : Prop where
 tops : StrsL lk tp f.topics
 blks : SlAt lk 9 (BlkLc lk) bp f.blocks
 ints : IntsL lk ap f.lab.after
 ct : f.topics.length ≤ tc
 cb : f.blocks.length ≤ bc
 ca : f.lab.after.length ≤ ac
 fits : f.Fits
def cutT (s : BA) (n : Nat) : BA := s.extract 0 (min s.size n)
theorem cutT_size (s : BA) (n : Nat) : (cutT s n).size = min n s.size := by
 rw [cutT, ByteArray.size_extract]; omega
theorem cut_if {s : BA} {n : Nat} {i : Int} (hi : i = (n : Int)) : s.extract 0 (Int.toNat (if i < (s.size : Int) then i else (s.size : Int))) = cutT s n := by
 subst hi
 have : Int.toNat (if (n : Int) < (s.size : Int) then (n : Int) else (s.size : Int)) = min s.size n := by split <;> omega
 rw [this, cutT]
def BRowL (lk : Lk) (cs : List Value) (l : List Blk) : Prop := ∀ i (h : i < l.length), i * 9 + 9 ≤ cs.length ∧ BlkL lk ((cs.drop (i * 9)).take 9) l[i]
def FewOut (lk : Lk) (r : Fct) (v : Value) (F : SHeap) : Prop := ∃ tp tc bp bc ap ac, v = .agg ⟨r.cells tp tc bp bc ap ac⟩ ∧ FAt (lkU F lk) r tp tc bp bc ap ac
theorem cells_one (b : Blk) (p : OA) (c : Nat) : ∀ u ∈ b.cells p c, u.oneCell' = true := by
 intro u M
 simp only [List.mem_cons, List.not_mem_nil, or_false] at M
 rcases M with rfl | rfl | rfl | rfl | rfl | rfl | rfl | rfl | rfl <;> rfl
theorem take_rows {c : List Value} {o n : Nat} : (c.drop o).take ((n + 1) * 9) = (c.drop o).take (n * 9) ++ (c.drop (o + n * 9)).take 9 := by
 rw [show (n + 1) * 9 = n * 9 + 9 by omega, List.take_add, List.drop_drop]
theorem rows_one {c : List Value} {o : Nat} {l : List Blk} (h : ∀ i (h : i < l.length), o + i * 9 + 9 ≤ c.length ∧ BlkL lk ((c.drop (o + i * 9)).take 9) l[i]) : ∀ n, n ≤ l.length → ∀ u ∈ (c.drop o).take (n * 9), u.oneCell' = true
 | 0, _, u, hu => by simp at hu
 | n + 1, hn, u, hu => by
  rw [take_rows] at hu
  rcases List.mem_append.1 hu with h1 | h1
  ·exact rows_one h n (by omega) u h1
  ·obtain ⟨p, c', e, _, _⟩ := (h n (by omega)).2
   rw [e] at h1
   exact cells_one _ _ _ u h1
theorem cell_lk {b : Nat} {c : List Value} (h : lkW W b c) (o : Nat) : W.cell? ⟨b, o, none⟩ = c[o]? := by
 unfold lkW blkW at h
 split at h
 ·next c' t fz hh =>
  have M : c'.toList = c := by simpa using h
  rw [cell_of_heap (c := c'.toList) (t := t) (fz := fz) (by simpa using hh), M]
 ·cases h
theorem src_lk {L : SHeap} {b o : Nat} {c M : List Value} (h : ∀ W, Mem L [] w0 W → lkW W b c) (hn : ∀ i, i < M.length → c[o + i]? = M[i]?) : Src L [] w0 ⟨b, o, none⟩ M := by
 intro W hm i u hi
 have O := (List.getElem?_eq_some_iff.1 hi).1
 rw [addr_add, cell_lk (h W hm), hn i O, hi]
theorem src_ints {L : SHeap} {w0 : World} {lk : Lk} {p : OA} {c : Nat} {l : List Int} (h : IntsL lk p l) (Z : ∀ W, Mem L [] w0 W → ∀ b c, lk b c → lkW W b c) : ∀ W, Mem L [] w0 W → Go.Src TP 1 34 (.slice p l.length c) l.length (l.map (.int .i64)) W := by
 have M : ∀ u ∈ l.map (Value.int .i64), u.oneCell' = true := fun u a0 => by obtain ⟨n, _, rfl⟩ := List.mem_map.1 a0; rfl
 rcases Nat.eq_zero_or_pos l.length with h0 | hpos
 ·have : l = [] := List.length_eq_zero_iff.1 h0
  subst this
  cases p with
  | none => exact srcNil (E' := 3) (by kernel_rfl)
  | some a => exact srcSl (E' := 3) (by kernel_rfl) (Src.nil a) rfl M
 ·obtain ⟨b, o, cs, rfl, O, V⟩ := h hpos
  exact srcSl (E' := 3) (by kernel_rfl) (src_lk (fun W hm => Z W hm _ _ O) fun i hi => by rw [List.length_map] at hi; rw [V i hi, List.getElem?_map, List.getElem?_eq_getElem hi]; rfl) (by simp) M
theorem src_strs {L : SHeap} {w0 : World} {lk : Lk} {p : OA} {c : Nat} {l : List BA} (h : StrsL lk p l) (Z : ∀ W, Mem L [] w0 W → ∀ b c, lk b c → lkW W b c) : ∀ W, Mem L [] w0 W → Go.Src TP 1 32 (.slice p l.length c) l.length (l.map .string) W := by
 have M : ∀ u ∈ l.map Value.string, u.oneCell' = true := fun u a0 => by obtain ⟨n, _, rfl⟩ := List.mem_map.1 a0; rfl
 rcases Nat.eq_zero_or_pos l.length with h0 | hpos
 ·have : l = [] := List.length_eq_zero_iff.1 h0
  subst this
  cases p with
  | none => exact srcNil (E' := 9) (by kernel_rfl)
  | some a => exact srcSl (E' := 9) (by kernel_rfl) (Src.nil a) rfl M
 ·obtain ⟨b, o, cs, rfl, O, V⟩ := h hpos
  exact srcSl (E' := 9) (by kernel_rfl) (src_lk (fun W hm => Z W hm _ _ O) fun i hi => by rw [List.length_map] at hi; rw [V i hi, List.getElem?_map, List.getElem?_eq_getElem hi]; rfl) (by simp) M
theorem src_blks {L : SHeap} {w0 : World} {lk : Lk} {p : OA} {c : Nat} {l : List Blk} (h : BlksL lk p l) (a0 : ∀ W, Mem L [] w0 W → ∀ b c, lk b c → lkW W b c) :
  ∃ V, (∀ W, Mem L [] w0 W → Go.Src TP 9 33 (.slice p l.length c) l.length V W) ∧ V.length = l.length * 9 ∧ BRowL lk V l := by
 rcases Nat.eq_zero_or_pos l.length with h0 | hpos
 ·have : l = [] := List.length_eq_zero_iff.1 h0
  subst this
  refine ⟨[], ?_, rfl, fun i hi => absurd hi (by simp)⟩
  cases p with
  | none => exact srcNil (E' := 149) (by kernel_rfl)
  | some a => exact srcSl (E' := 149) (by kernel_rfl) (Src.nil a) rfl (fun u a1 => absurd a1 (by simp))
 ·obtain ⟨b, o, cs, rfl, Z, O⟩ := h hpos
  have a2 := (O (l.length - 1) (by omega)).1
  have M : ((cs.drop o).take (l.length * 9)).length = l.length * 9 := by rw [List.length_take, List.length_drop]; omega
  refine ⟨(cs.drop o).take (l.length * 9), srcSl (E' := 149) (by kernel_rfl) (src_lk (fun W hm => a0 W hm _ _ Z) fun i hi => ?_) M (rows_one O l.length (Nat.le_refl _)), M, fun i hi => ⟨by rw [M]; omega, ?_⟩⟩
  ·rw [M] at hi
   rw [List.getElem?_take_of_lt hi, List.getElem?_drop]
  ·have : (((cs.drop o).take (l.length * 9)).drop (i * 9)).take 9 = (cs.drop (o + i * 9)).take 9 := by
    rw [List.drop_take, List.drop_drop, List.take_take, Nat.min_eq_left (by omega)]
   rw [this]
   exact (O i hi).2
theorem BRowL.mono {lk M : Lk} {cs : List Value} {l : List Blk} (h : BRowL lk cs l) (O : ∀ b c, lk b c → M b c) : BRowL M cs l := fun i hi => ⟨(h i hi).1, (h i hi).2.mono O⟩
theorem BRowL.app0 {cs r : List Value} {l : List Blk} (h : BRowL lk cs l) : BRowL lk (cs ++ r) l := by
 intro i hi
 have := (h i hi).1
 refine ⟨by rw [List.length_append]; omega, ?_⟩
 rw [List.drop_append_of_le_length (by omega), List.take_append_of_le_length (by rw [List.length_drop]; omega)]
 exact (h i hi).2
theorem row_set_ne {cs : List Value} {k j : Nat} {v : Value} (h : k < j * 9 ∨ j * 9 + 9 ≤ k) : ((cs.set k v).drop (j * 9)).take 9 = (cs.drop (j * 9)).take 9 := by
 apply List.ext_getElem?
 intro q
 by_cases hq : q < 9
 ·rw [List.getElem?_take_of_lt hq, List.getElem?_take_of_lt hq, List.getElem?_drop, List.getElem?_drop, List.getElem?_set_ne (by omega)]
 ·rw [List.getElem?_eq_none (by rw [List.length_take]; omega), List.getElem?_eq_none (by rw [List.length_take]; omega)]
theorem row_get {cs : List Value} {i q : Nat} (M : q < 9) {r : List Value} (e : (cs.drop (i * 9)).take 9 = r) : cs[i * 9 + q]? = r[q]? := by
 rw [← e, List.getElem?_take_of_lt M, List.getElem?_drop]
theorem row_set_eq {cs : List Value} {i : Nat} {b : Blk} {p p' : OA} {c c' : Nat} (h : i * 9 + 9 ≤ cs.length) (e : (cs.drop (i * 9)).take 9 = b.cells p c) : ((cs.set (i * 9 + 5 + 1) (.slice p' b.lab.after.length c')).drop (i * 9)).take 9 = b.cells p' c' := by
 apply List.ext_getElem?
 intro q
 by_cases hq : q < 9
 ·rw [List.getElem?_take_of_lt hq, List.getElem?_drop]
  have M := row_get hq e
  have : q = 0 ∨ q = 1 ∨ q = 2 ∨ q = 3 ∨ q = 4 ∨ q = 5 ∨ q = 6 ∨ q = 7 ∨ q = 8 := by omega
  rcases this with rfl | rfl | rfl | rfl | rfl | rfl | rfl | rfl | rfl
  case inr.inr.inr.inr.inr.inr.inl => rw [show i * 9 + 5 + 1 = i * 9 + 6 from rfl, List.getElem?_set_self (by omega)]; rfl
  all_goals (rw [List.getElem?_set_ne (by omega), M]; rfl)
 ·rw [List.getElem?_eq_none (by rw [List.length_take]; omega), List.getElem?_eq_none (by simp; omega)]
theorem BRowL.set {lk M : Lk} {cs : List Value} {l : List Blk} {i : Nat} {p' : OA} {c' : Nat} (h : BRowL lk cs l) (hi : i < l.length) (a1 : ∀ b c, lk b c → M b c) (hp : IntsL M p' l[i].lab.after) : BRowL M (cs.set (i * 9 + 5 + 1) (.slice p' l[i].lab.after.length c')) l := by
 intro j a0
 obtain ⟨O, p, c, e, Z, V⟩ := h j a0
 refine ⟨by rw [List.length_set]; exact O, ?_⟩
 by_cases hji : j = i
 ·subst hji
  exact ⟨p', c', row_set_eq O e, hp, V⟩
 ·refine ⟨p, c, ?_, Z.mono a1, V⟩
  rw [row_set_ne (by omega)]
  exact e
def redF (f : Fct) : Fct := if aboutB f.kind = true then goneF f else f
structure Fct.Small (f : Fct) : Prop where
 tops : f.topics.length ≤ 100
 blks : f.blocks.length ≤ 100
 ints : f.lab.after.length ≤ 100
 each : ∀ b ∈ f.blocks, b.lab.after.length ≤ 100
theorem ints_new {F : SHeap} {B : Nat} {l : List Int} {r : List Value} {t : TypeId} {fz : Nat × Nat} (h : (B, Obj.cells ⟨l.map (.int .i64) ++ r⟩ t fz) ∈ F) : IntsL (lkU F lk) (SO B) l :=
 fun _ => ⟨B, 0, _, rfl, .inl ⟨t, fz, h⟩, fun i hi => by rw [Nat.zero_add, List.getElem?_append_left (by rw [List.length_map]; exact hi), List.getElem?_map, List.getElem?_eq_getElem hi]; rfl⟩
theorem strs_new {F : SHeap} {B : Nat} {l : List BA} {r : List Value} {t : TypeId} {fz : Nat × Nat} (h : (B, Obj.cells ⟨l.map .string ++ r⟩ t fz) ∈ F) : StrsL (lkU F lk) (SO B) l :=
 fun _ => ⟨B, 0, _, rfl, .inl ⟨t, fz, h⟩, fun i hi => by rw [Nat.zero_add, List.getElem?_append_left (by rw [List.length_map]; exact hi), List.getElem?_map, List.getElem?_eq_getElem hi]; rfl⟩
theorem lkU_mono {F F' : SHeap} (h : ∀ x ∈ F, x ∈ F') : ∀ b c, lkU F lk b c → lkU F' lk b c := by
 rintro b c (M | M)
 ·exact .inl (lkF_mono h b c M)
 ·exact .inr M
theorem lkU_in {F L : SHeap} (O : ∀ b c, lk b c → lkW w0 b c) (hm : Mem L [] w0 W) (h : ∀ x ∈ F, x ∈ L) : ∀ b c, lkU F lk b c → lkW W b c := by
 rintro b c (M | M)
 ·exact lkF_W hm h b c M
 ·exact lkW_kept hm b c (O b c M)
theorem ints_zero {p : OA} {l : List Int} (h : l.length = 0) : IntsL lk p l := fun hp => absurd hp (by omega)
theorem redact_loop {f : Fct} (a6 : ∀ b c, lk b c → lkW w0 b c) (h : FAt lk f tp tc bp bc ap ac) (a3 : f.Small) {a2 : OA} {a4 qc : Nat} (b7 : a4 = f.topics.length) (a7 : a4 ≤ qc) {B6 B7 B8 a0 : Nat} (a5 : f.blocks.length ≤ a0) {xp yp : OA} {c2 xc c3 yc : Nat} :
  ∀ (g i : Nat) (cs : List Value) (F : SHeap), g + i = f.blocks.length → BRowL (lkU F lk) cs f.blocks → StrsL (lkU F lk) a2 f.topics →
   fRedact_c1 f tp tc bp bc ap ac B6 B7 B8 (i : Int) a2 a4 qc f.blocks.length a0 cs xp c2 xc yp c3 yc F w0 (fun e b1 => ∃ v L', e = .returned v ∧ Mem L' [] w0 b1 ∧ FewOut lk f v L') := by
 subst b7
 intro g
 induction g with
 | zero =>
  intro i cs F b5 O Z
  apply fRedact_c1_vc
  have c9 := a3.ints
  refine no (by omega) ⟨_, src_ints h.ints fun W hm => fun b c a1 => lkW_kept hm b c (a6 b c a1), by omega, fun V => ?_, fun b6 b0 b3 d1 a9 b9 => ?_⟩
  ·refine dkFin ⟨a2, qc, some ⟨B7, 0, none⟩, a0, none, 0, ?_, ?_⟩
   ·delta fRedactA3 Fct.cells; rw [V]
   ·exact ⟨Z.mono (lkU_mono fun x M => by simp [M]), fun _ => ⟨B7, 0, cs, rfl, .inl ⟨_, _, List.mem_cons_of_mem _ List.mem_cons_self⟩, fun i hi => ⟨by rw [Nat.zero_add]; exact (O i hi).1, by rw [Nat.zero_add]; exact (O i hi).2.mono (lkU_mono fun x M => by simp [M])⟩⟩, ints_zero V, a7, a5, by omega, h.fits⟩
  ·refine dkFin ⟨a2, qc, some ⟨B7, 0, none⟩, a0, some ⟨b0, 0, none⟩, b3, rfl, ?_⟩
   exact ⟨Z.mono (lkU_mono fun x M => by simp [M]), fun _ => ⟨B7, 0, cs, rfl, .inl ⟨_, _, List.mem_cons_of_mem _ (List.mem_cons_of_mem _ List.mem_cons_self)⟩, fun i hi => ⟨by rw [Nat.zero_add]; exact (O i hi).1, by rw [Nat.zero_add]; exact (O i hi).2.mono (lkU_mono fun x M => by simp [M])⟩⟩, ints_new List.mem_cons_self, a7, a5, a9, h.fits⟩
 | succ g ih =>
  intro i cs F b5 O Z
  apply fRedact_c1_vc
  have a1 := a3.blks
  have hi : i < f.blocks.length := by omega
  obtain ⟨c6, p, c, e, b4, c7⟩ := O i hi
  have c8 := a3.each _ (List.getElem_mem hi)
  have a8 : IntKind.i64.wrap ((i : Int) + 1) = ((i + 1 : Nat) : Int) := by rw [wi64 (by omega)]; omega
  refine yes (by omega) ⟨by omega, p, f.blocks[i].lab.after.length, c, ?_, _, src_ints b4 fun W hm => lkU_in a6 hm fun x M => by simp [M], by omega, fun V => ⟨by omega, by rw [Int.toNat_natCast]; omega, ?_⟩, fun b6 c4 c5 d0 a9 b9 => ⟨by omega, by rw [Int.toNat_natCast]; omega, ?_⟩⟩
  ·rw [Int.toNat_natCast, Nat.add_assoc, row_get (by decide) e]; rfl
  ·rw [a8, Int.toNat_natCast]
   have := O.set (i := i) (p' := none) (c' := 0) hi (fun b c a1 => a1) (ints_zero V)
   rw [V] at this
   exact ih (i + 1) _ F (by omega) this Z
  ·rw [a8, Int.toNat_natCast]
   exact ih (i + 1) _ _ (by omega) (O.set hi (lkU_mono fun x M => List.mem_cons_of_mem _ M) (ints_new List.mem_cons_self)) (Z.mono (lkU_mono fun x M => List.mem_cons_of_mem _ M))
theorem redact_none {f : Fct} (b0 : ∀ b c, lk b c → lkW w0 b c) (h : FAt lk f tp tc bp bc ap ac) (b3 : f.Small) {M : OA} {Z qc : Nat} (b1 : Z = f.topics.length) (a2 : Z ≤ qc) (O : f.blocks.length = 0) {a5 a6 : Nat} {xp yp : OA} {b5 xc b6 yc : Nat} {F : SHeap} (a3 : StrsL (lkU F lk) M f.topics) :
  fRedact_c0 f tp tc bp bc ap ac a5 a6 (0 : Int) (0 : Int) M Z qc xp b5 xc yp b6 yc F w0 (fun e a7 => ∃ v L', e = .returned v ∧ Mem L' [] w0 a7 ∧ FewOut lk f v L') := by
 subst b1
 apply fRedact_c0_vc
 have b7 := b3.ints
 have a1 : f.blocks = [] := List.length_eq_zero_iff.1 O
 refine no (by omega) ⟨_, src_ints h.ints fun W hm => fun b c a9 => lkW_kept hm b c (b0 b c a9), by omega, fun a0 => ?_, fun b9 a4 a8 c3 b4 c2 => ?_⟩
 ·refine dkFin ⟨M, qc, none, 0, none, 0, ?_, ?_⟩
  ·delta fRedactA4 Fct.cells; rw [a0, O]
  ·exact ⟨a3.mono (lkU_mono fun x V => by simp [V]), by rw [a1]; exact blks_nil, ints_zero a0, a2, by omega, by omega, h.fits⟩
 ·refine dkFin ⟨M, qc, none, 0, some ⟨a4, 0, none⟩, a8, ?_, ?_⟩
  ·delta fRedactA2 Fct.cells; rw [O]
  ·exact ⟨a3.mono (lkU_mono fun x V => by simp [V]), by rw [a1]; exact blks_nil, ints_new List.mem_cons_self, a2, by omega, b4, h.fits⟩
theorem strs_zero {p : OA} {l : List BA} (h : l.length = 0) : StrsL lk p l := fun hp => absurd hp (by omega)
theorem redact_e {lk : Lk} {f : Fct} {tp bp ap : OA} {tc bc ac : Nat} (h : FAt lk f tp tc bp bc ap ac) (V : f.Small) : EffW TP 81 ⟨[.agg ⟨f.cells tp tc bp bc ap ac⟩]⟩ [] (fun W => ∀ b c, lk b c → lkW W b c) (FewOut lk (redF f)) := by
 intro W hm O
 cases M : aboutB f.kind with
 | true =>
  rw [redF, if_pos M]
  refine (gone_e (tp := tp) (tc := tc) (bp := bp) (bc := bc) (ap := ap) (ac := ac) M W hm).mono ?_
  rintro e b5 ⟨v, L', a9, a7, b0⟩
  exact ⟨v, L', a9, a7, none, 0, none, 0, none, 0, b0, goneAt⟩
 | false =>
  rw [redF, if_neg (by rw [M]; decide)]
  have M := of_decide_eq_false M
  have b9 := V.tops; have b7 := V.blks
  refine fRedact_vc f tp tc bp bc ap ac [] hm fun B b4 => no (fun a0 => M (.inl a0)) (no (fun a0 => M (.inr (.inl a0))) (no (fun a0 => M (.inr (.inr a0))) ?_))
  refine ⟨_, src_strs h.tops fun W hm => fun b c Z => lkW_kept hm b c (O b c Z), by omega, fun a1 => ?_, fun b6 B2 cap r a2 b1 => ?_⟩
  ·obtain ⟨a5, n1, n2, a4⟩ := src_blks (c := bc) (L := _) (w0 := W) h.blks fun W hm => fun b c Z => lkW_kept hm b c (O b c Z)
   refine ⟨a5, n1, by omega, fun a3 => redact_none O h V a1.symm (Nat.le_refl _) a3 (strs_zero a1), fun a8 B3 a6 b3 a2 b1 => ?_⟩
   exact redact_loop O h V a1.symm (Nat.le_refl _) a2 _ 0 _ _ rfl (a4.mono lkU_r).app0 (strs_zero a1)
  ·obtain ⟨a5, n1, n2, a4⟩ := src_blks (c := bc) (L := _) (w0 := W) h.blks fun W hm => fun b c Z => lkW_kept hm b c (O b c Z)
   refine ⟨a5, n1, by omega, fun a3 => redact_none O h V rfl a2 a3 (strs_new List.mem_cons_self), fun a8 B3 a6 b3 p1 c2 => ?_⟩
   exact redact_loop O h V rfl a2 p1 _ 0 _ _ rfl (a4.mono lkU_r).app0 (strs_new List.mem_cons_self)
def ovr {α : Type} (b : List α) (o : Nat) (s : List α) : List α := b.take o ++ s ++ b.drop (o + s.length)
theorem ovr_len {α : Type} {b : List α} {o : Nat} {s : List α} (h : o + s.length ≤ b.length) : (ovr b o s).length = b.length := by simp [ovr]; omega
theorem ovr_nil {α : Type} (b : List α) (o : Nat) : ovr b o [] = b := by simp [ovr]
theorem bytesL_ovr (b : List UInt8) (o : Nat) (s : List UInt8) : over (bytesL b) o (bytesL s) = bytesL (ovr b o s) := by
 simp [over, ovr, bytesL]
theorem bytesL_length (l : List UInt8) : (bytesL l).length = l.length := by simp [bytesL]
theorem ovr_all {α : Type} {b s : List α} (h : b.length = s.length) : ovr b 0 s = s := by simp [ovr, List.drop_of_length_le (by omega : b.length ≤ s.length)]
structure DS where
 on : Bool
 cut : Nat
 dur : List UInt8
 vis : List UInt8
 pend : List (Nat × BA)
structure DOk (d : DS) : Prop where
 len : d.dur.length = d.vis.length
 pos : 0 < d.vis.length
 le : d.vis.length ≤ 4194304
 cut : d.cut ≤ 9223372036854775807
 pend : ∀ p ∈ d.pend, p.1 + p.2.size ≤ d.vis.length
def DS.spend (d : DS) : DS := if d.cut = 0 then d else if d.cut = 1 then { d with on := false, cut := 0 } else { d with cut := d.cut - 1 }
def DS.put (d : DS) (o : Nat) (s : BA) : DS := { d with pend := d.pend ++ [(o, s)], vis := ovr d.vis o (bts s) }
def DS.write (d : DS) (off : Int) (s : BA) : Int × DS :=
 if d.on = false then (231, d) else if 0 ≤ off ∧ off + s.size ≤ d.vis.length then (0, (d.put off.toNat s).spend) else (230, d)
def DS.sync (d : DS) : Int × DS := if d.on = false then (231, d) else (0, { d with dur := d.vis, pend := [] })
def DS.read (d : DS) (off n : Int) : BA × Int :=
 if d.on = false then (⟨#[]⟩, 231) else if 0 ≤ off ∧ 0 ≤ n ∧ off + n ≤ d.vis.length then (⟨((d.vis.drop off.toNat).take n.toNat).toArray⟩, 0) else (⟨#[]⟩, 230)
theorem DOk.spend {d : DS} (h : DOk d) : DOk d.spend := by
 unfold DS.spend
 split
 ·exact h
 ·split
  ·exact ⟨h.len, h.pos, h.le, by simp, h.pend⟩
  ·exact ⟨h.len, h.pos, h.le, by have := h.cut; simp only; omega, h.pend⟩
theorem DOk.put {d : DS} (h : DOk d) {o : Nat} {s : BA} (O : o + s.size ≤ d.vis.length) : DOk (d.put o s) := by
 have M : (ovr d.vis o (bts s)).length = d.vis.length := ovr_len O
 refine ⟨by simp only [DS.put, M, h.len], by simp only [DS.put, M, h.pos], by simp only [DS.put, M, h.le], h.cut, fun p hp => ?_⟩
 simp only [DS.put, M] at hp ⊢
 rcases List.mem_append.1 hp with hp | hp
 ·exact h.pend p hp
 ·simp at hp; subst hp; exact O
theorem DOk.write {d : DS} (h : DOk d) (off : Int) (s : BA) : DOk (d.write off s).2 := by
 unfold DS.write
 split
 ·exact h
 ·split
  ·next hh => exact DOk.spend (DOk.put h (by omega))
  ·exact h
theorem DOk.sync {d : DS} (h : DOk d) : DOk d.sync.2 := by
 unfold DS.sync
 split
 ·exact h
 ·exact ⟨rfl, h.pos, h.le, h.cut, fun p hp => by cases hp⟩
def pendCells (l : List (Nat × BA)) : List Value := l.flatMap fun p => [.int .i64 (p.1 : Int), .string p.2]
theorem pendCells_len (l : List (Nat × BA)) : (pendCells l).length = l.length * 2 := by
 induction l with
 | nil => rfl
 | cons p r ih => simp only [pendCells, List.flatMap_cons, List.length_append] at *; simp only [List.length_cons, List.length_nil, ih]; omega
theorem pendCells_append (a b : List (Nat × BA)) : pendCells (a ++ b) = pendCells a ++ pendCells b := by simp [pendCells]
abbrev hdr (T : Nat) (D DB VB n : Nat) (on : Bool) (cut : Int) (pv : Value) : Nat × Obj :=
 (D, .cells #[.bool on, .int .i64 cut, .slice (SO DB) n n, .slice (SO VB) n n, pv] T)
def DRepT (td tb tw : Nat) (D : Nat) (d : DS) (F : SHeap) : Prop :=
 DOk d ∧ ∃ DB VB : Nat,
  (d.pend = [] ∧ F = [hdr td D DB VB d.vis.length d.on d.cut (.slice none 0 0), (DB, .cells ⟨bytesL d.dur⟩ tb), (VB, .cells ⟨bytesL d.vis⟩ tb)]) ∨
  ∃ (PB pc : Nat) (r : List Value), d.pend.length ≤ pc ∧ (pendCells d.pend ++ r).length = pc * 2 ∧
   F = [hdr td D DB VB d.vis.length d.on d.cut (.slice (SO PB) d.pend.length pc), (DB, .cells ⟨bytesL d.dur⟩ tb), (VB, .cells ⟨bytesL d.vis⟩ tb), (PB, .cells ⟨pendCells d.pend ++ r⟩ tw)]
theorem DK.fin {K : Value → SHeap → Prop} {L : SHeap} {S : List Nat} {W : World} {v : Value} (h : K v L) : Fin (fun e M => ∃ v L', e = .returned v ∧ Mem L' S W M ∧ K v L') L S W v :=
 fun _ hm => ⟨v, L, rfl, hm, h⟩
theorem DK.fin' (O : List Nat) {K : Value → SHeap → Prop} {L L' : SHeap} {S : List Nat} {W : World} {v : Value} (M : (selL L O, nodupB O) = (L', true)) (h : K v L') :
  Fin (fun e V => ∃ v L', e = .returned v ∧ Mem L' S W V ∧ K v L') L S W v := by
 simp only [Prod.mk.injEq] at M
 obtain ⟨rfl, Z⟩ := M
 exact fun _ hm => ⟨v, _, rfl, hm.sel (nodupB_spec Z), h⟩
end Go.Eng
