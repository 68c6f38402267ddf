/- A part of the proof: the engine by which functions are walked, verification conditions that a program of the prover wrote, contracts and plain laws; no claim of its own. -/
import Derived.Test.YtfobdgoklnhebaaGreatDoorChecked
import Derived.Test.YtfobdgoklnhebaaGreatDoorReoC
set_option linter.unusedVariables false
set_option linter.unusedSimpArgs false
namespace Go.Eng
open Go Go.RowKit Go.Proofs Wire
variable {P : Program} {R : Ending → World → Prop} {S : List Nat} {w0 W : World} {lk : Lk} {tp bp ap : OA} {tc bc ac : Nat} {K K' : Value → SHeap → Prop} {args : Array Value} {g : FuncId}
def Fct.Fits (f : Fct) : Prop :=
 (f.lang.size ≤ 9223372036854775807 ∧ f.title.size ≤ 9223372036854775807 ∧ f.author.size ≤ 9223372036854775807 ∧ f.text.size ≤ 9223372036854775807 ∧ f.name.size ≤ 9223372036854775807) ∧
 (f.topics.length ≤ 9223372036854775807 ∧ ∀ t ∈ f.topics, t.size ≤ 9223372036854775807) ∧ f.blocks.length ≤ 9223372036854775807 ∧ f.lab.after.length ≤ 9223372036854775807
structure FAt (lk : Lk) (f : Fct) (tp : OA) (tc : Nat) (bp : OA) (bc : Nat) (ap : OA) (ac : Nat) : Prop where
 tops : StrsL lk tp f.topics
 blks : BlksL lk bp f.blocks
 ints : IntsL lk ap f.lab.after
 ct : f.topics.length ≤ tc
 cb : f.blocks.length ≤ bc
 ca : f.lab.after.length ≤ ac
 fits : f.Fits
theorem FAt.mono {lk lk' : Lk} {f : Fct} {tp : OA} {tc : Nat} {bp : OA} {bc : Nat} {ap : OA} {ac : Nat} (h : FAt lk f tp tc bp bc ap ac) (hl : ∀ b c, lk b c → lk' b c) : FAt lk' f tp tc bp bc ap ac :=
 ⟨h.tops.mono hl, h.blks.mono hl, h.ints.mono hl, h.ct, h.cb, h.ca, h.fits⟩
def FctL (lk : Lk) (cs : List Value) (f : Fct) : Prop := ∃ tp tc bp bc ap ac, cs = f.cells tp tc bp bc ap ac ∧ FAt lk f tp tc bp bc ap ac
theorem consN_loop {s : BA} (hs : s.size ≤ 9223372036854775807) : ∀ (g i : Nat), g + i = s.size → Fin R [] [] w0 (.bool (scan s nameB i)) → consN_c0 s (i : Int) w0 R
 | 0, i, hg, H => by
  apply consN_c0_vc
  exact no (by omega) (finEq H (by rw [scan_end (by omega)]))
 | g + 1, i, hg, H => by
  apply consN_c0_vc
  have hi : i < s.size := by omega
  have next : nameB (bat s i) = true → ∀ x : Int, x = IntKind.i64.wrap ((i : Int) + 1) → consN_c0 s x w0 R := by
   rintro hn _ rfl
   rw [wi64 (by omega), show (i : Int) + 1 = ((i + 1 : Nat) : Int) by omega]
   rw [scan_yes hi hn] at H
   exact consN_loop hs g (i + 1) (by omega) H
  have stop : nameB (bat s i) = false → Fin R [] [] w0 (.bool false) := fun hn => finEq H (by rw [scan_no hi hn])
  refine yes (by omega) ?_
  repeat' (first
   | refine And.intro ?_ ?_
   | omega
   | exact stop (decide_eq_false (by omega))
   | exact next (decide_eq_true (by omega))
   | intro _)
theorem consT_loop {s : BA} (hs : s.size ≤ 9223372036854775807) : ∀ (g i : Nat), g + i = s.size → Fin R [] [] w0 (.bool (scan s txtB i)) → consT_c0 s (i : Int) w0 R
 | 0, i, hg, H => by
  apply consT_c0_vc
  exact no (by omega) (finEq H (by rw [scan_end (by omega)]))
 | g + 1, i, hg, H => by
  apply consT_c0_vc
  have hi : i < s.size := by omega
  have next : txtB (bat s i) = true → ∀ x : Int, x = IntKind.i64.wrap ((i : Int) + 1) → consT_c0 s x w0 R := by
   rintro hn _ rfl
   rw [wi64 (by omega), show (i : Int) + 1 = ((i + 1 : Nat) : Int) by omega]
   rw [scan_yes hi hn] at H
   exact consT_loop hs g (i + 1) (by omega) H
  have stop : txtB (bat s i) = false → Fin R [] [] w0 (.bool false) := fun hn => finEq H (by rw [scan_no hi hn])
  refine yes (by omega) ?_
  repeat' (first
   | refine And.intro ?_ ?_
   | omega
   | exact stop (decide_eq_false (by omega))
   | exact next (decide_eq_true (by omega))
   | intro _)
theorem srcB_yes {b : Int} (h : b = 10 ∨ (32 ≤ b ∧ b ≤ 126)) : srcB b = true := by
 simp only [srcB, txtB, Bool.or_eq_true, decide_eq_true_eq]; exact h
theorem srcB_no {b : Int} (h : ¬ (b = 10 ∨ (32 ≤ b ∧ b ≤ 126))) : srcB b = false := by
 cases hb : srcB b with
 | false => rfl
 | true => simp only [srcB, txtB, Bool.or_eq_true, decide_eq_true_eq] at hb; exact absurd hb h
theorem consS_loop {s : BA} (hs : s.size ≤ 9223372036854775807) : ∀ (g i : Nat), g + i = s.size → Fin R [] [] w0 (.bool (scan s srcB i)) → consS_c0 s (i : Int) w0 R
 | 0, i, hg, H => by
  apply consS_c0_vc
  exact no (by omega) (finEq H (by rw [scan_end (by omega)]))
 | g + 1, i, hg, H => by
  apply consS_c0_vc
  have hi : i < s.size := by omega
  have next : srcB (bat s i) = true → ∀ x : Int, x = IntKind.i64.wrap ((i : Int) + 1) → consS_c0 s x w0 R := by
   rintro hn _ rfl
   rw [wi64 (by omega), show (i : Int) + 1 = ((i + 1 : Nat) : Int) by omega]
   rw [scan_yes hi hn] at H
   exact consS_loop hs g (i + 1) (by omega) H
  have stop : srcB (bat s i) = false → Fin R [] [] w0 (.bool false) := fun hn => finEq H (by rw [scan_no hi hn])
  refine yes (by omega) ?_
  repeat' (first
   | refine And.intro ?_ ?_
   | omega
   | exact stop (srcB_no (by omega))
   | exact next (srcB_yes (by omega))
   | intro _)
theorem fName_c (s : BA) (hs : s.size ≤ 9223372036854775807) : PureC TP 104 ⟨[.string s]⟩ (.bool (nameOk s)) := by
 have h : PureC TP 143 ⟨[.string s, .int .i64 1, .int .i64 20, .func (.func 145) #[] #[]]⟩ (.bool (nameOk s)) := fun W => by
  refine consN_vc s 1 20 (Mem.start [] W) ⟨fun h => ⟨fun h2 => finPure ?_, fun h2 => consN_loop hs s.size 0 (by omega) (finPure ?_)⟩, fun h => finPure ?_⟩
  ·rw [nameOk, decide_eq_false (by omega), Bool.false_and]
  ·rw [nameOk, decide_eq_true (by omega), Bool.true_and]
  ·rw [nameOk, decide_eq_false (by omega), Bool.false_and]
 exact fun W => fName_vc s (Mem.start [] W) (CallH.pure h ⟨_, rfl, rfl, finPure rfl⟩)
theorem fText_c (s : BA) (hs : s.size ≤ 9223372036854775807) : PureC TP 103 ⟨[.string s]⟩ (.bool (fillOk s)) := by
 have h : PureC TP 143 ⟨[.string s, .int .i64 1, .int .i64 300, .func (.func 144) #[] #[]]⟩ (.bool (fillOk s)) := fun W => by
  refine consT_vc s 1 300 (Mem.start [] W) ⟨fun h => ⟨fun h2 => finPure ?_, fun h2 => consT_loop hs s.size 0 (by omega) (finPure ?_)⟩, fun h => finPure ?_⟩
  ·rw [fillOk, txtOk, decide_eq_false (p := s.size ≤ 300) (by omega), Bool.false_and, Bool.and_false]
  ·rw [fillOk, txtOk, decide_eq_true (p := s.size ≤ 300) (by omega), decide_eq_true (p := s.size ≠ 0) (by omega), Bool.true_and, Bool.true_and]
  ·rw [fillOk, decide_eq_false (p := s.size ≠ 0) (by omega), Bool.false_and]
 exact fun W => fText_vc s (Mem.start [] W) (CallH.pure h ⟨_, rfl, rfl, finPure rfl⟩)
theorem fSource_c (s : BA) (hs : s.size ≤ 9223372036854775807) : PureC TP 105 ⟨[.string s]⟩ (.bool (srcOk s)) := by
 have h : PureC TP 143 ⟨[.string s, .int .i64 0, .int .i64 1000, .func (.func 146) #[] #[]]⟩ (.bool (srcOk s)) := fun W => by
  refine consS_vc s 0 1000 (Mem.start [] W) ⟨fun h => ⟨fun h2 => finPure ?_, fun h2 => consS_loop hs s.size 0 (by omega) (finPure ?_)⟩, fun h => absurd h (by omega)⟩
  ·rw [srcOk, decide_eq_false (by omega), Bool.false_and]
  ·rw [srcOk, decide_eq_true (by omega), Bool.true_and]
 exact fun W => fSource_vc s (Mem.start [] W) (CallH.pure h ⟨_, rfl, rfl, finPure rfl⟩)
def prevT (l : List BA) : Nat → Option BA
 | 0 => none
 | k + 1 => l[k]?
theorem areTopics_loop {w0 : World} {p : OA} {c : Nat} {R : Ending → World → Prop} {l : List BA} (hp : StrsL (lkW w0) p l) (hs : ∀ t ∈ l, t.size ≤ 9223372036854775807) (hm : l.length ≤ 9223372036854775807) :
  ∀ (g i : Nat), g + i = l.length → Fin R [] [] w0 (.bool (topicsGo (prevT l i) (l.drop i))) → areTopics_c0 p l.length c (i : Int) w0 R
 | 0, i, hg, H => by
  apply areTopics_c0_vc
  refine no (by omega) (finEq H ?_)
  rw [List.drop_of_length_le (by omega)]
  cases i <;> rfl
 | g + 1, i, hg, H => by
  apply areTopics_c0_vc
  have hi : i < l.length := by omega
  obtain ⟨b, o, cc, e1, e2, e3⟩ := hp.get hi
  rw [List.drop_eq_getElem_cons hi, topicsGo] at H
  have next : nameOk l[i] = true → tAfter (prevT l i) l[i] = true → areTopics_c0 p l.length c (IntKind.i64.wrap ((i : Int) + 1)) w0 R := fun h1 h2 => by
   rw [h1, h2, Bool.true_and, Bool.true_and] at H
   rw [wi64 (by omega), show (i : Int) + 1 = ((i + 1 : Nat) : Int) by omega]
   refine areTopics_loop hp hs hm g (i + 1) (by omega) (finEq H ?_)
   rw [prevT, List.getElem?_eq_getElem hi]
  refine yes (by omega) ⟨b, o, e1, by omega, cc, l[i], e2, by simpa using e3, CallH.pure (fName_c _ (hs _ (List.getElem_mem hi))) ⟨_, rfl, rfl, fun h1 => ⟨fun h0 => ?_, fun h0 => ?_⟩, fun h1 => finEq H (by rw [h1]; rfl)⟩⟩
  ·obtain ⟨k, rfl⟩ : ∃ k, i = k + 1 := ⟨i - 1, by omega⟩
   have hk : k < l.length := by omega
   obtain ⟨b2, o2, c2, f1, f2, f3⟩ := hp.get hk
   have hw : IntKind.i64.wrap (((k + 1 : Nat) : Int) - 1) = (k : Int) := by rw [wi64 (by omega)]; omega
   have hpv : prevT l (k + 1) = some l[k] := by rw [prevT, List.getElem?_eq_getElem hk]
   rw [hw]
   refine ⟨b2, o2, f1, by omega, c2, l[k], f2, by simpa using f3, fun hl => finEq H ?_, fun hl => next h1 ?_⟩
   ·rw [h1, hpv, tAfter, tLe, hl]; rfl
   ·rw [hpv, tAfter, tLe, hl]; rfl
  ·have : i = 0 := by omega
   subst this
   exact next h1 rfl
theorem areTopics_c {p : OA} {c : Nat} {l : List BA} (hp : StrsL (lkW W) p l) (hs : ∀ t ∈ l, t.size ≤ 9223372036854775807) (hm : l.length ≤ 9223372036854775807) :
  PW TP 140 ⟨[.slice p l.length c]⟩ W (.bool (topicsOk l)) := by
 refine areTopics_vc p l.length c (Mem.start [] W) ⟨fun h => finPW ?_, fun h => areTopics_loop hp hs hm l.length 0 (by omega) (finPW ?_)⟩
 ·rw [topicsOk, decide_eq_false (by omega), Bool.false_and]
 ·rw [topicsOk, decide_eq_true (by omega), Bool.true_and]; rfl
theorem eqStrs_loop {p q : OA} {cp cq : Nat} {a b : List BA} (ha : StrsL (lkW w0) p a) (hb : StrsL (lkW w0) q b) (hl : a.length = b.length) (hm : a.length ≤ 9223372036854775807) :
  ∀ (g i : Nat), g + i = a.length → Fin R [] [] w0 (.bool (decide (a.drop i = b.drop i))) → eqStrs_c0 p a.length cp q b.length cq (i : Int) w0 R
 | 0, i, hg, H => by
  apply eqStrs_c0_vc
  refine no (by omega) (finEq H ?_)
  rw [List.drop_of_length_le (by omega), List.drop_of_length_le (by omega)]
  simp
 | g + 1, i, hg, H => by
  apply eqStrs_c0_vc
  have h1 : i < a.length := by omega
  have h2 : i < b.length := by omega
  obtain ⟨B1, o1, c1, e1, e2, e3⟩ := ha.get h1
  obtain ⟨B2, o2, c2, f1, f2, f3⟩ := hb.get h2
  simp only [drop_eq h1 h2] at H
  refine yes (by omega) ⟨B1, o1, e1, by omega, c1, a[i], e2, by simpa using e3, B2, o2, f1, by omega, c2, b[i], f2, by simpa using f3, fun h => finEq H (by simp [h]), fun h => ?_⟩
  rw [wi64 (by omega), show (i : Int) + 1 = ((i + 1 : Nat) : Int) by omega]
  refine eqStrs_loop ha hb hl hm g (i + 1) (by omega) (finEq H ?_)
  simp [h]
theorem eqStrs_c {p q : OA} {cp cq : Nat} {a b : List BA} (ha : StrsL (lkW W) p a) (hb : StrsL (lkW W) q b) (hm : a.length ≤ 9223372036854775807) :
  PW TP 106 ⟨[.slice p a.length cp, .slice q b.length cq]⟩ W (.bool (decide (a = b))) := by
 refine eqStrs_vc p a.length cp q b.length cq (Mem.start [] W) ⟨fun h => finPW ?_, fun h => eqStrs_loop ha hb (by omega) hm a.length 0 (by omega) (finPW ?_)⟩
 ·rw [decide_eq_false]
  intro hab; subst hab; exact h rfl
 ·simp
theorem Fct.ne_of {x y : Fct} (z : Fld) (h : ¬ x.get z = y.get z) : (Value.bool false) = .bool (decide (x = y)) := by
 rw [decide_eq_false]
 intro e; exact h (by rw [e])
theorem fSame_c {x y : Fct} {xtp xbp xap ytp ybp yap : OA} {xtc xbc xac ytc ybc yac : Nat} (hx : FAt (lkW W) x xtp xtc xbp xbc xap xac) (hy : FAt (lkW W) y ytp ytc ybp ybc yap yac) :
  PW TP 66 ⟨[.agg ⟨x.cells xtp xtc xbp xbc xap xac⟩, .agg ⟨y.cells ytp ytc ybp ybc yap yac⟩]⟩ W (.bool (decide (x = y))) := by
 refine fSame_vc x xtp xtc xbp xbc xap xac y ytp ytc ybp ybc yap yac (Mem.start [] W) fun B B1 => ?_
 refine ⟨fun h1 => ⟨fun h2 => ⟨fun h3 => ⟨fun h4 => ⟨fun h5 => ⟨fun h6 => ⟨fun h7 => ⟨fun h8 => ⟨fun h9 => ?_, fun h => finPW (Fct.ne_of .author h)⟩, fun h => finPW (Fct.ne_of .title h)⟩, fun h => finPW (Fct.ne_of .base h)⟩, fun h => finPW (Fct.ne_of .rev h)⟩, fun h => finPW (Fct.ne_of .lang h)⟩, fun h => finPW (Fct.ne_of .story h)⟩, fun h => finPW (Fct.ne_of .kind h)⟩, fun h => finPW (Fct.ne_of .time h)⟩, fun h => finPW (Fct.ne_of .n h)⟩
 refine CallH.pw (fun W' hm' => eqStrs_c (hx.tops.mono (lkW_kept hm')) (hy.tops.mono (lkW_kept hm')) hx.fits.2.1.1) ⟨_, rfl, rfl, fun g1 => ?_, fun g => finPW (Fct.ne_of .topics (of_decide_eq_false (p := x.topics = y.topics) g))⟩
 refine CallH.pw (fun W' hm' => sameL_c (hx.blks.mono (lkW_kept hm')) (hy.blks.mono (lkW_kept hm')) hx.fits.2.2.1) ⟨_, rfl, rfl, fun g2 => ?_, fun g => finPW (Fct.ne_of .blocks (of_decide_eq_false (p := x.blocks = y.blocks) g))⟩
 refine CallH.pw (fun W' hm' => labSame_c (hx.ints.mono (lkW_kept hm')) (hy.ints.mono (lkW_kept hm')) hx.fits.2.2.2) ⟨_, rfl, rfl, fun g3 => ?_, fun g => finPW (Fct.ne_of .label (of_decide_eq_false (p := x.lab = y.lab) g))⟩
 have g1 := of_decide_eq_true g1; have g2 := of_decide_eq_true g2; have g3 := of_decide_eq_true g3
 refine ⟨fun k1 => ⟨fun k2 => ⟨fun k3 => ⟨fun k4 => ⟨fun k5 => ⟨fun k6 => ⟨fun k7 => finPW ?_, fun h => finPW (Fct.ne_of .cls h)⟩, fun h => finPW (Fct.ne_of .partner h)⟩, fun h => finPW (Fct.ne_of .name h)⟩, fun h => finPW (Fct.ne_of .text h)⟩, fun h => finPW (Fct.ne_of .sentence h)⟩, fun h => finPW (Fct.ne_of .block h)⟩, fun h => finPW (Fct.ne_of .editor h)⟩
 congr 1
 rw [decide_eq_decide]
 refine ⟨fun k8 => ?_, fun h => by rw [h]⟩
 apply Fct.ext_get
 intro z
 cases z <;> assumption
set_option maxRecDepth 100000
abbrev zF3aa : Array Value := #[IV 0, IV 0, IV 0, IV 0, .string (⟨#[]⟩), IV 0, IV 0, .string (⟨#[]⟩), .string (⟨#[]⟩), .slice none 0 0, .slice none 0 0, IV 0, .slice none 0 0, IV 0, IV 0, IV 0, IV 0, IV 0, .string (⟨#[]⟩), .string (⟨#[]⟩), IV 0, IV 0, IV 0]
abbrev zF3ab (x0 : Fct) (x1 x2 x3 : Nat) (x4 x5 x6 : OA) : Array Value := #[IV x0.n, IV x0.time, IV x0.kind, IV x0.story, .string x0.lang, IV x0.rev, IV x0.base, .string x0.title, .string x0.author, .slice x4 x0.topics.length x1, .slice x5 x0.blocks.length x2, IV x0.lab.unt, .slice x6 x0.lab.after.length x3, IV x0.lab.appr, IV x0.lab.den, IV 0, IV 0, IV 0, .string (⟨#[]⟩), .string (⟨#[]⟩), IV 0, IV 0, IV 0]
abbrev zF3ac (x0 : Fct) : Array Value := #[IV x0.n, IV x0.time, IV x0.kind, IV 0, .string (⟨#[]⟩), IV 0, IV 0, .string (⟨#[]⟩), .string (⟨#[]⟩), .slice none 0 0, .slice none 0 0, IV 0, .slice none 0 0, IV 0, IV 0, IV 0, IV 0, IV 0, .string x0.text, .string x0.name, IV 0, IV 0, IV 0]
abbrev zF3ad (x0 : Fct) : Array Value := #[IV x0.n, IV x0.time, IV x0.kind, IV x0.story, .string x0.lang, IV 0, IV 0, .string (⟨#[]⟩), .string (⟨#[]⟩), .slice none 0 0, .slice none 0 0, IV 0, .slice none 0 0, IV 0, IV 0, IV 0, IV x0.block, IV x0.sentence, .string x0.text, .string (⟨#[]⟩), IV 0, IV 0, IV 0]
abbrev zF3ae (x0 : Fct) : Array Value := #[IV x0.n, IV x0.time, IV x0.kind, IV 0, .string (⟨#[]⟩), IV 0, IV 0, .string (⟨#[]⟩), .string (⟨#[]⟩), .slice none 0 0, .slice none 0 0, IV 0, .slice none 0 0, IV 0, IV 0, IV 0, IV 0, IV 0, .string (⟨#[]⟩), .string (⟨#[]⟩), IV x0.partner, IV x0.cls, IV x0.unt]
abbrev zF3af (x0 : Fct) : Array Value := #[IV x0.n, IV x0.time, IV x0.kind, IV x0.story, .string (⟨#[]⟩), IV 0, IV 0, .string (⟨#[]⟩), .string (⟨#[]⟩), .slice none 0 0, .slice none 0 0, IV 0, .slice none 0 0, IV 0, IV 0, IV 0, IV 0, IV 0, .string (⟨#[]⟩), .string (⟨#[]⟩), IV 0, IV 0, IV 0]
abbrev zF3ag (x0 : Fct) (x1 : Nat) (x2 : OA) : Array Value := #[IV x0.n, IV x0.time, IV x0.kind, IV x0.story, .string (⟨#[]⟩), IV 0, IV 0, .string (⟨#[]⟩), .string (⟨#[]⟩), .slice none 0 0, .slice none 0 0, IV x0.lab.unt, .slice x2 x0.lab.after.length x1, IV x0.lab.appr, IV x0.lab.den, IV 0, IV 0, IV 0, .string (⟨#[]⟩), .string (⟨#[]⟩), IV 0, IV 0, IV 0]
abbrev zF3ah (x0 : Fct) : Array Value := #[IV x0.n, IV x0.time, IV x0.kind, IV x0.story, .string (⟨#[]⟩), IV 0, IV 0, .string (⟨#[]⟩), .string (⟨#[]⟩), .slice none 0 0, .slice none 0 0, IV 0, .slice none 0 0, IV 0, IV 0, IV x0.editor, IV 0, IV 0, .string (⟨#[]⟩), .string (⟨#[]⟩), IV 0, IV 0, IV 0]
abbrev zF3ai (x0 : Fct) : Array Value := #[IV x0.n, IV x0.time, IV x0.kind, IV x0.story, .string (⟨#[]⟩), IV 0, IV 0, .string (⟨#[]⟩), .string (⟨#[]⟩), .slice none 0 0, .slice none 0 0, IV 0, .slice none 0 0, IV 0, IV 0, IV 0, IV 0, IV 0, .string x0.text, .string (⟨#[]⟩), IV 0, IV 0, IV 0]
abbrev usedH0 (B3 : Nat) (f : Fct) (ftp : OA) (ftc : Nat) (fbp : OA) (fbc : Nat) (fap : OA) (fac B4 B5 : Nat) : SHeap := [(B3, .cells ⟨f.cells ftp ftc fbp fbc fap fac⟩ 38), (B4, .cells zF3aa 38), (B5, .cells (zF3af f) 38)]
abbrev usedH1 (B : Nat) (f : Fct) (ftp : OA) (ftc : Nat) (fbp : OA) (fbc : Nat) (fap : OA) (fac B1 B2 : Nat) : SHeap := [(B, .cells ⟨f.cells ftp ftc fbp fbc fap fac⟩ 38), (B1, .cells zF3aa 38), (B2, .cells (zF3af f) 38)]
abbrev usedH2 (B3 : Nat) (f : Fct) (ftp : OA) (ftc : Nat) (fbp : OA) (fbc : Nat) (fap : OA) (fac B4 : Nat) : SHeap := [(B3, .cells ⟨f.cells ftp ftc fbp fbc fap fac⟩ 38), (B4, .cells zF3aa 38)]
abbrev usedH3 (B3 : Nat) (f : Fct) (ftp : OA) (ftc : Nat) (fbp : OA) (fbc : Nat) (fap : OA) (fac B5 B4 : Nat) : SHeap := [(B3, .cells ⟨f.cells ftp ftc fbp fbc fap fac⟩ 38), (B5, .cells (zF3ab f ftc fbc fac ftp fbp fap) 38), (B4, .cells (zF3ab f ftc fbc fac ftp fbp fap) 38)]
abbrev usedH4 (B3 : Nat) (f : Fct) (ftp : OA) (ftc : Nat) (fbp : OA) (fbc : Nat) (fap : OA) (fac B5 B4 : Nat) : SHeap := [(B3, .cells ⟨f.cells ftp ftc fbp fbc fap fac⟩ 38), (B5, .cells (zF3ag f fac fap) 38), (B4, .cells (zF3ag f fac fap) 38)]
abbrev usedH5 (B3 : Nat) (f : Fct) (ftp : OA) (ftc : Nat) (fbp : OA) (fbc : Nat) (fap : OA) (fac B5 B4 : Nat) : SHeap := [(B3, .cells ⟨f.cells ftp ftc fbp fbc fap fac⟩ 38), (B5, .cells (zF3ac f) 38), (B4, .cells (zF3ac f) 38)]
abbrev usedH6 (B3 : Nat) (f : Fct) (ftp : OA) (ftc : Nat) (fbp : OA) (fbc : Nat) (fap : OA) (fac B5 B4 : Nat) : SHeap := [(B3, .cells ⟨f.cells ftp ftc fbp fbc fap fac⟩ 38), (B5, .cells (zF3ah f) 38), (B4, .cells (zF3ah f) 38)]
abbrev usedH7 (B3 : Nat) (f : Fct) (ftp : OA) (ftc : Nat) (fbp : OA) (fbc : Nat) (fap : OA) (fac B5 B4 : Nat) : SHeap := [(B3, .cells ⟨f.cells ftp ftc fbp fbc fap fac⟩ 38), (B5, .cells (zF3ai f) 38), (B4, .cells (zF3ai f) 38)]
abbrev usedH8 (B3 : Nat) (f : Fct) (ftp : OA) (ftc : Nat) (fbp : OA) (fbc : Nat) (fap : OA) (fac B5 B4 : Nat) : SHeap := [(B3, .cells ⟨f.cells ftp ftc fbp fbc fap fac⟩ 38), (B5, .cells (zF3ad f) 38), (B4, .cells (zF3ad f) 38)]
abbrev usedH9 (B3 : Nat) (f : Fct) (ftp : OA) (ftc : Nat) (fbp : OA) (fbc : Nat) (fap : OA) (fac B5 B4 : Nat) : SHeap := [(B3, .cells ⟨f.cells ftp ftc fbp fbc fap fac⟩ 38), (B5, .cells (zF3ae f) 38), (B4, .cells (zF3ae f) 38)]
abbrev usedH10 (B3 : Nat) (f : Fct) (ftp : OA) (ftc : Nat) (fbp : OA) (fbc : Nat) (fap : OA) (fac B4 B5 : Nat) : SHeap := [(B3, .cells ⟨f.cells ftp ftc fbp fbc fap fac⟩ 38), (B4, .cells zF3aa 38), (B5, .cells #[IV f.n, IV f.time, IV f.kind, IV f.story, .string f.lang, IV f.rev, IV f.base, .string f.title, .string f.author, .slice none 0 0, .slice none 0 0, IV 0, .slice none 0 0, IV 0, IV 0, IV 0, IV 0, IV 0, .string (⟨#[]⟩), .string (⟨#[]⟩), IV 0, IV 0, IV 0] 38)]
abbrev usedH11 (B3 : Nat) (f : Fct) (ftp : OA) (ftc : Nat) (fbp : OA) (fbc : Nat) (fap : OA) (fac B4 B5 : Nat) : SHeap := [(B3, .cells ⟨f.cells ftp ftc fbp fbc fap fac⟩ 38), (B4, .cells (zF3af f) 38), (B5, .cells (zF3af f) 38)]
abbrev usedH12 (B3 : Nat) (f : Fct) (ftp : OA) (ftc : Nat) (fbp : OA) (fbc : Nat) (fap : OA) (fac B5 : Nat) : SHeap := [(B3, .cells ⟨f.cells ftp ftc fbp fbc fap fac⟩ 38), (B5, .cells (zF3ac f) 38)]
abbrev usedH13 (B3 : Nat) (f : Fct) (ftp : OA) (ftc : Nat) (fbp : OA) (fbc : Nat) (fap : OA) (fac B4 B5 : Nat) : SHeap := [(B3, .cells ⟨f.cells ftp ftc fbp fbc fap fac⟩ 38), (B4, .cells zF3aa 38), (B5, .cells (zF3ab f ftc fbc fac ftp fbp fap) 38)]
abbrev usedH14 (B3 : Nat) (f : Fct) (ftp : OA) (ftc : Nat) (fbp : OA) (fbc : Nat) (fap : OA) (fac B5 B4 : Nat) : SHeap := [(B3, .cells ⟨f.cells ftp ftc fbp fbc fap fac⟩ 38), (B5, .cells (zF3ab f ftc fbc fac ftp fbp fap) 38), (B4, .cells zF3aa 38)]
abbrev usedH15 (B3 : Nat) (f : Fct) (ftp : OA) (ftc : Nat) (fbp : OA) (fbc : Nat) (fap : OA) (fac B5 B4 : Nat) : SHeap := [(B3, .cells ⟨f.cells ftp ftc fbp fbc fap fac⟩ 38), (B5, .cells (zF3ag f fac fap) 38), (B4, .cells zF3aa 38)]
abbrev usedH16 (B3 : Nat) (f : Fct) (ftp : OA) (ftc : Nat) (fbp : OA) (fbc : Nat) (fap : OA) (fac B4 B5 : Nat) : SHeap := [(B3, .cells ⟨f.cells ftp ftc fbp fbc fap fac⟩ 38), (B4, .cells zF3aa 38), (B5, .cells (zF3ac f) 38)]
abbrev usedH17 (B3 : Nat) (f : Fct) (ftp : OA) (ftc : Nat) (fbp : OA) (fbc : Nat) (fap : OA) (fac B5 B4 : Nat) : SHeap := [(B3, .cells ⟨f.cells ftp ftc fbp fbc fap fac⟩ 38), (B5, .cells (zF3ac f) 38), (B4, .cells zF3aa 38)]
abbrev usedH18 (B3 : Nat) (f : Fct) (ftp : OA) (ftc : Nat) (fbp : OA) (fbc : Nat) (fap : OA) (fac B5 B4 : Nat) : SHeap := [(B3, .cells ⟨f.cells ftp ftc fbp fbc fap fac⟩ 38), (B5, .cells (zF3ah f) 38), (B4, .cells zF3aa 38)]
abbrev usedH19 (B3 : Nat) (f : Fct) (ftp : OA) (ftc : Nat) (fbp : OA) (fbc : Nat) (fap : OA) (fac B5 B4 : Nat) : SHeap := [(B3, .cells ⟨f.cells ftp ftc fbp fbc fap fac⟩ 38), (B5, .cells (zF3ai f) 38), (B4, .cells zF3aa 38)]
abbrev usedH20 (B3 : Nat) (f : Fct) (ftp : OA) (ftc : Nat) (fbp : OA) (fbc : Nat) (fap : OA) (fac B4 B5 : Nat) : SHeap := [(B3, .cells ⟨f.cells ftp ftc fbp fbc fap fac⟩ 38), (B4, .cells zF3aa 38), (B5, .cells (zF3ad f) 38)]
abbrev usedH21 (B3 : Nat) (f : Fct) (ftp : OA) (ftc : Nat) (fbp : OA) (fbc : Nat) (fap : OA) (fac B5 B4 : Nat) : SHeap := [(B3, .cells ⟨f.cells ftp ftc fbp fbc fap fac⟩ 38), (B5, .cells (zF3ad f) 38), (B4, .cells zF3aa 38)]
abbrev usedH22 (B3 : Nat) (f : Fct) (ftp : OA) (ftc : Nat) (fbp : OA) (fbc : Nat) (fap : OA) (fac B4 B5 : Nat) : SHeap := [(B3, .cells ⟨f.cells ftp ftc fbp fbc fap fac⟩ 38), (B4, .cells zF3aa 38), (B5, .cells (zF3ae f) 38)]
abbrev usedH23 (B3 : Nat) (f : Fct) (ftp : OA) (ftc : Nat) (fbp : OA) (fbc : Nat) (fap : OA) (fac B5 B4 : Nat) : SHeap := [(B3, .cells ⟨f.cells ftp ftc fbp fbc fap fac⟩ 38), (B5, .cells (zF3ae f) 38), (B4, .cells zF3aa 38)]
abbrev usedH24 (B3 : Nat) (f : Fct) (ftp : OA) (ftc : Nat) (fbp : OA) (fbc : Nat) (fap : OA) (fac B5 : Nat) : SHeap := [(B3, .cells ⟨f.cells ftp ftc fbp fbc fap fac⟩ 38), (B5, .cells (zF3ab f ftc fbc fac ftp fbp fap) 38)]
abbrev usedH25 (B3 : Nat) (f : Fct) (ftp : OA) (ftc : Nat) (fbp : OA) (fbc : Nat) (fap : OA) (fac B5 : Nat) : SHeap := [(B3, .cells ⟨f.cells ftp ftc fbp fbc fap fac⟩ 38), (B5, .cells (zF3ag f fac fap) 38)]
abbrev usedH26 (B3 : Nat) (f : Fct) (ftp : OA) (ftc : Nat) (fbp : OA) (fbc : Nat) (fap : OA) (fac B5 : Nat) : SHeap := [(B3, .cells ⟨f.cells ftp ftc fbp fbc fap fac⟩ 38), (B5, .cells (zF3ah f) 38)]
abbrev usedH27 (B3 : Nat) (f : Fct) (ftp : OA) (ftc : Nat) (fbp : OA) (fbc : Nat) (fap : OA) (fac B5 : Nat) : SHeap := [(B3, .cells ⟨f.cells ftp ftc fbp fbc fap fac⟩ 38), (B5, .cells (zF3ai f) 38)]
abbrev usedH28 (B3 : Nat) (f : Fct) (ftp : OA) (ftc : Nat) (fbp : OA) (fbc : Nat) (fap : OA) (fac B5 : Nat) : SHeap := [(B3, .cells ⟨f.cells ftp ftc fbp fbc fap fac⟩ 38), (B5, .cells (zF3ad f) 38)]
abbrev usedH29 (B3 : Nat) (f : Fct) (ftp : OA) (ftc : Nat) (fbp : OA) (fbc : Nat) (fap : OA) (fac B5 : Nat) : SHeap := [(B3, .cells ⟨f.cells ftp ftc fbp fbc fap fac⟩ 38), (B5, .cells (zF3ae f) 38)]
abbrev usedA0 (f : Fct) (ftp : OA) (ftc : Nat) (fbp : OA) (fbc : Nat) (fap : OA) (fac : Nat) : Array Value := ⟨f.cells ftp ftc fbp fbc fap fac⟩
abbrev usedA1 (f : Fct) : Array Value := (zF3af f)
abbrev usedA2 (f : Fct) (fap : OA) (fac : Nat) : Array Value := (zF3ag f fac fap)
abbrev usedA3 (f : Fct) : Array Value := (zF3ah f)
abbrev usedA4 (f : Fct) : Array Value := (zF3ai f)
abbrev usedA5 (f : Fct) (ftp : OA) (ftc : Nat) (fbp : OA) (fbc : Nat) (fap : OA) (fac : Nat) : Array Value := (zF3ab f ftc fbc fac ftp fbp fap)
abbrev usedA6 (f : Fct) : Array Value := (zF3ac f)
abbrev usedA7 (f : Fct) : Array Value := #[IV f.n, IV f.time, IV f.kind, IV 0, .string (⟨#[]⟩), IV 0, IV 0, .string (⟨#[]⟩), .string (⟨#[]⟩), .slice none 0 0, .slice none 0 0, IV 0, .slice none 0 0, IV 0, IV 0, IV 0, IV 0, IV 0, .string (⟨#[]⟩), .string (⟨#[]⟩), IV f.partner, IV 0, IV f.unt]
abbrev usedA8 (f : Fct) : Array Value := (zF3ad f)
abbrev usedA9 (f : Fct) : Array Value := (zF3ae f)
abbrev usedA10 : Array Value := zF3aa
abbrev usedA11 (f : Fct) (fap : OA) (fac : Nat) : Array Value := #[IV f.lab.unt, .slice fap f.lab.after.length fac, IV f.lab.appr, IV f.lab.den]
def used_c0 (f : Fct) (ftp : OA) (ftc : Nat) (fbp : OA) (fbc : Nat) (fap : OA) (fac B3 B4 B5 : Nat) (story partner : Bool) (w0 : World) (R : Ending → World → Prop) : Prop :=
 AtE TP 65 171 (KC Tryz.f65 62) [(1, PP B3), (2, PP B4), (4, PP B5), (5, .bool story), (6, .bool partner)] (usedH0 B3 f ftp ftc fbp fbc fap fac B4 B5) [] w0 (nrm R)
theorem used_c0_vc (f : Fct) (ftp : OA) (ftc : Nat) (fbp : OA) (fbc : Nat) (fap : OA) (fac B3 B4 B5 : Nat) (story partner : Bool)
 (H :
 Br (f.kind = 1)
 (Bb (story)
 (∃ (r41 : Bool), (QCallB TP 100 ⟨[.agg (usedA0 f ftp ftc fbp fbc fap fac)]⟩ (usedH24 B3 f ftp ftc fbp fbc fap fac B5) [] w0 (.bool r41)) ∧
 Fin R (usedH3 B3 f ftp ftc fbp fbc fap fac B5 B4) [] w0 (.tuple #[.agg (usedA5 f ftp ftc fbp fbc fap fac), .bool r41]))
 (Fin R (usedH3 B3 f ftp ftc fbp fbc fap fac B5 B4) [] w0 (.tuple #[.agg (usedA5 f ftp ftc fbp fbc fap fac), .bool false])))
 (Br (f.kind = 2)
 (Bb (story)
 (∃ (r51 : Bool), (QCallB TP 64 ⟨[IV f.editor, IV 1, IV 5]⟩ (usedH26 B3 f ftp ftc fbp fbc fap fac B5) [] w0 (.bool r51)) ∧
 Fin R (usedH6 B3 f ftp ftc fbp fbc fap fac B5 B4) [] w0 (.tuple #[.agg (usedA3 f), .bool r51]))
 (Fin R (usedH6 B3 f ftp ftc fbp fbc fap fac B5 B4) [] w0 (.tuple #[.agg (usedA3 f), .bool false])))
 (Br (f.kind = 3)
 (Bb (story)
 (∃ (r61 : Bool), (QCallB TP 101 ⟨[.agg (usedA11 f fap fac)]⟩ (usedH25 B3 f ftp ftc fbp fbc fap fac B5) [] w0 (.bool r61)) ∧
 Fin R (usedH4 B3 f ftp ftc fbp fbc fap fac B5 B4) [] w0 (.tuple #[.agg (usedA2 f fap fac), .bool r61]))
 (Fin R (usedH4 B3 f ftp ftc fbp fbc fap fac B5 B4) [] w0 (.tuple #[.agg (usedA2 f fap fac), .bool false])))
 (Br (f.kind = 4)
 (Bb (story)
 (∃ (r71 : Bool), (QCallB TP 102 ⟨[.agg (usedA0 f ftp ftc fbp fbc fap fac)]⟩ (usedH28 B3 f ftp ftc fbp fbc fap fac B5) [] w0 (.bool r71)) ∧
 Fin R (usedH8 B3 f ftp ftc fbp fbc fap fac B5 B4) [] w0 (.tuple #[.agg (usedA8 f), .bool r71]))
 (Fin R (usedH8 B3 f ftp ftc fbp fbc fap fac B5 B4) [] w0 (.tuple #[.agg (usedA8 f), .bool false])))
 (Br (f.kind = 5)
 (Bb (story)
 (∃ (r81 : Bool), (QCallB TP 103 ⟨[.string f.text]⟩ (usedH27 B3 f ftp ftc fbp fbc fap fac B5) [] w0 (.bool r81)) ∧
 Fin R (usedH7 B3 f ftp ftc fbp fbc fap fac B5 B4) [] w0 (.tuple #[.agg (usedA4 f), .bool r81]))
 (Fin R (usedH7 B3 f ftp ftc fbp fbc fap fac B5 B4) [] w0 (.tuple #[.agg (usedA4 f), .bool false])))
 (Br (f.kind = 6)
 (Fin R (usedH11 B3 f ftp ftc fbp fbc fap fac B4 B5) [] w0 (.tuple #[.agg (usedA1 f), .bool story]))
 (Br (f.kind = 10)
 (Fin R (usedH11 B3 f ftp ftc fbp fbc fap fac B4 B5) [] w0 (.tuple #[.agg (usedA1 f), .bool story]))
 (Br (f.kind = 7)
 (∃ (r91 : Bool), (QCallB TP 104 ⟨[.string f.name]⟩ (usedH12 B3 f ftp ftc fbp fbc fap fac B5) [] w0 (.bool r91)) ∧
 Bb (r91)
 (∃ (r101 : Bool), (QCallB TP 105 ⟨[.string f.text]⟩ (usedH12 B3 f ftp ftc fbp fbc fap fac B5) [] w0 (.bool r101)) ∧
 Fin R (usedH5 B3 f ftp ftc fbp fbc fap fac B5 B4) [] w0 (.tuple #[.agg (usedA6 f), .bool r101]))
 (Fin R (usedH5 B3 f ftp ftc fbp fbc fap fac B5 B4) [] w0 (.tuple #[.agg (usedA6 f), .bool false])))
 (Br (f.kind = 8)
 (Bb (partner)
 (∃ (r111 : Bool), (QCallB TP 64 ⟨[IV f.cls, IV 0, IV 3]⟩ (usedH29 B3 f ftp ftc fbp fbc fap fac B5) [] w0 (.bool r111)) ∧
 Fin R (usedH9 B3 f ftp ftc fbp fbc fap fac B5 B4) [] w0 (.tuple #[.agg (usedA9 f), .bool r111]))
 (Fin R (usedH9 B3 f ftp ftc fbp fbc fap fac B5 B4) [] w0 (.tuple #[.agg (usedA9 f), .bool false])))
 (Br (f.kind = 9)
 (Fin R [(B3, .cells (usedA0 f ftp ftc fbp fbc fap fac) 38), (B4, .cells (usedA7 f) 38), (B5, .cells (usedA7 f) 38)] [] w0 (.tuple #[.agg (usedA7 f), .bool partner]))
 (Fin R (usedH11 B3 f ftp ftc fbp fbc fap fac B4 B5) [] w0 (.tuple #[.agg (usedA1 f), .bool false])))))))))))) :
 used_c0 f ftp ftc fbp fbc fap fac B3 B4 B5 story partner w0 R:= by
 unfold used_c0
 refine .ru 3 (.ld 0 2 (.ru 7 (.sP 29 H (fun H => ?_) fun H => ?_)))
 ·refine .ru 2 (.nm (KC Tryz.f65 2004) [(1, PP B3), (2, PP B4), (4, PP B5), (5, .bool story)] (usedH0 B3 f ftp ftc fbp fbc fap fac B4 B5) (.dD (.ph 20 [0,1,2,3,4,5,6,7,8,9,10] [11,12,13,14,15,16,17,18,19] (usedH2 B3 f ftp ftc fbp fbc fap fac B4) (.pu (.ld 0 4 (.pu (.ld 0 5 (.pu (.ld 0 6 (.pu (.ld 0 7 (.pu (.ld 0 8 (.pu (.dn (.store _ 2 4 (T := 9) (v := .string f.lang) rfl (by kernel_rfl) (.pure _ rfl (by kernel_rfl) (fun W => by kernel_rfl) (.store _ 2 5 (T := 3) (v := IV f.rev) rfl (by kernel_rfl) (.pure _ rfl (by kernel_rfl) (fun W => by kernel_rfl) (.store _ 2 6 (T := 3) (v := IV f.base) rfl (by kernel_rfl) (.pure _ rfl (by kernel_rfl) (fun W => by kernel_rfl) (.store _ 2 7 (T := 9) (v := .string f.title) rfl (by kernel_rfl) (.pure _ rfl (by kernel_rfl) (fun W => by kernel_rfl) (.store _ 2 8 (T := 9) (v := .string f.author) rfl (by kernel_rfl) (.dn (.nm [(1, PP B3), (2, PP B4), (4, PP B5), (5, .bool story)] (usedH10 B3 f ftp ftc fbp fbc fap fac B4 B5) (.tl (.ru 2 (.nm (KC Tryz.f65 4010) [(1, PP B3), (2, PP B4), (4, PP B5), (5, .bool story)] (usedH10 B3 f ftp ftc fbp fbc fap fac B4 B5) (.dD (.ph 12 [0,1,2,3,4,5,6] [7,8,9,10,11] (usedH2 B3 f ftp ftc fbp fbc fap fac B4) (.pu (.ld 0 9 (.pu (.ld 0 10 (.pu (.ld 0 11 (.pu (.dn (.store _ 2 9 (T := 32) (v := .slice ftp f.topics.length ftc) rfl (by kernel_rfl) (.pure _ rfl (by kernel_rfl) (fun W => by kernel_rfl) (.store _ 2 10 (T := 33) (v := .slice fbp f.blocks.length fbc) rfl (by kernel_rfl) (.pure _ rfl (by kernel_rfl) (fun W => by kernel_rfl) (.store _ 2 11 (T := 36) (v := .agg (usedA11 f fap fac)) rfl (by kernel_rfl) (.dn (.nm [(1, PP B3), (2, PP B4), (4, PP B5), (5, .bool story)] (usedH13 B3 f ftp ftc fbp fbc fap fac B4 B5) (.tl (.ru 2 (.nm (KC Tryz.f65 8022) [(1, PP B3), (2, PP B4), (4, PP B5), (5, .bool story)] (usedH13 B3 f ftp ftc fbp fbc fap fac B4 B5) (.cut [0,2,1] (k' := (KC Tryz.f65 8022)) (e' := [(1, PP B3), (2, PP B4), (4, PP B5), (5, .bool story)]) (L' := (usedH14 B3 f ftp ftc fbp fbc fap fac B5 B4)) ?_ (by kernel_rfl)))))))))))))))))))))))))))))))))))))))))))))))))))
  refine .dD (.nm [(1, PP B3), (2, PP B4), (4, PP B5), (5, .bool story)] (usedH14 B3 f ftp ftc fbp fbc fap fac B5 B4) (.ph 7 [0,1,2,3,4,5] [6] (usedH24 B3 f ftp ftc fbp fbc fap fac B5) (.ld 1 0 (.pu (.pu (.split 57 (b := story) (by kernel_rfl) (fun h3' => ?_) (fun h3' => ?_)))))))
  ·replace H := H.1 h3'
   refine .ld 0 0 ?_
   obtain ⟨r41, hq, H⟩ := H
   refine .cl hq (.pu (.dn (.store _ 2 0 (T := 38) (v := .agg (usedA5 f ftp ftc fbp fbc fap fac)) rfl (by kernel_rfl) (.dn (.nm [(2, PP B4), (60, .bool r41)] (usedH3 B3 f ftp ftc fbp fbc fap fac B5 B4) (.tl (.ru 2 (.retR Tryz.func65 (by kernel_rfl) (ResOk.ct (a := 2) (b := 3) (T := 38) (u := .agg (usedA5 f ftp ftc fbp fbc fap fac)) (v := .bool r41) 2 0 (by kernel_rfl) (by kernel_rfl)) H))))))))
  ·replace H := H.2 h3'
   refine .sk (.sk (.pu (.dn (.store _ 2 0 (T := 38) (v := .agg (usedA5 f ftp ftc fbp fbc fap fac)) rfl (by kernel_rfl) (.dn (.nm [(2, PP B4), (60, .bool false)] (usedH3 B3 f ftp ftc fbp fbc fap fac B5 B4) (.tl (.ru 2 (.retR Tryz.func65 (by kernel_rfl) (ResOk.ct (a := 2) (b := 3) (T := 38) (u := .agg (usedA5 f ftp ftc fbp fbc fap fac)) (v := .bool false) 2 0 (by kernel_rfl) (by kernel_rfl)) H)))))))))
 ·refine .ru 6 (.sP 61 H (fun H => ?_) fun H => ?_)
  ·refine .ru 4 (.ld 0 15 (.ru 1 (.st 2 15 (.ru 2 (.nm (KC Tryz.f65 16058) [(1, PP B3), (2, PP B4), (4, PP B5), (5, .bool story)] [(B3, .cells (usedA0 f ftp ftc fbp fbc fap fac) 38), (B4, .cells usedA10 38), (B5, .cells (usedA3 f) 38)] (.cut [0,2,1] (k' := (KC Tryz.f65 16058)) (e' := [(1, PP B3), (2, PP B4), (4, PP B5), (5, .bool story)]) (L' := (usedH18 B3 f ftp ftc fbp fbc fap fac B5 B4)) ?_ (by kernel_rfl)))))))
   refine .dD (.nm [(1, PP B3), (2, PP B4), (4, PP B5), (5, .bool story)] (usedH18 B3 f ftp ftc fbp fbc fap fac B5 B4) (.ph 8 [0,1,2,3,4,5,6] [7] (usedH26 B3 f ftp ftc fbp fbc fap fac B5) (.ld 1 0 (.pu (.pu (.split 68 (b := story) (by kernel_rfl) (fun h5' => ?_) (fun h5' => ?_)))))))
   ·replace H := H.1 h5'
    refine .pu (.ld 0 15 ?_)
    obtain ⟨r51, hq, H⟩ := H
    refine .cl hq (.pu (.dn (.store _ 2 0 (T := 38) (v := .agg (usedA3 f)) rfl (by kernel_rfl) (.dn (.nm [(2, PP B4), (72, .bool r51)] (usedH6 B3 f ftp ftc fbp fbc fap fac B5 B4) (.tl (.ru 2 (.retR Tryz.func65 (by kernel_rfl) (ResOk.ct (a := 2) (b := 3) (T := 38) (u := .agg (usedA3 f)) (v := .bool r51) 2 0 (by kernel_rfl) (by kernel_rfl)) H))))))))
   ·replace H := H.2 h5'
    refine .sk (.sk (.sk (.pu (.dn (.store _ 2 0 (T := 38) (v := .agg (usedA3 f)) rfl (by kernel_rfl) (.dn (.nm [(2, PP B4), (72, .bool false)] (usedH6 B3 f ftp ftc fbp fbc fap fac B5 B4) (.tl (.ru 2 (.retR Tryz.func65 (by kernel_rfl) (ResOk.ct (a := 2) (b := 3) (T := 38) (u := .agg (usedA3 f)) (v := .bool false) 2 0 (by kernel_rfl) (by kernel_rfl)) H))))))))))
  ·refine .ru 6 (.sP 73 H (fun H => ?_) fun H => ?_)
   ·refine .ru 4 (.ld 0 11 (.ru 1 (.st 2 11 (.ru 2 (.nm (KC Tryz.f65 64250) [(1, PP B3), (2, PP B4), (4, PP B5), (5, .bool story)] [(B3, .cells (usedA0 f ftp ftc fbp fbc fap fac) 38), (B4, .cells usedA10 38), (B5, .cells (usedA2 f fap fac) 38)] (.cut [0,2,1] (k' := (KC Tryz.f65 64250)) (e' := [(1, PP B3), (2, PP B4), (4, PP B5), (5, .bool story)]) (L' := (usedH15 B3 f ftp ftc fbp fbc fap fac B5 B4)) ?_ (by kernel_rfl)))))))
    refine .dD (.nm [(1, PP B3), (2, PP B4), (4, PP B5), (5, .bool story)] (usedH15 B3 f ftp ftc fbp fbc fap fac B5 B4) (.ph 8 [0,1,2,3,4,5,6] [7] (usedH25 B3 f ftp ftc fbp fbc fap fac B5) (.ld 1 0 (.pu (.pu (.split 80 (b := story) (by kernel_rfl) (fun h7' => ?_) (fun h7' => ?_)))))))
    ·replace H := H.1 h7'
     refine .pu (.ld 0 11 ?_)
     obtain ⟨r61, hq, H⟩ := H
     refine .cl hq (.pu (.dn (.store _ 2 0 (T := 38) (v := .agg (usedA2 f fap fac)) rfl (by kernel_rfl) (.dn (.nm [(2, PP B4), (84, .bool r61)] (usedH4 B3 f ftp ftc fbp fbc fap fac B5 B4) (.tl (.ru 2 (.retR Tryz.func65 (by kernel_rfl) (ResOk.ct (a := 2) (b := 3) (T := 38) (u := .agg (usedA2 f fap fac)) (v := .bool r61) 2 0 (by kernel_rfl) (by kernel_rfl)) H))))))))
    ·replace H := H.2 h7'
     refine .sk (.sk (.sk (.pu (.dn (.store _ 2 0 (T := 38) (v := .agg (usedA2 f fap fac)) rfl (by kernel_rfl) (.dn (.nm [(2, PP B4), (84, .bool false)] (usedH4 B3 f ftp ftc fbp fbc fap fac B5 B4) (.tl (.ru 2 (.retR Tryz.func65 (by kernel_rfl) (ResOk.ct (a := 2) (b := 3) (T := 38) (u := .agg (usedA2 f fap fac)) (v := .bool false) 2 0 (by kernel_rfl) (by kernel_rfl)) H))))))))))
   ·refine .ru 6 (.sP 85 H (fun H => ?_) fun H => ?_)
    ·refine .ru 2 (.nm (KC Tryz.f65 128508) [(1, PP B3), (2, PP B4), (4, PP B5), (5, .bool story)] (usedH0 B3 f ftp ftc fbp fbc fap fac B4 B5) (.dD (.ph 16 [0,1,2,3,4,5,6,7,8] [9,10,11,12,13,14,15] (usedH2 B3 f ftp ftc fbp fbc fap fac B4) (.pu (.ld 0 4 (.pu (.ld 0 16 (.pu (.ld 0 17 (.pu (.ld 0 18 (.pu (.dn (.store _ 2 4 (T := 9) (v := .string f.lang) rfl (by kernel_rfl) (.pure _ rfl (by kernel_rfl) (fun W => by kernel_rfl) (.store _ 2 16 (T := 3) (v := IV f.block) rfl (by kernel_rfl) (.pure _ rfl (by kernel_rfl) (fun W => by kernel_rfl) (.store _ 2 17 (T := 3) (v := IV f.sentence) rfl (by kernel_rfl) (.pure _ rfl (by kernel_rfl) (fun W => by kernel_rfl) (.store _ 2 18 (T := 9) (v := .string f.text) rfl (by kernel_rfl) (.dn (.nm [(1, PP B3), (2, PP B4), (4, PP B5), (5, .bool story)] (usedH20 B3 f ftp ftc fbp fbc fap fac B4 B5) (.tl (.ru 2 (.nm (KC Tryz.f65 257018) [(1, PP B3), (2, PP B4), (4, PP B5), (5, .bool story)] (usedH20 B3 f ftp ftc fbp fbc fap fac B4 B5) (.cut [0,2,1] (k' := (KC Tryz.f65 257018)) (e' := [(1, PP B3), (2, PP B4), (4, PP B5), (5, .bool story)]) (L' := (usedH21 B3 f ftp ftc fbp fbc fap fac B5 B4)) ?_ (by kernel_rfl)))))))))))))))))))))))))))
     refine .dD (.nm [(1, PP B3), (2, PP B4), (4, PP B5), (5, .bool story)] (usedH21 B3 f ftp ftc fbp fbc fap fac B5 B4) (.ph 7 [0,1,2,3,4,5] [6] (usedH28 B3 f ftp ftc fbp fbc fap fac B5) (.ld 1 0 (.pu (.pu (.split 101 (b := story) (by kernel_rfl) (fun h9' => ?_) (fun h9' => ?_)))))))
     ·replace H := H.1 h9'
      refine .ld 0 0 ?_
      obtain ⟨r71, hq, H⟩ := H
      refine .cl hq (.pu (.dn (.store _ 2 0 (T := 38) (v := .agg (usedA8 f)) rfl (by kernel_rfl) (.dn (.nm [(2, PP B4), (104, .bool r71)] (usedH8 B3 f ftp ftc fbp fbc fap fac B5 B4) (.tl (.ru 2 (.retR Tryz.func65 (by kernel_rfl) (ResOk.ct (a := 2) (b := 3) (T := 38) (u := .agg (usedA8 f)) (v := .bool r71) 2 0 (by kernel_rfl) (by kernel_rfl)) H))))))))
     ·replace H := H.2 h9'
      refine .sk (.sk (.pu (.dn (.store _ 2 0 (T := 38) (v := .agg (usedA8 f)) rfl (by kernel_rfl) (.dn (.nm [(2, PP B4), (104, .bool false)] (usedH8 B3 f ftp ftc fbp fbc fap fac B5 B4) (.tl (.ru 2 (.retR Tryz.func65 (by kernel_rfl) (ResOk.ct (a := 2) (b := 3) (T := 38) (u := .agg (usedA8 f)) (v := .bool false) 2 0 (by kernel_rfl) (by kernel_rfl)) H)))))))))
    ·refine .ru 6 (.sP 105 H (fun H => ?_) fun H => ?_)
     ·refine .ru 4 (.ld 0 18 (.ru 1 (.st 2 18 (.ru 2 (.nm (KC Tryz.f65 1028090) [(1, PP B3), (2, PP B4), (4, PP B5), (5, .bool story)] [(B3, .cells (usedA0 f ftp ftc fbp fbc fap fac) 38), (B4, .cells usedA10 38), (B5, .cells (usedA4 f) 38)] (.cut [0,2,1] (k' := (KC Tryz.f65 1028090)) (e' := [(1, PP B3), (2, PP B4), (4, PP B5), (5, .bool story)]) (L' := (usedH19 B3 f ftp ftc fbp fbc fap fac B5 B4)) ?_ (by kernel_rfl)))))))
      refine .dD (.nm [(1, PP B3), (2, PP B4), (4, PP B5), (5, .bool story)] (usedH19 B3 f ftp ftc fbp fbc fap fac B5 B4) (.ph 8 [0,1,2,3,4,5,6] [7] (usedH27 B3 f ftp ftc fbp fbc fap fac B5) (.ld 1 0 (.pu (.pu (.split 112 (b := story) (by kernel_rfl) (fun h11' => ?_) (fun h11' => ?_)))))))
      ·replace H := H.1 h11'
       refine .pu (.ld 0 18 ?_)
       obtain ⟨r81, hq, H⟩ := H
       refine .cl hq (.pu (.dn (.store _ 2 0 (T := 38) (v := .agg (usedA4 f)) rfl (by kernel_rfl) (.dn (.nm [(2, PP B4), (116, .bool r81)] (usedH7 B3 f ftp ftc fbp fbc fap fac B5 B4) (.tl (.ru 2 (.retR Tryz.func65 (by kernel_rfl) (ResOk.ct (a := 2) (b := 3) (T := 38) (u := .agg (usedA4 f)) (v := .bool r81) 2 0 (by kernel_rfl) (by kernel_rfl)) H))))))))
      ·replace H := H.2 h11'
       refine .sk (.sk (.sk (.pu (.dn (.store _ 2 0 (T := 38) (v := .agg (usedA4 f)) rfl (by kernel_rfl) (.dn (.nm [(2, PP B4), (116, .bool false)] (usedH7 B3 f ftp ftc fbp fbc fap fac B5 B4) (.tl (.ru 2 (.retR Tryz.func65 (by kernel_rfl) (ResOk.ct (a := 2) (b := 3) (T := 38) (u := .agg (usedA4 f)) (v := .bool false) 2 0 (by kernel_rfl) (by kernel_rfl)) H))))))))))
     ·refine .ru 7 (.sP 117 H (fun H => ?_) fun H => ?_)
      ·refine .ru 5 (.ld 2 0 (.ru 1 (.st 1 0 (.ru 2 (.retR Tryz.func65 (by kernel_rfl) (ResOk.ct (a := 2) (b := 3) (T := 38) (u := .agg (usedA1 f)) (v := .bool story) 1 0 (by kernel_rfl) (by kernel_rfl)) H)))))
      ·refine .ru 5 (.sP 117 H (fun H => ?_) fun H => ?_)
       ·refine .ru 3 (.ld 2 0 (.ru 1 (.st 1 0 (.ru 2 (.retR Tryz.func65 (by kernel_rfl) (ResOk.ct (a := 2) (b := 3) (T := 38) (u := .agg (usedA1 f)) (v := .bool story) 1 0 (by kernel_rfl) (by kernel_rfl)) H)))))
       ·refine .ru 6 (.sP 122 H (fun H => ?_) fun H => ?_)
        ·refine .ru 2 (.nm (KC Tryz.f65 8224764) [(1, PP B3), (2, PP B4), (4, PP B5)] (usedH0 B3 f ftp ftc fbp fbc fap fac B4 B5) (.dD (.ph 10 [0,1,2,3,4] [5,6,7,8,9] (usedH2 B3 f ftp ftc fbp fbc fap fac B4) (.pu (.ld 0 19 (.pu (.ld 0 18 (.pu (.dn (.store _ 2 3 (T := 3) (v := IV 0) rfl (by kernel_rfl) (.pure _ rfl (by kernel_rfl) (fun W => by kernel_rfl) (.store _ 2 19 (T := 9) (v := .string f.name) rfl (by kernel_rfl) (.pure _ rfl (by kernel_rfl) (fun W => by kernel_rfl) (.store _ 2 18 (T := 9) (v := .string f.text) rfl (by kernel_rfl) (.dn (.nm [(1, PP B3), (2, PP B4), (4, PP B5)] (usedH16 B3 f ftp ftc fbp fbc fap fac B4 B5) (.tl (.ru 2 (.nm (KC Tryz.f65 16449530) [(1, PP B3), (2, PP B4), (4, PP B5)] (usedH16 B3 f ftp ftc fbp fbc fap fac B4 B5) (.cut [0,2,1] (k' := (KC Tryz.f65 16449530)) (e' := [(1, PP B3), (2, PP B4), (4, PP B5)]) (L' := (usedH17 B3 f ftp ftc fbp fbc fap fac B5 B4)) ?_ (by kernel_rfl)))))))))))))))))))))
         refine .dD (.nm [(1, PP B3), (2, PP B4), (4, PP B5)] (usedH17 B3 f ftp ftc fbp fbc fap fac B5 B4) (.ph 10 [0,1,2,3,4,5,6,7,8] [9] (usedH12 B3 f ftp ftc fbp fbc fap fac B5) (.ld 1 0 (.pu (.ld 0 19 ?_)))))
         obtain ⟨r91, hq, H⟩ := H
         refine .cl hq (.pu (.split 135 (b := r91) (by kernel_rfl) (fun h15' => ?_) (fun h15' => ?_)))
         ·replace H := H.1 h15'
          refine .pu (.ld 0 18 ?_)
          obtain ⟨r101, hq, H⟩ := H
          refine .cl hq (.pu (.dn (.store _ 2 0 (T := 38) (v := .agg (usedA6 f)) rfl (by kernel_rfl) (.dn (.nm [(2, PP B4), (139, .bool r101)] (usedH5 B3 f ftp ftc fbp fbc fap fac B5 B4) (.tl (.ru 2 (.retR Tryz.func65 (by kernel_rfl) (ResOk.ct (a := 2) (b := 3) (T := 38) (u := .agg (usedA6 f)) (v := .bool r101) 2 0 (by kernel_rfl) (by kernel_rfl)) H))))))))
         ·replace H := H.2 h15'
          refine .sk (.sk (.sk (.pu (.dn (.store _ 2 0 (T := 38) (v := .agg (usedA6 f)) rfl (by kernel_rfl) (.dn (.nm [(2, PP B4), (139, .bool false)] (usedH5 B3 f ftp ftc fbp fbc fap fac B5 B4) (.tl (.ru 2 (.retR Tryz.func65 (by kernel_rfl) (ResOk.ct (a := 2) (b := 3) (T := 38) (u := .agg (usedA6 f)) (v := .bool false) 2 0 (by kernel_rfl) (by kernel_rfl)) H))))))))))
        ·refine .ru 6 (.sP 140 H (fun H => ?_) fun H => ?_)
         ·refine .ru 2 (.nm (KC Tryz.f65 32899068) [(1, PP B3), (2, PP B4), (4, PP B5), (6, .bool partner)] (usedH0 B3 f ftp ftc fbp fbc fap fac B4 B5) (.dD (.ph 14 [0,1,2,3,4,5,6] [7,8,9,10,11,12,13] (usedH2 B3 f ftp ftc fbp fbc fap fac B4) (.pu (.ld 0 20 (.pu (.ld 0 21 (.pu (.ld 0 22 (.pu (.dn (.store _ 2 3 (T := 3) (v := IV 0) rfl (by kernel_rfl) (.pure _ rfl (by kernel_rfl) (fun W => by kernel_rfl) (.store _ 2 20 (T := 3) (v := IV f.partner) rfl (by kernel_rfl) (.pure _ rfl (by kernel_rfl) (fun W => by kernel_rfl) (.store _ 2 21 (T := 3) (v := IV f.cls) rfl (by kernel_rfl) (.pure _ rfl (by kernel_rfl) (fun W => by kernel_rfl) (.store _ 2 22 (T := 3) (v := IV f.unt) rfl (by kernel_rfl) (.dn (.nm [(1, PP B3), (2, PP B4), (4, PP B5), (6, .bool partner)] (usedH22 B3 f ftp ftc fbp fbc fap fac B4 B5) (.tl (.ru 2 (.nm (KC Tryz.f65 65798138) [(1, PP B3), (2, PP B4), (4, PP B5), (6, .bool partner)] (usedH22 B3 f ftp ftc fbp fbc fap fac B4 B5) (.cut [0,2,1] (k' := (KC Tryz.f65 65798138)) (e' := [(1, PP B3), (2, PP B4), (4, PP B5), (6, .bool partner)]) (L' := (usedH23 B3 f ftp ftc fbp fbc fap fac B5 B4)) ?_ (by kernel_rfl)))))))))))))))))))))))))
          refine .dD (.nm [(1, PP B3), (2, PP B4), (4, PP B5), (6, .bool partner)] (usedH23 B3 f ftp ftc fbp fbc fap fac B5 B4) (.ph 8 [0,1,2,3,4,5,6] [7] (usedH29 B3 f ftp ftc fbp fbc fap fac B5) (.ld 1 0 (.pu (.pu (.split 154 (b := partner) (by kernel_rfl) (fun h17' => ?_) (fun h17' => ?_)))))))
          ·replace H := H.1 h17'
           refine .pu (.ld 0 21 ?_)
           obtain ⟨r111, hq, H⟩ := H
           refine .cl hq (.pu (.dn (.store _ 2 0 (T := 38) (v := .agg (usedA9 f)) rfl (by kernel_rfl) (.dn (.nm [(2, PP B4), (158, .bool r111)] (usedH9 B3 f ftp ftc fbp fbc fap fac B5 B4) (.tl (.ru 2 (.retR Tryz.func65 (by kernel_rfl) (ResOk.ct (a := 2) (b := 3) (T := 38) (u := .agg (usedA9 f)) (v := .bool r111) 2 0 (by kernel_rfl) (by kernel_rfl)) H))))))))
          ·replace H := H.2 h17'
           refine .sk (.sk (.sk (.pu (.dn (.store _ 2 0 (T := 38) (v := .agg (usedA9 f)) rfl (by kernel_rfl) (.dn (.nm [(2, PP B4), (158, .bool false)] (usedH9 B3 f ftp ftc fbp fbc fap fac B5 B4) (.tl (.ru 2 (.retR Tryz.func65 (by kernel_rfl) (ResOk.ct (a := 2) (b := 3) (T := 38) (u := .agg (usedA9 f)) (v := .bool false) 2 0 (by kernel_rfl) (by kernel_rfl)) H))))))))))
         ·refine .ru 6 (.sP 159 H (fun H => ?_) fun H => ?_)
          ·refine .ru 2 (.nm (KC Tryz.f65 131596284) [(1, PP B3), (2, PP B4), (4, PP B5), (6, .bool partner)] (usedH0 B3 f ftp ftc fbp fbc fap fac B4 B5) (.dD (.ph 10 [0,1,2,3,4] [5,6,7,8,9] (usedH2 B3 f ftp ftc fbp fbc fap fac B4) (.pu (.ld 0 20 (.pu (.ld 0 22 (.pu (.dn (.store _ 2 3 (T := 3) (v := IV 0) rfl (by kernel_rfl) (.pure _ rfl (by kernel_rfl) (fun W => by kernel_rfl) (.store _ 2 20 (T := 3) (v := IV f.partner) rfl (by kernel_rfl) (.pure _ rfl (by kernel_rfl) (fun W => by kernel_rfl) (.store _ 2 22 (T := 3) (v := IV f.unt) rfl (by kernel_rfl) (.dn (.nm [(2, PP B4), (4, PP B5), (6, .bool partner)] [(B3, .cells (usedA0 f ftp ftc fbp fbc fap fac) 38), (B4, .cells usedA10 38), (B5, .cells (usedA7 f) 38)] (.tl (.ru 3 (.ld 2 0 (.ru 1 (.st 1 0 (.ru 2 (.retR Tryz.func65 (by kernel_rfl) (ResOk.ct (a := 2) (b := 3) (T := 38) (u := .agg (usedA7 f)) (v := .bool partner) 1 0 (by kernel_rfl) (by kernel_rfl)) H)))))))))))))))))))))))
          ·refine .ru 5 (.ld 2 0 (.st 1 0 (.ru 2 (.retR Tryz.func65 (by kernel_rfl) (ResOk.ct (a := 2) (b := 3) (T := 38) (u := .agg (usedA1 f)) (v := .bool false) 1 0 (by kernel_rfl) (by kernel_rfl)) H))))
theorem used_vc (f : Fct) (ftp : OA) (ftc : Nat) (fbp : OA) (fbc : Nat) (fap : OA) (fac : Nat) (hm : Mem [] [] w0 W)
 (H :
 ∀ B B1 B2 : Nat,
 CallH TP 64 ⟨[IV f.story, IV 1, IV 64]⟩ (usedH1 B f ftp ftc fbp fbc fap fac B1 B2) [] w0 (fun v L' => ∃ r1, v = .bool r1 ∧ L' = (usedH1 B f ftp ftc fbp fbc fap fac B1 B2) ∧
 CallH TP 64 ⟨[IV f.partner, IV 1, IV 8]⟩ (usedH1 B f ftp ftc fbp fbc fap fac B1 B2) [] w0 (fun v L' => ∃ r21, v = .bool r21 ∧ L' = (usedH1 B f ftp ftc fbp fbc fap fac B1 B2) ∧
 Bb (r21)
 (CallH TP 64 ⟨[IV f.unt, IV 0, IV 1000000000]⟩ (usedH1 B f ftp ftc fbp fbc fap fac B1 B2) [] w0 (fun v L' => ∃ r31, v = .bool r31 ∧ L' = (usedH1 B f ftp ftc fbp fbc fap fac B1 B2) ∧
 used_c0 f ftp ftc fbp fbc fap fac B B1 B2 r1 r31 w0 R))
 (used_c0 f ftp ftc fbp fbc fap fac B B1 B2 r1 false w0 R)))) :
 Calls TP 65 ⟨[.agg (usedA0 f ftp ftc fbp fbc fap fac)]⟩ W R:= by
 refine AtE.cs 171 Tryz.func65 hm (.ru 2 (.nH (.cells (usedA0 f ftp ftc fbp fbc fap fac) 38) H fun B H => (.nH (.cells usedA10 38) H fun B1 H => (.ru 5 (.ld 0 0 (.ru 1 (.ld 0 1 (.ru 1 (.ld 0 2 (.ru 1 (.ld 0 3 (.ru 1 (.nH (.cells usedA10 38) H fun B2 H => (.st 2 0 (.ru 4 (.ld 0 3 (.cl H ?_)))))))))))))))))
 rintro _ _ ⟨r1, rfl, rfl, H⟩
 refine .ru 5 (.ld 0 20 (.cl H ?_))
 rintro _ _ ⟨r21, rfl, rfl, H⟩
 refine .ru 1 (.sB 22 H (fun H => ?_) fun H => ?_)
 ·refine .ru 1 (.ld 0 22 (.cl H ?_))
  rintro _ _ ⟨r31, rfl, rfl, H⟩
  refine .ru 4 (.ct [0,1,2] H)
 ·refine .ru 7 (.ct [0,1,2] H)
theorem within_vc (n least greatest : Int) (hm : Mem [] [] w0 W)
 (H :
 Br (least ≤ n)
 (Fin R [] [] w0 (.bool (decide (n ≤ greatest))))
 (Fin R [] [] w0 (.bool false))) :
 Calls TP 64 ⟨[IV n, IV least, IV greatest]⟩ W R:= by
 refine AtE.cs 15 Tryz.func64 hm (.ru 10 (.sP 10 H (fun H => ?_) fun H => ?_))
 ·refine .ru 6 (.rt Tryz.func64 H)
 ·refine .ru 6 (.rt Tryz.func64 H)
set_option maxRecDepth 100000
abbrev fValidH0 (B : Nat) (f : Fct) (ftp : OA) (ftc : Nat) (fbp : OA) (fbc : Nat) (fap : OA) (fac : Nat) : SHeap := [(B, .cells ⟨f.cells ftp ftc fbp fbc fap fac⟩ 38)]
abbrev fValidH1 (B : Nat) (f : Fct) (ftp : OA) (ftc : Nat) (fbp : OA) (fbc : Nat) (fap : OA) (fac B1 : Nat) (u : Fct) (utp : OA) (utc : Nat) (ubp : OA) (ubc : Nat) (uap : OA) (uac : Nat) : SHeap := [(B, .cells ⟨f.cells ftp ftc fbp fbc fap fac⟩ 38), (B1, .cells ⟨u.cells utp utc ubp ubc uap uac⟩ 38)]
abbrev fValidA0 (f : Fct) (ftp : OA) (ftc : Nat) (fbp : OA) (fbc : Nat) (fap : OA) (fac : Nat) : Array Value := ⟨f.cells ftp ftc fbp fbc fap fac⟩
abbrev fValidA1 (u : Fct) (utp : OA) (utc : Nat) (ubp : OA) (ubc : Nat) (uap : OA) (uac : Nat) : Array Value := ⟨u.cells utp utc ubp ubc uap uac⟩
theorem fValid_vc (f : Fct) (ftp : OA) (ftc : Nat) (fbp : OA) (fbc : Nat) (fap : OA) (fac : Nat) (hm : Mem [] [] w0 W)
 (H :
 ∀ B : Nat,
 Br ((0 : Int) ≤ f.n)
 (Bn (f.n ≤ 500)
 (Fin R (fValidH0 B f ftp ftc fbp fbc fap fac) [] w0 (.bool false))
 (Br ((0 : Int) ≤ f.time)
 (Bn (f.time ≤ 1000000000)
 (Fin R (fValidH0 B f ftp ftc fbp fbc fap fac) [] w0 (.bool false))
 (CallH TP 65 ⟨[.agg (fValidA0 f ftp ftc fbp fbc fap fac)]⟩ (fValidH0 B f ftp ftc fbp fbc fap fac) [] w0 (fun v L' => ∃ (u : Fct) (utp : OA) (utc : Nat) (ubp : OA) (ubc : Nat) (uap : OA) (uac : Nat), ∃ r5, v = (.tuple #[.agg (fValidA1 u utp utc ubp ubc uap uac), .bool r5]) ∧ L' = (fValidH0 B f ftp ftc fbp fbc fap fac) ∧
 ∀ B1 : Nat,
 Bb (r5)
 (CallH TP 66 ⟨[.agg (fValidA0 f ftp ftc fbp fbc fap fac), .agg (fValidA1 u utp utc ubp ubc uap uac)]⟩ (fValidH1 B f ftp ftc fbp fbc fap fac B1 u utp utc ubp ubc uap uac) [] w0 (fun v L' => ∃ r61, v = .bool r61 ∧ L' = (fValidH1 B f ftp ftc fbp fbc fap fac B1 u utp utc ubp ubc uap uac) ∧
 Fin R (fValidH1 B f ftp ftc fbp fbc fap fac B1 u utp utc ubp ubc uap uac) [] w0 (.bool r61)))
 (Fin R (fValidH1 B f ftp ftc fbp fbc fap fac B1 u utp utc ubp ubc uap uac) [] w0 (.bool false)))))
 (Fin R (fValidH0 B f ftp ftc fbp fbc fap fac) [] w0 (.bool false))))
 (Fin R (fValidH0 B f ftp ftc fbp fbc fap fac) [] w0 (.bool false))) :
 Calls TP 24 ⟨[.agg (fValidA0 f ftp ftc fbp fbc fap fac)]⟩ W R:= by
 refine AtE.cs 26 Tryz.func24 hm (.ru 2 (.nH (.cells (fValidA0 f ftp ftc fbp fbc fap fac) 38) H fun B H => (.ru 6 (.ld 0 0 (.nm (KR Tryz.f24 12 [2,3,4,5,6,7,8,9]) [(1, PP B), (6, IV f.n)] (fValidH0 B f ftp ftc fbp fbc fap fac) (.il 64 [IV f.n, IV 0, IV 500] 15 Tryz.func64 (.ru 10 (.sP 10 H (fun H => ?_) fun H => ?_))))))))
 ·refine .ru 6 (.rk Tryz.func64 (.ru 2 (.sN 9 H (fun H => ?_) fun H => ?_)))
  ·refine .ru 11 (.rt Tryz.func24 H)
  ·refine .ru 1 (.ld 0 1 (.nm (KR Tryz.f24 12 [7,8,9]) [(1, PP B), (9, .bool false), (11, IV f.time)] (fValidH0 B f ftp ftc fbp fbc fap fac) (.il 64 [IV f.time, IV 0, IV 1000000000] 15 Tryz.func64 (.ru 10 (.sP 10 H (fun H => ?_) fun H => ?_)))))
   ·refine .ru 6 (.rk Tryz.func64 (.ru 3 (.sN 14 H (fun H => ?_) fun H => ?_)))
    ·refine .ru 5 (.rt Tryz.func24 H)
    ·refine .ru 4 (.ld 0 0 (.cl H ?_))
     rintro _ _ ⟨u, utp, utc, ubp, ubc, uap, uac, r5, rfl, rfl, H⟩
     refine .ru 3 (.nH (.cells #[IV 0, IV 0, IV 0, IV 0, .string (⟨#[]⟩), IV 0, IV 0, .string (⟨#[]⟩), .string (⟨#[]⟩), .slice none 0 0, .slice none 0 0, IV 0, .slice none 0 0, IV 0, IV 0, IV 0, IV 0, IV 0, .string (⟨#[]⟩), .string (⟨#[]⟩), IV 0, IV 0, IV 0] 38) H fun B1 H => (.st 1 0 (.ru 6 (.sB 21 H (fun H => ?_) fun H => ?_))))
     ·refine .ld 0 0 (.ld 1 0 (.cl H ?_))
      rintro _ _ ⟨r61, rfl, rfl, H⟩
      refine .ru 3 (.rt Tryz.func24 H)
     ·refine .ru 6 (.rt Tryz.func24 H)
   ·refine .ru 6 (.rk Tryz.func64 (.ru 8 (.rt Tryz.func24 H)))
 ·refine .ru 6 (.rk Tryz.func64 (.ru 13 (.rt Tryz.func24 H)))
set_option maxRecDepth 100000
abbrev eqFctsH0 (B : Nat) (m1 : Fct) (m1tp : OA) (m1tc : Nat) (m1bp : OA) (m1bc : Nat) (m1ap : OA) (m1ac B1 : Nat) (m21 : Fct) (m21tp : OA) (m21tc : Nat) (m21bp : OA) (m21bc : Nat) (m21ap : OA) (m21ac : Nat) : SHeap := [(B, .cells ⟨m1.cells m1tp m1tc m1bp m1bc m1ap m1ac⟩ 38), (B1, .cells ⟨m21.cells m21tp m21tc m21bp m21bc m21ap m21ac⟩ 38)]
abbrev eqFctsA0 (m21 : Fct) (m21tp : OA) (m21tc : Nat) (m21bp : OA) (m21bc : Nat) (m21ap : OA) (m21ac : Nat) : Array Value := ⟨m21.cells m21tp m21tc m21bp m21bc m21ap m21ac⟩
abbrev eqFctsA1 (m1 : Fct) (m1tp : OA) (m1tc : Nat) (m1bp : OA) (m1bc : Nat) (m1ap : OA) (m1ac : Nat) : Array Value := ⟨m1.cells m1tp m1tc m1bp m1bc m1ap m1ac⟩
abbrev eqFctsA2 : Array Value := #[IV 0, IV 0, IV 0, IV 0, .string (⟨#[]⟩), IV 0, IV 0, .string (⟨#[]⟩), .string (⟨#[]⟩), .slice none 0 0, .slice none 0 0, IV 0, .slice none 0 0, IV 0, IV 0, IV 0, IV 0, IV 0, .string (⟨#[]⟩), .string (⟨#[]⟩), IV 0, IV 0, IV 0]
def eqFcts_c0 (s1_p : OA) (s1_l s1_c : Nat) (s2_p : OA) (s2_l s2_c : Nat) (t17 : Int) (w0 : World) (R : Ending → World → Prop) : Prop :=
 AtE TP 72 32 (KC Tryz.f72 116) [(1, .slice s2_p s2_l s2_c), (2, .func (.func 66) #[] #[]), (15, .slice s1_p s1_l s1_c), (16, IV (s1_l : Int)), (17, IV t17)] [] [] w0 (nrm R)
theorem eqFcts_c0_vc (s1_p : OA) (s1_l s1_c : Nat) (s2_p : OA) (s2_l s2_c : Nat) (t17 : Int)
 (H :
 Br (t17 < (s1_l : Int))
 (∃ s1_pb s1_po : Nat, s1_p = some ⟨s1_pb, s1_po, none⟩ ∧ (0 ≤ t17 ∧ t17 < s1_l) ∧
 ∃ (cw : List Value) (m1 : Fct) (m1tp : OA) (m1tc : Nat) (m1bp : OA) (m1bc : Nat) (m1ap : OA) (m1ac : Nat), blkW w0 s1_pb = some cw ∧ ((cw.drop (s1_po + ((Int.toNat t17) * 23))).take 23 = (m1.cells m1tp m1tc m1bp m1bc m1ap m1ac) ∧ (s1_po + ((Int.toNat t17) * 23)) + 23 ≤ cw.length) ∧
 ∀ B : Nat,
 ∃ s2_pb s2_po : Nat, s2_p = some ⟨s2_pb, s2_po, none⟩ ∧ (0 ≤ t17 ∧ t17 < s2_l) ∧
 ∃ (cw1 : List Value) (m21 : Fct) (m21tp : OA) (m21tc : Nat) (m21bp : OA) (m21bc : Nat) (m21ap : OA) (m21ac : Nat), blkW w0 s2_pb = some cw1 ∧ ((cw1.drop (s2_po + ((Int.toNat t17) * 23))).take 23 = (m21.cells m21tp m21tc m21bp m21bc m21ap m21ac) ∧ (s2_po + ((Int.toNat t17) * 23)) + 23 ≤ cw1.length) ∧
 ∀ B1 : Nat,
 CallH TP 66 ⟨[.agg (eqFctsA1 m1 m1tp m1tc m1bp m1bc m1ap m1ac), .agg (eqFctsA0 m21 m21tp m21tc m21bp m21bc m21ap m21ac)]⟩ (eqFctsH0 B m1 m1tp m1tc m1bp m1bc m1ap m1ac B1 m21 m21tp m21tc m21bp m21bc m21ap m21ac) [] w0 (fun v L' => ∃ r1, v = .bool r1 ∧ L' = (eqFctsH0 B m1 m1tp m1tc m1bp m1bc m1ap m1ac B1 m21 m21tp m21tc m21bp m21bc m21ap m21ac) ∧
 Bb (r1)
 (eqFcts_c0 s1_p s1_l s1_c s2_p s2_l s2_c (IntKind.i64.wrap (t17 + (1 : Int))) w0 R)
 (Fin R (eqFctsH0 B m1 m1tp m1tc m1bp m1bc m1ap m1ac B1 m21 m21tp m21tc m21bp m21bc m21ap m21ac) [] w0 (.bool false))))
 (Fin R [] [] w0 (.bool true))) :
 eqFcts_c0 s1_p s1_l s1_c s2_p s2_l s2_c t17 w0 R:= by
 unfold eqFcts_c0
 refine .ru 5 (.sP 18 H (fun H => ?_) fun H => ?_)
 ·refine .ru 7 ?_
  obtain ⟨s1_pb, s1_po, hp, H⟩ := H
  refine .indexAddrP (E := 38) (p := s1_p) (b := s1_pb) (o := s1_po) (len := s1_l) (cap := s1_c) (sz := 23) (o' := (s1_po + ((Int.toNat t17) * 23))) (kd := .i64) (i := t17) hp (by kernel_rfl) H.1 (by omega) ?_
  replace H := H.2
  obtain ⟨cw, m1, m1tp, m1tc, m1bp, m1bc, m1ap, m1ac, hw, hx, H⟩ := H
  refine .loadW (b := s1_pb) (off := (s1_po + ((Int.toNat t17) * 23))) (T := 38) (v := .agg (eqFctsA1 m1 m1tp m1tc m1bp m1bc m1ap m1ac)) (by kernel_rfl) List.not_mem_nil hw (valAt_agg hx.1 hx.2 (by kernel_rfl) (by kernel_rfl)) (.nH (.cells eqFctsA2 38) H fun B H => (.ru 1 (.st 0 0 (.ru 5 ?_))))
  obtain ⟨s2_pb, s2_po, hp, H⟩ := H
  refine .indexAddrP (E := 38) (p := s2_p) (b := s2_pb) (o := s2_po) (len := s2_l) (cap := s2_c) (sz := 23) (o' := (s2_po + ((Int.toNat t17) * 23))) (kd := .i64) (i := t17) hp (by kernel_rfl) H.1 (by omega) ?_
  replace H := H.2
  obtain ⟨cw1, m21, m21tp, m21tc, m21bp, m21bc, m21ap, m21ac, hw, hx, H⟩ := H
  refine .loadW (b := s2_pb) (off := (s2_po + ((Int.toNat t17) * 23))) (T := 38) (v := .agg (eqFctsA0 m21 m21tp m21tc m21bp m21bc m21ap m21ac)) (by kernel_rfl) List.not_mem_nil hw (valAt_agg hx.1 hx.2 (by kernel_rfl) (by kernel_rfl)) (.nH (.cells eqFctsA2 38) H fun B1 H => (.st 1 0 (.ru 4 (.ld 0 0 (.ld 1 0 (.cl H ?_))))))
  rintro _ _ ⟨r1, rfl, rfl, H⟩
  refine .sB 29 H (fun H => ?_) fun H => ?_
  ·refine .ru 10 (.ct [] H)
  ·refine .ru 7 (.rt Tryz.func72 H)
 ·refine .ru 6 (.rt Tryz.func72 H)
theorem eqFcts_vc (s1_p : OA) (s1_l s1_c : Nat) (s2_p : OA) (s2_l s2_c : Nat) (hm : Mem [] [] w0 W)
 (H :
 Bn ((s1_l : Int) = (s2_l : Int))
 (Fin R [] [] w0 (.bool false))
 (eqFcts_c0 s1_p s1_l s1_c s2_p s2_l s2_c (0 : Int) w0 R)) :
 Calls TP 72 ⟨[.slice s1_p s1_l s1_c, .slice s2_p s2_l s2_c, .func (.func 66) #[] #[]]⟩ W R:= by
 refine AtE.cs 32 Tryz.func72 hm (.ru 13 (.sN 14 H (fun H => ?_) fun H => ?_))
 ·refine .ru 5 (.rt Tryz.func72 H)
 ·refine .ru 11 (.ct [] H)
theorem fSameL_vc (a_p : OA) (a_l a_c : Nat) (b_p : OA) (b_l b_c : Nat) (hm : Mem [] [] w0 W)
 (H :
 CallH TP 72 ⟨[.slice a_p a_l a_c, .slice b_p b_l b_c, .func (.func 66) #[] #[]]⟩ [] [] w0 (fun v L' => ∃ r1, v = .bool r1 ∧ L' = [] ∧
 Fin R [] [] w0 (.bool r1))) :
 Calls TP 30 ⟨[.slice a_p a_l a_c, .slice b_p b_l b_c]⟩ W R:= by
 refine AtE.cs 8 Tryz.func30 hm (.ru 8 (.cl H ?_))
 rintro _ _ ⟨r1, rfl, rfl, H⟩
 refine .ru 2 (.rt Tryz.func30 H)
theorem CallH.ex {L : SHeap} {Q : Value → Prop} (h : ∀ W, Mem L S w0 W → Calls P g args W fun e W' => ∃ v, e = .returned v ∧ Below W.heap.size W W' ∧ Q v) (hK : ∀ v, Q v → K v L) : CallH P g args L S w0 K :=
 fun W hm => (h W hm).mono fun e W' ⟨v, he, hb, hq⟩ => ⟨v, L, he, hm.after hb, hK v hq⟩
theorem finEx {Q : Value → Prop} {v : Value} {L : SHeap} (h : Q v) : Fin (fun e W' => ∃ v, e = .returned v ∧ Below W.heap.size W W' ∧ Q v) L [] W v := fun _ hm => ⟨v, rfl, hm.kept.below, h⟩
theorem within_c (n a b : Int) : PureC TP 64 ⟨[.int .i64 n, .int .i64 a, .int .i64 b]⟩ (.bool (decide (a ≤ n ∧ n ≤ b))) := fun W => by
 refine within_vc n a b (Mem.start [] W) ⟨fun h => finPure ?_, fun h => finPure ?_⟩
 ·congr 1; rw [decide_eq_decide]; exact ⟨fun h2 => ⟨h, h2⟩, fun h2 => h2.2⟩
 ·rw [decide_eq_false]; exact fun h2 => h h2.1
theorem isRev_c {f : Fct} (h : FAt (lkW W) f tp tc bp bc ap ac) : PW TP 100 ⟨[.agg ⟨f.cells tp tc bp bc ap ac⟩]⟩ W (.bool f.rvOk) := by
 obtain ⟨⟨s1, s2, s3, s4, s5⟩, ⟨t1, t2⟩, b1, a1⟩ := h.fits
 refine isRev_vc f tp tc bp bc ap ac (Mem.start [] W) fun B => ?_
 refine CallH.pure (fName_c _ s1) ⟨_, rfl, rfl, fun h1 => ?_, fun h1 => finPW (by rw [Fct.rvOk, h1]; rfl)⟩
 have no1 : ¬ (1 ≤ f.rev ∧ f.rev ≤ 100) → f.rvOk = false := fun hn => by rw [Fct.rvOk, decide_eq_false hn, Bool.false_and, Bool.and_false]
 refine ⟨fun h2 => ⟨fun h3 => ?_, fun h3 => finPW (by rw [no1 (by omega)])⟩, fun h2 => finPW (by rw [no1 (by omega)])⟩
 have no2 : ¬ (0 ≤ f.base ∧ f.base ≤ f.rev - 1) → f.rvOk = false := fun hn => by rw [Fct.rvOk, decide_eq_false hn, Bool.false_and, Bool.and_false, Bool.and_false]
 rw [wi64 (by omega)]
 refine ⟨fun h4 => ⟨fun h5 => ?_, fun h5 => finPW (by rw [no2 (by omega)])⟩, fun h4 => finPW (by rw [no2 (by omega)])⟩
 have e : f.rvOk = (fillOk f.title && (nameOk f.author && (topicsOk f.topics && (listOk f.blocks && f.lab.ok)))) := by
  rw [Fct.rvOk, h1, decide_eq_true (p := 1 ≤ f.rev ∧ f.rev ≤ 100) ⟨h2, h3⟩, decide_eq_true (p := 0 ≤ f.base ∧ f.base ≤ f.rev - 1) ⟨h4, h5⟩]; rfl
 rw [e]
 refine CallH.pure (fText_c _ s2) ⟨_, rfl, rfl, fun h6 => ?_, fun h6 => finPW (by rw [h6]; rfl)⟩
 refine CallH.pure (fName_c _ s3) ⟨_, rfl, rfl, fun h7 => ?_, fun h7 => finPW (by rw [h6, h7]; rfl)⟩
 refine CallH.pw (fun W' hm' => areTopics_c (h.tops.mono (lkW_kept hm')) t2 t1) ⟨_, rfl, rfl, fun h8 => ?_, fun h8 => finPW (by rw [h6, h7, h8]; rfl)⟩
 refine CallH.pw (fun W' hm' => validL_c (h.blks.mono (lkW_kept hm')) h.cb) ⟨_, rfl, rfl, fun h9 => ?_, fun h9 => finPW (by rw [h6, h7, h8, h9]; rfl)⟩
 exact CallH.pw (fun W' hm' => labValid_c (h.ints.mono (lkW_kept hm')) a1) ⟨_, rfl, rfl, finPW (by rw [h6, h7, h8, h9]; rfl)⟩
theorem isCor_c {f : Fct} (h : FAt (lkW W) f tp tc bp bc ap ac) : PW TP 102 ⟨[.agg ⟨f.cells tp tc bp bc ap ac⟩]⟩ W (.bool f.coOk) := by
 obtain ⟨⟨s1, s2, s3, s4, s5⟩, ⟨t1, t2⟩, b1, a1⟩ := h.fits
 refine isCor_vc f tp tc bp bc ap ac (Mem.start [] W) fun B => ?_
 refine CallH.pure (fName_c _ s1) ⟨_, rfl, rfl, fun h1 => ?_, fun h1 => finPW (by rw [Fct.coOk, h1]; rfl)⟩
 have no1 : ¬ (1 ≤ f.block ∧ f.block ≤ 1000) → f.coOk = false := fun hn => by rw [Fct.coOk, decide_eq_false hn, Bool.false_and, Bool.and_false]
 have no2 : ¬ (0 ≤ f.sentence ∧ f.sentence ≤ 299) → f.coOk = false := fun hn => by rw [Fct.coOk, decide_eq_false hn, Bool.false_and, Bool.and_false, Bool.and_false]
 refine ⟨fun h2 => ⟨fun h3 => ⟨fun h4 => ⟨fun h5 => ?_, fun h5 => finPW (by rw [no2 (by omega)])⟩, fun h4 => finPW (by rw [no2 (by omega)])⟩, fun h3 => finPW (by rw [no1 (by omega)])⟩, fun h2 => finPW (by rw [no1 (by omega)])⟩
 refine CallH.pure (fText_c _ s4) ⟨_, rfl, rfl, finPW ?_⟩
 rw [Fct.coOk, h1, decide_eq_true (p := 1 ≤ f.block ∧ f.block ≤ 1000) ⟨h2, h3⟩, decide_eq_true (p := 0 ≤ f.sentence ∧ f.sentence ≤ 299) ⟨h4, h5⟩]; rfl
def UsedQ (lk : Lk) (f : Fct) (v : Value) : Prop :=
 ∃ (u : Fct) (tp : OA) (tc : Nat) (bp : OA) (bc : Nat) (ap : OA) (ac : Nat), v = .tuple #[.agg ⟨u.cells tp tc bp bc ap ac⟩, .bool f.vals] ∧ (f.vals = true → u = f.used) ∧ FAt lk u tp tc bp bc ap ac
theorem used_eq {f : Fct} {l : List Fld} (h : kfields f.kind = l) : f.used = l.foldl (fun g x => g.set x (f.get x)) (Fct.bare f.n f.time f.kind) := by rw [Fct.used, h]
theorem strs_nil {p : OA} : StrsL lk p [] := fun h => absurd h (by simp)
theorem blks_nil {p : OA} : BlksL lk p [] := fun h => absurd h (by simp)
theorem ints_nil {p : OA} : IntsL lk p [] := fun h => absurd h (by simp)
theorem e0_sz : e0.size ≤ 9223372036854775807 := by show 0 ≤ _; omega
theorem kd {f : Fct} {n : Int} {l : List Fld} (h : f.kind = n) (e : kfields n = l) : kfields f.kind = l := by rw [h]; exact e
theorem used1 {f : Fct} (k : f.kind = 1) : ({ Fct.bare f.n f.time f.kind with story := f.story, lang := f.lang, rev := f.rev, base := f.base, title := f.title, author := f.author, topics := f.topics, blocks := f.blocks, lab := f.lab } : Fct) = f.used := by
 rw [used_eq (kd (l := [.story, .lang, .rev, .base, .title, .author, .topics, .blocks, .label]) k rfl)]
 simp only [List.foldl_cons, List.foldl_nil, Fct.set, Fct.get]
theorem vals1 {f : Fct} (k : f.kind = 1) : f.vals = (f.stOk && f.rvOk) := by
 unfold Fct.vals; simp only [k, reduceIte, Int.reduceEq]
theorem used2 {f : Fct} (k : f.kind = 2) : ({ Fct.bare f.n f.time f.kind with story := f.story, editor := f.editor } : Fct) = f.used := by
 rw [used_eq (kd (l := [.story, .editor]) k rfl)]
 simp only [List.foldl_cons, List.foldl_nil, Fct.set, Fct.get]
theorem vals2 {f : Fct} (k : f.kind = 2) : f.vals = (f.stOk && decide (1 ≤ f.editor ∧ f.editor ≤ 5)) := by
 unfold Fct.vals; simp only [k, reduceIte, Int.reduceEq]
theorem used3 {f : Fct} (k : f.kind = 3) : ({ Fct.bare f.n f.time f.kind with story := f.story, lab := f.lab } : Fct) = f.used := by
 rw [used_eq (kd (l := [.story, .label]) k rfl)]
 simp only [List.foldl_cons, List.foldl_nil, Fct.set, Fct.get]
theorem vals3 {f : Fct} (k : f.kind = 3) : f.vals = (f.stOk && f.lab.ok) := by
 unfold Fct.vals; simp only [k, reduceIte, Int.reduceEq]
theorem used4 {f : Fct} (k : f.kind = 4) : ({ Fct.bare f.n f.time f.kind with story := f.story, lang := f.lang, block := f.block, sentence := f.sentence, text := f.text } : Fct) = f.used := by
 rw [used_eq (kd (l := [.story, .lang, .block, .sentence, .text]) k rfl)]
 simp only [List.foldl_cons, List.foldl_nil, Fct.set, Fct.get]
theorem vals4 {f : Fct} (k : f.kind = 4) : f.vals = (f.stOk && f.coOk) := by
 unfold Fct.vals; simp only [k, reduceIte, Int.reduceEq]
theorem used5 {f : Fct} (k : f.kind = 5) : ({ Fct.bare f.n f.time f.kind with story := f.story, text := f.text } : Fct) = f.used := by
 rw [used_eq (kd (l := [.story, .text]) k rfl)]
 simp only [List.foldl_cons, List.foldl_nil, Fct.set, Fct.get]
theorem vals5 {f : Fct} (k : f.kind = 5) : f.vals = (f.stOk && fillOk f.text) := by
 unfold Fct.vals; simp only [k, reduceIte, Int.reduceEq]
theorem used6 {f : Fct} (k : f.kind = 6) : ({ Fct.bare f.n f.time f.kind with story := f.story } : Fct) = f.used := by
 rw [used_eq (kd (l := [.story]) k rfl)]
 simp only [List.foldl_cons, List.foldl_nil, Fct.set, Fct.get]
theorem vals6 {f : Fct} (k : f.kind = 6) : f.vals = (f.stOk) := by
 unfold Fct.vals; simp only [k, reduceIte, Int.reduceEq]
theorem used7 {f : Fct} (k : f.kind = 7) : ({ Fct.bare f.n f.time f.kind with name := f.name, text := f.text } : Fct) = f.used := by
 rw [used_eq (kd (l := [.name, .text]) k rfl)]
 simp only [List.foldl_cons, List.foldl_nil, Fct.set, Fct.get]
theorem vals7 {f : Fct} (k : f.kind = 7) : f.vals = (nameOk f.name && srcOk f.text) := by
 unfold Fct.vals; simp only [k, reduceIte, Int.reduceEq]
theorem used8 {f : Fct} (k : f.kind = 8) : ({ Fct.bare f.n f.time f.kind with partner := f.partner, cls := f.cls, unt := f.unt } : Fct) = f.used := by
 rw [used_eq (kd (l := [.partner, .cls, .unt]) k rfl)]
 simp only [List.foldl_cons, List.foldl_nil, Fct.set, Fct.get]
theorem vals8 {f : Fct} (k : f.kind = 8) : f.vals = (f.paOk && decide (0 ≤ f.cls ∧ f.cls ≤ 3)) := by
 unfold Fct.vals; simp only [k, reduceIte, Int.reduceEq]
theorem used9 {f : Fct} (k : f.kind = 9) : ({ Fct.bare f.n f.time f.kind with partner := f.partner, unt := f.unt } : Fct) = f.used := by
 rw [used_eq (kd (l := [.partner, .unt]) k rfl)]
 simp only [List.foldl_cons, List.foldl_nil, Fct.set, Fct.get]
theorem vals9 {f : Fct} (k : f.kind = 9) : f.vals = (f.paOk) := by
 unfold Fct.vals; simp only [k, reduceIte, Int.reduceEq]
theorem used10 {f : Fct} (k : f.kind = 10) : ({ Fct.bare f.n f.time f.kind with story := f.story } : Fct) = f.used := by
 rw [used_eq (kd (l := [.story]) k rfl)]
 simp only [List.foldl_cons, List.foldl_nil, Fct.set, Fct.get]
theorem vals10 {f : Fct} (k : f.kind = 10) : f.vals = (f.stOk) := by
 unfold Fct.vals; simp only [k, reduceIte, Int.reduceEq]
theorem usedQ {f u : Fct} {b : Bool} (hb : f.vals = b) (hu : u = f.used) (h : FAt lk u tp tc bp bc ap ac) : UsedQ lk f (.tuple #[.agg ⟨u.cells tp tc bp bc ap ac⟩, .bool b]) :=
 ⟨u, _, _, _, _, _, _, by rw [hb], fun _ => hu, h⟩
abbrev UR (W : World) (lk : Lk) (f : Fct) : Ending → World → Prop := fun e W' => ∃ v, e = .returned v ∧ Below W.heap.size W W' ∧ UsedQ lk f v
theorem noLists {u : Fct} (h1 : u.topics = []) (h2 : u.blocks = []) (h3 : u.lab.after = []) (h4 : u.lang.size ≤ 9223372036854775807 ∧ u.title.size ≤ 9223372036854775807 ∧ u.author.size ≤ 9223372036854775807 ∧ u.text.size ≤ 9223372036854775807 ∧ u.name.size ≤ 9223372036854775807) : FAt lk u none 0 none 0 none 0 :=
 ⟨by rw [h1]; exact strs_nil, by rw [h2]; exact blks_nil, by rw [h3]; exact ints_nil, by rw [h1]; exact Nat.le_refl _, by rw [h2]; exact Nat.le_refl _, by rw [h3]; exact Nat.le_refl _, h4, by rw [h1]; exact ⟨by simp, by simp⟩, by rw [h2]; simp, by rw [h3]; simp⟩
theorem used_loop {f : Fct} (h : FAt (lkW W) f tp tc bp bc ap ac) (g : FAt lk f tp tc bp bc ap ac) {B3 B4 B5 : Nat} {story partner : Bool} (hst : story = f.stOk) (hpa : partner = f.paOk) :
  used_c0 f tp tc bp bc ap ac B3 B4 B5 story partner W (UR W lk f) := by
 obtain ⟨⟨s1, s2, s3, s4, s5⟩, ⟨t1, t2⟩, b1, a1⟩ := h.fits
 have z := e0_sz
 have n0 : (0 : Nat) ≤ 9223372036854775807 := by omega
 subst hst hpa
 apply used_c0_vc
 refine ⟨fun k => ?_, fun k1 => ⟨fun k => ?_, fun k2 => ⟨fun k => ?_, fun k3 => ⟨fun k => ?_, fun k4 => ⟨fun k => ?_, fun k5 => ⟨fun k => ?_, fun k6 => ⟨fun k => ?_, fun k10 => ⟨fun k => ?_, fun k7 => ⟨fun k => ?_, fun k8 => ⟨fun k => ?_, fun k9 => ?_⟩⟩⟩⟩⟩⟩⟩⟩⟩⟩
 ·have ev := vals1 k
  have q := fun (b : Bool) (hb : f.vals = b) => usedQ (lk := lk) hb (used1 k) ⟨g.tops, g.blks, g.ints, g.ct, g.cb, g.ca, ⟨s1, s2, s3, z, z⟩, ⟨t1, t2⟩, b1, a1⟩
  exact ⟨fun hs => ⟨_, QCallB.pw fun W' hm' => isRev_c (h.mono (lkW_kept hm')), finEx (q _ (by rw [ev, hs]; rfl))⟩, fun hs => finEx (q _ (by rw [ev, hs]; rfl))⟩
 ·have ev := vals2 k
  have q := fun (b : Bool) (hb : f.vals = b) => usedQ (lk := lk) hb (used2 k) (noLists rfl rfl rfl ⟨z, z, z, z, z⟩)
  exact ⟨fun hs => ⟨_, QCallB.of (within_c _ _ _), finEx (q _ (by rw [ev, hs]; rfl))⟩, fun hs => finEx (q _ (by rw [ev, hs]; rfl))⟩
 ·have ev := vals3 k
  have q := fun (b : Bool) (hb : f.vals = b) => usedQ (lk := lk) (tp := none) (tc := 0) (bp := none) (bc := 0) (ap := ap) (ac := ac) hb (used3 k) ⟨strs_nil, blks_nil, g.ints, Nat.le_refl _, Nat.le_refl _, g.ca, ⟨z, z, z, z, z⟩, ⟨n0, by simp [Fct.bare, Fct.zero]⟩, n0, a1⟩
  exact ⟨fun hs => ⟨_, QCallB.pw fun W' hm' => labValid_c (h.ints.mono (lkW_kept hm')) a1, finEx (q _ (by rw [ev, hs]; rfl))⟩, fun hs => finEx (q _ (by rw [ev, hs]; rfl))⟩
 ·have ev := vals4 k
  have q := fun (b : Bool) (hb : f.vals = b) => usedQ (lk := lk) hb (used4 k) (noLists rfl rfl rfl ⟨s1, z, z, s4, z⟩)
  exact ⟨fun hs => ⟨_, QCallB.pw fun W' hm' => isCor_c (h.mono (lkW_kept hm')), finEx (q _ (by rw [ev, hs]; rfl))⟩, fun hs => finEx (q _ (by rw [ev, hs]; rfl))⟩
 ·have ev := vals5 k
  have q := fun (b : Bool) (hb : f.vals = b) => usedQ (lk := lk) hb (used5 k) (noLists rfl rfl rfl ⟨z, z, z, s4, z⟩)
  exact ⟨fun hs => ⟨_, QCallB.of (fText_c _ s4), finEx (q _ (by rw [ev, hs]; rfl))⟩, fun hs => finEx (q _ (by rw [ev, hs]; rfl))⟩
 ·have ev := vals6 k
  have q := fun (b : Bool) (hb : f.vals = b) => usedQ (lk := lk) hb (used6 k) (noLists rfl rfl rfl ⟨z, z, z, z, z⟩)
  exact finEx (q _ ev)
 ·have ev := vals10 k
  have q := fun (b : Bool) (hb : f.vals = b) => usedQ (lk := lk) hb (used10 k) (noLists rfl rfl rfl ⟨z, z, z, z, z⟩)
  exact finEx (q _ ev)
 ·have ev := vals7 k
  have q := fun (b : Bool) (hb : f.vals = b) => usedQ (lk := lk) hb (used7 k) (noLists rfl rfl rfl ⟨z, z, z, s4, s5⟩)
  exact ⟨_, QCallB.of (fName_c _ s5), fun hs => ⟨_, QCallB.of (fSource_c _ s4), finEx (q _ (by rw [ev, hs]; rfl))⟩, fun hs => finEx (q _ (by rw [ev, hs]; rfl))⟩
 ·have ev := vals8 k
  have q := fun (b : Bool) (hb : f.vals = b) => usedQ (lk := lk) hb (used8 k) (noLists rfl rfl rfl ⟨z, z, z, z, z⟩)
  exact ⟨fun hs => ⟨_, QCallB.of (within_c _ _ _), finEx (q _ (by rw [ev, hs]; rfl))⟩, fun hs => finEx (q _ (by rw [ev, hs]; rfl))⟩
 ·have ev := vals9 k
  have q := fun (b : Bool) (hb : f.vals = b) => usedQ (lk := lk) hb (used9 k) (noLists rfl rfl rfl ⟨z, z, z, z, z⟩)
  exact finEx (q _ ev)
 ·have ev : f.vals = false := by unfold Fct.vals; simp only [k1, k2, k3, k4, k5, k6, k7, k8, k9, k10, if_false]
  exact finEx ⟨({ Fct.bare f.n f.time f.kind with story := f.story } : Fct), none, 0, none, 0, none, 0, by rw [ev]; rfl, fun h => absurd h (by rw [ev]; decide), noLists rfl rfl rfl ⟨z, z, z, z, z⟩⟩
theorem used_c {f : Fct} (h : FAt (lkW W) f tp tc bp bc ap ac) (g : FAt lk f tp tc bp bc ap ac) :
  Calls TP 65 ⟨[.agg ⟨f.cells tp tc bp bc ap ac⟩]⟩ W (UR W lk f) := by
 refine used_vc f tp tc bp bc ap ac (Mem.start [] W) fun B B1 B2 => ?_
 refine CallH.pure (within_c _ _ _) ⟨_, rfl, rfl, ?_⟩
 refine CallH.pure (within_c _ _ _) ⟨_, rfl, rfl, fun h1 => ?_, fun h1 => ?_⟩
 ·refine CallH.pure (within_c _ _ _) ⟨_, rfl, rfl, used_loop h g rfl ?_⟩
  have h1 := of_decide_eq_true h1
  rw [Fct.paOk, decide_eq_decide]
  constructor
  ·intro h; omega
  ·intro h; omega
 ·refine used_loop h g rfl ?_
  have h1 := of_decide_eq_false h1
  rw [Fct.paOk, decide_eq_false]
  omega
theorem fValid_c {f : Fct} (h : FAt (lkW W) f tp tc bp bc ap ac) : PW TP 24 ⟨[.agg ⟨f.cells tp tc bp bc ap ac⟩]⟩ W (.bool f.ok) := by
 have nope : ¬ (0 ≤ f.n ∧ f.n ≤ 500 ∧ 0 ≤ f.time ∧ f.time ≤ 1000000000) → (Value.bool false) = .bool f.ok := fun hn => by rw [Fct.ok, decide_eq_false hn, Bool.false_and]
 refine fValid_vc f tp tc bp bc ap ac (Mem.start [] W) fun B => ⟨fun h1 => ⟨fun h2 => finPW (nope (by omega)), fun h2 => ⟨fun h3 => ⟨fun h4 => finPW (nope (by omega)), fun h4 => ?_⟩, fun h3 => finPW (nope (by omega))⟩⟩, fun h1 => finPW (nope (by omega))⟩
 have e : f.ok = (f.vals && decide (f = f.used)) := by rw [Fct.ok, decide_eq_true (p := 0 ≤ f.n ∧ f.n ≤ 500 ∧ 0 ≤ f.time ∧ f.time ≤ 1000000000) ⟨h1, h2, h3, h4⟩, Bool.true_and]
 rw [e]
 refine CallH.ex (Q := UsedQ (lkW W) f) (fun W' hm' => used_c (h.mono (lkW_kept hm')) h) ?_
 rintro v ⟨u, tp', tc', bp', bc', ap', ac', rfl, h5, h6⟩
 refine ⟨u, tp', tc', bp', bc', ap', ac', _, rfl, rfl, fun B1 => ⟨fun hv => ?_, fun hv => finPW (by rw [hv]; rfl)⟩⟩
 refine CallH.pw (fun W' hm' => fSame_c (h.mono (lkW_kept hm')) (h6.mono (lkW_kept hm'))) ⟨_, rfl, rfl, finPW ?_⟩
 rw [hv, h5 hv, Bool.true_and]
def FctsL (lk : Lk) (p : OA) (l : List Fct) : Prop :=
 0 < l.length → ∃ (b o : Nat) (c : List Value), p = some ⟨b, o, none⟩ ∧ lk b c ∧ ∀ i (h : i < l.length), o + i * 23 + 23 ≤ c.length ∧ FctL lk ((c.drop (o + i * 23)).take 23) l[i]
theorem FctL.mono {lk lk' : Lk} {cs : List Value} {f : Fct} (h : FctL lk cs f) (hl : ∀ b c, lk b c → lk' b c) : FctL lk' cs f := by
 obtain ⟨tp, tc, bp, bc, ap, ac, h1, h2⟩ := h
 exact ⟨tp, tc, bp, bc, ap, ac, h1, h2.mono hl⟩
theorem FctsL.mono {lk lk' : Lk} {p : OA} {l : List Fct} (h : FctsL lk p l) (hl : ∀ b c, lk b c → lk' b c) : FctsL lk' p l := by
 intro hp
 obtain ⟨b, o, c, h1, h2, h3⟩ := h hp
 exact ⟨b, o, c, h1, hl b c h2, fun i hi => ⟨(h3 i hi).1, (h3 i hi).2.mono hl⟩⟩
theorem FctsL.get {p : OA} {l : List Fct} (h : FctsL lk p l) {i : Nat} (hi : i < l.length) :
  ∃ (b o : Nat) (c : List Value), p = some ⟨b, o, none⟩ ∧ lk b c ∧ o + i * 23 + 23 ≤ c.length ∧ FctL lk ((c.drop (o + i * 23)).take 23) l[i] := by
 obtain ⟨b, o, c, h1, h2, h3⟩ := h (by omega)
 exact ⟨b, o, c, h1, h2, (h3 i hi).1, (h3 i hi).2⟩
theorem eqFcts_loop {p q : OA} {cp cq : Nat} {a b : List Fct} (ha : FctsL (lkW w0) p a) (hb : FctsL (lkW w0) q b) (hl : a.length = b.length) (hm : a.length ≤ 9223372036854775807) (HR : ∀ L v, Fin R [] [] w0 v → Fin R L [] w0 v) :
  ∀ (g i : Nat), g + i = a.length → Fin R [] [] w0 (.bool (decide (a.drop i = b.drop i))) → eqFcts_c0 p a.length cp q b.length cq (i : Int) w0 R
 | 0, i, hg, H => by
  apply eqFcts_c0_vc
  refine no (by omega) (finEq H ?_)
  rw [List.drop_of_length_le (by omega), List.drop_of_length_le (by omega)]
  simp
 | g + 1, i, hg, H => by
  apply eqFcts_c0_vc
  have h1 : i < a.length := by omega
  have h2 : i < b.length := by omega
  obtain ⟨B1, o1, c1, e1, e2, e3, tp, tc, bp, bc, ap, ac, e4, e5⟩ := ha.get h1
  obtain ⟨B2, o2, c2, f1, f2, f3, tp', tc', bp', bc', ap', ac', f4, f5⟩ := hb.get h2
  simp only [drop_eq h1 h2] at H
  refine yes (by omega) ⟨B1, o1, e1, by omega, c1, a[i], tp, tc, bp, bc, ap, ac, e2, ⟨by simpa using e4, by simpa using e3⟩, fun B3 =>
   ⟨B2, o2, f1, by omega, c2, b[i], tp', tc', bp', bc', ap', ac', f2, ⟨by simpa using f4, by simpa using f3⟩, fun B4 => ?_⟩⟩
  refine CallH.pw (fun W' hm' => fSame_c (e5.mono (lkW_kept hm')) (f5.mono (lkW_kept hm'))) ⟨_, rfl, rfl, fun h => ?_, fun h => HR _ _ (finEq H ?_)⟩
  ·have h := of_decide_eq_true h
   rw [wi64 (by omega), show (i : Int) + 1 = ((i + 1 : Nat) : Int) by omega]
   refine eqFcts_loop ha hb hl hm HR g (i + 1) (by omega) (finEq H ?_)
   simp [h]
  ·have h := of_decide_eq_false h
   simp [h]
theorem fSameL_c {p q : OA} {cp cq : Nat} {a b : List Fct} (ha : FctsL (lkW W) p a) (hb : FctsL (lkW W) q b) (hm : a.length ≤ 9223372036854775807) :
  PW TP 30 ⟨[.slice p a.length cp, .slice q b.length cq]⟩ W (.bool (decide (a = b))) := by
 refine fSameL_vc p a.length cp q b.length cq (Mem.start [] W) (CallH.pw (v := .bool (decide (a = b))) (fun W' hm' => ?_) ⟨_, rfl, rfl, finPW rfl⟩)
 have ha := ha.mono (lkW_kept hm')
 have hb := hb.mono (lkW_kept hm')
 refine eqFcts_vc p a.length cp q b.length cq (Mem.start [] W') ⟨fun h => finPW ?_, fun h => eqFcts_loop ha hb (by omega) hm pwLoose a.length 0 (by omega) (finPW ?_)⟩
 ·rw [decide_eq_false]
  intro hab; subst hab; exact h rfl
 ·simp
set_option maxRecDepth 100000
abbrev zB9aa : Array Value := #[IV 0, IV 0, .string (⟨#[]⟩), IV 0, IV 0, IV 0, .slice none 0 0, IV 0, IV 0]
abbrev yB9aa (x0 : BA) (x1 x2 : Int) (x3 : Nat) : SHeap := [(x3, .cells #[.string x0, IV x1, IV x2] 235)]
abbrev yB9ab (x0 : BA) (x1 x2 : Int) (x3 : Nat) (x4 : SHeap) : SHeap := (x3, .cells #[.string x0, IV x1, IV x2] 235) :: x4
theorem readI_vc (Rb : Nat) (tx : BA) (ra re : Int) (hm : Mem (yB9aa tx ra re Rb) S w0 W)
 (H :
 Bn (re = 0)
 (Fin R (yB9aa tx ra re Rb) S w0 (IV 0))
 (∃ (r1 : Int) (r21 : Int) (r31 : Int), (QCall TP 83 ⟨[.string tx, IV ra]⟩ (yB9aa tx ra re Rb) S w0 (.tuple #[IV r1, IV r21, IV r31])) ∧
 Bn (r31 = 0)
 (Fin R [(Rb, .cells #[.string tx, IV ra, IV 10] 235)] S w0 (IV 0))
 (Fin R (yB9aa tx r21 re Rb) S w0 (IV r1)))) :
 Calls TP 198 ⟨[PP Rb, .func (.func 83) #[] #[]]⟩ W R:= by
 refine AtE.cs 40 Tryz.func198 hm (.ru 14 (.ld 0 2 (.ru 2 (.sN 13 H (fun H => ?_) fun H => ?_))))
 ·refine .ru 6 (.rt Tryz.func198 H)
 ·refine .ru 3 (.nm (KC Tryz.f198 30) [(0, PP Rb), (1, .func (.func 83) #[] #[]), (5, IV 0)] (yB9aa tx ra re Rb) (.dr 17 (.pu (.pu (.pu (.pu (.ld 0 0 (.pu (.pu (.pu (.ld 0 1 ?_)))))))))))
  obtain ⟨r1, r21, r31, hq, H⟩ := H
  refine .cl hq (.pu (.pu (.pu (.pu (.pu (.pu (.pu (.dn (.ru 7 (.sN 30 H (fun H => ?_) fun H => ?_))))))))))
  ·refine .ru 6 (.st 0 2 (.ru 6 (.rt Tryz.func198 H)))
  ·refine .ru 8 (.st 0 1 (.ru 6 (.rt Tryz.func198 H)))
theorem readS_vc (Rb : Nat) (tx : BA) (ra re : Int) (hm : Mem (yB9aa tx ra re Rb) S w0 W)
 (H :
 Bn (re = 0)
 (Fin R (yB9aa tx ra re Rb) S w0 (.string (⟨#[]⟩)))
 (∃ (r1 : BA) (r21 : Int) (r31 : Int), (QCall TP 122 ⟨[.string tx, IV ra]⟩ (yB9aa tx ra re Rb) S w0 (.tuple #[.string r1, IV r21, IV r31])) ∧
 Bn (r31 = 0)
 (Fin R [(Rb, .cells #[.string tx, IV ra, IV 10] 235)] S w0 (.string (⟨#[]⟩)))
 (Fin R (yB9aa tx r21 re Rb) S w0 (.string r1)))) :
 Calls TP 200 ⟨[PP Rb, .func (.func 122) #[] #[]]⟩ W R:= by
 refine AtE.cs 40 Tryz.func200 hm (.ru 14 (.ld 0 2 (.ru 2 (.sN 13 H (fun H => ?_) fun H => ?_))))
 ·refine .ru 6 (.rt Tryz.func200 H)
 ·refine .ru 3 (.nm (KC Tryz.f200 30) [(0, PP Rb), (1, .func (.func 122) #[] #[]), (5, .string (⟨#[]⟩))] (yB9aa tx ra re Rb) (.dr 17 (.pu (.pu (.pu (.pu (.ld 0 0 (.pu (.pu (.pu (.ld 0 1 ?_)))))))))))
  obtain ⟨r1, r21, r31, hq, H⟩ := H
  refine .cl hq (.pu (.pu (.pu (.pu (.pu (.pu (.pu (.dn (.ru 7 (.sN 30 H (fun H => ?_) fun H => ?_))))))))))
  ·refine .ru 6 (.st 0 2 (.ru 6 (.rt Tryz.func200 H)))
  ·refine .ru 8 (.st 0 1 (.ru 6 (.rt Tryz.func200 H)))
theorem readInt_vc (Rb : Nat) (tx : BA) (ra re : Int) (hm : Mem (yB9aa tx ra re Rb) S w0 W)
 (H :
 CallH TP 198 ⟨[PP Rb, .func (.func 83) #[] #[]]⟩ (yB9aa tx ra re Rb) S w0 (fun v L' => ∃ r1, ∃ (ra1 : Int) (re1 : Int), v = IV r1 ∧ L' = (yB9aa tx ra1 re1 Rb) ∧
 Fin R (yB9aa tx ra1 re1 Rb) S w0 (IV r1))) :
 Calls TP 199 ⟨[PP Rb]⟩ W R:= by
 refine AtE.cs 5 Tryz.func199 hm (.ru 7 (.cl H ?_))
 rintro _ _ ⟨r1, ra1, re1, rfl, rfl, H⟩
 refine .ru 2 (.rt Tryz.func199 H)
def readLI_c0 (B : Nat) (count i : Int) (m0 : BA) (m1 m2 : Int) (S : List Nat) (w0 : World) (R : Ending → World → Prop) : Prop :=
 AtE TP 201 48 (KC Tryz.f201 500) [(0, PP B), (2, .func (.func 199) #[] #[]), (7, IV count), (8, .slice none 0 0), (9, IV i)] (yB9aa m0 m1 m2 B) S w0 (nrm R)
def readLI_c1 (B3 B4 : Nat) (count1 : Int) (l_l l_c : Nat) (i2 : Int) (m01 : BA) (m11 m21 : Int) (cs : List Value) (S : List Nat) (w0 : World) (R : Ending → World → Prop) : Prop :=
 AtE TP 201 48 (KC Tryz.f201 500) [(0, PP B3), (2, .func (.func 199) #[] #[]), (7, IV count1), (8, .slice (SO B4) l_l l_c), (9, IV i2)] [(B3, .cells #[.string m01, IV m11, IV m21] 235), (B4, .cells ⟨cs⟩ 3)] S w0 (nrm R)
theorem readLI_c0_vc (B : Nat) (count i : Int) (m0 : BA) (m1 m2 : Int)
 (H :
 Br (i < count)
 (Br (m2 = 0)
 (CallH TP 199 ⟨[PP B]⟩ (yB9aa m0 m1 m2 B) S w0 (fun v L' => ∃ r21, ∃ (ra2 : Int) (re2 : Int), v = IV r21 ∧ L' = (yB9aa m0 ra2 re2 B) ∧
 ∀ B1 : Nat,
 ∀ (B2 cap : Nat) (r3 : List Value), 1 ≤ cap → (([IV r21] : List Value) ++ r3).length = cap * 1 →
 ∀ i1 : Int, i1 = (IntKind.i64.wrap (i + (1 : Int))) →
 readLI_c1 B B2 count 1 cap i1 m0 ra2 re2 (([IV r21] : List Value) ++ r3) S w0 R))
 (Fin R (yB9aa m0 m1 m2 B) S w0 (.slice none 0 0)))
 (Fin R (yB9aa m0 m1 m2 B) S w0 (.slice none 0 0))) :
 readLI_c0 B count i m0 m1 m2 S w0 R:= by
 unfold readLI_c0
 refine .ru 7 (.sP 32 H (fun H => ?_) fun H => ?_)
 ·refine .ru 3 (.ld 0 2 (.ru 3 (.sP 38 H (fun H => ?_) fun H => ?_)))
  ·refine .ru 8 (.cl H ?_)
   rintro _ _ ⟨r21, ra2, re2, rfl, rfl, H⟩
   refine .nw (fun B => .slice (SO B) 1 1) (.cells #[IV r21] 3) fun B1 => ?_
   replace H := H B1
   refine .appendN (T := 34) (E := 3) (z := IV 0) (sz := 1) (bytes := 8) (a := ⟨B1, 0, none⟩) (m := 1) (c := 1) ([IV r21] : List Value) (by kernel_rfl) (show Src _ _ _ _ ([IV r21] : List Value) from Src.own (j := 1) (o := 0) (n := 1) (c := ([IV r21] : List Value)) (by kernel_rfl)) (by simp) (by omega) (by omega) (fun B2 cap r3 h1 h2 => ?_)
   replace H := H B2 cap r3 h1 h2
   refine .ru 7 (.lI 9 H fun i1 H => (.ru 2 (.ct [0,2] H)))
  ·refine .ru 7 (.rt Tryz.func201 H)
 ·refine .ru 14 (.rt Tryz.func201 H)
theorem readLI_c1_vc (B3 B4 : Nat) (count1 : Int) (l_l l_c : Nat) (i2 : Int) (m01 : BA) (m11 m21 : Int) (cs : List Value)
 (H :
 Br (i2 < count1)
 (Br (m21 = 0)
 (CallH TP 199 ⟨[PP B3]⟩ [(B3, .cells #[.string m01, IV m11, IV m21] 235), (B4, .cells ⟨cs⟩ 3)] S w0 (fun v L' => ∃ r41, ∃ (ra3 : Int) (re3 : Int), v = IV r41 ∧ L' = [(B3, .cells #[.string m01, IV ra3, IV re3] 235), (B4, .cells ⟨cs⟩ 3)] ∧
 ∀ B5 : Nat,
 (l_l ≤ l_c ∧ (cs).length = l_c * 1) ∧ ((l_l + 1) ≤ 9223372036854775807 ∧ (l_l + 1) * 8 ≤ 140737488355328) ∧
 ∀ (B6 cap1 : Nat) (r5 : List Value), (l_l + 1) ≤ cap1 → ((cs).take (l_l * 1) ++ ([IV r41] : List Value) ++ r5).length = cap1 * 1 →
 ∀ i3 : Int, i3 = (IntKind.i64.wrap (i2 + (1 : Int))) →
 readLI_c1 B3 B6 count1 (l_l + 1) cap1 i3 m01 ra3 re3 ((cs).take (l_l * 1) ++ ([IV r41] : List Value) ++ r5) S w0 R))
 (Fin R [(B3, .cells #[.string m01, IV m11, IV m21] 235), (B4, .cells ⟨cs⟩ 3)] S w0 (.slice (SO B4) l_l l_c)))
 (Fin R [(B3, .cells #[.string m01, IV m11, IV m21] 235), (B4, .cells ⟨cs⟩ 3)] S w0 (.slice (SO B4) l_l l_c))) :
 readLI_c1 B3 B4 count1 l_l l_c i2 m01 m11 m21 cs S w0 R:= by
 unfold readLI_c1
 refine .ru 7 (.sP 32 H (fun H => ?_) fun H => ?_)
 ·refine .ru 3 (.ld 0 2 (.ru 3 (.sP 38 H (fun H => ?_) fun H => ?_)))
  ·refine .ru 8 (.cl H ?_)
   rintro _ _ ⟨r41, ra3, re3, rfl, rfl, H⟩
   refine .nw (fun B => .slice (SO B) 1 1) (.cells #[IV r41] 3) fun B5 => ?_
   replace H := H B5
   refine .appendO 1 (T := 34) (E := 3) (z := IV 0) (sz := 1) (bytes := 8) (n := l_l) (cap := l_c) (a := ⟨B5, 0, none⟩) (m := 1) (c := 1) (cs := cs) ([IV r41] : List Value) (by kernel_rfl) (show Src _ _ _ _ ([IV r41] : List Value) from Src.own (j := 2) (o := 0) (n := 1) (c := ([IV r41] : List Value)) (by kernel_rfl)) (by simp) (by simp [Value.oneCell']) H.1 H.2.1 (fun B6 cap1 r5 h1 h2 => ?_)
   replace H := H.2.2 B6 cap1 r5 h1 h2
   refine .ru 7 (.lI 9 H fun i3 H => (.ru 2 (.ct [0,2] H)))
  ·refine .ru 7 (.rt Tryz.func201 H)
 ·refine .ru 14 (.rt Tryz.func201 H)
theorem readLI_vc (Rb : Nat) (most : Int) (tx : BA) (ra re : Int) (hm : Mem (yB9aa tx ra re Rb) S w0 W)
 (H :
 CallH TP 198 ⟨[PP Rb, .func (.func 83) #[] #[]]⟩ (yB9aa tx ra re Rb) S w0 (fun v L' => ∃ r1, ∃ (ra1 : Int) (re1 : Int), v = IV r1 ∧ L' = (yB9aa tx ra1 re1 Rb) ∧
 Br (re1 = 0)
 (Br (r1 < 0)
 (readLI_c0 Rb r1 (0 : Int) tx ra1 (30 : Int) S w0 R)
 (Br (most < r1)
 (readLI_c0 Rb r1 (0 : Int) tx ra1 (30 : Int) S w0 R)
 (readLI_c0 Rb r1 (0 : Int) tx ra1 re1 S w0 R)))
 (readLI_c0 Rb r1 (0 : Int) tx ra1 re1 S w0 R))) :
 Calls TP 201 ⟨[PP Rb, IV most, .func (.func 199) #[] #[]]⟩ W R:= by
 refine AtE.cs 48 Tryz.func201 hm (.ru 7 (.cl H ?_))
 rintro _ _ ⟨r1, ra1, re1, rfl, rfl, H⟩
 refine .ru 8 (.ld 0 2 (.ru 2 (.sP 17 H (fun H => ?_) fun H => ?_)))
 ·refine .ru 3 (.sP 20 H (fun H => ?_) fun H => ?_)
  ·refine .ru 11 (.st 0 2 (.ru 12 (.ct [0] H)))
  ·refine .ru 6 (.sP 25 H (fun H => ?_) fun H => ?_)
   ·refine .ru 5 (.st 0 2 (.ru 12 (.ct [0] H)))
   ·refine .ru 13 (.ct [0] H)
 ·refine .ru 22 (.ct [0] H)
abbrev readBA0 : Array Value := zB9aa
abbrev readBA1 (r1 r21 : Int) (r31 : BA) (r41 r51 r61 : Int) (r71_p : OA) (r71_l r71_c : Nat) (r81 r91 : Int) : Array Value := #[IV r1, IV r21, .string r31, IV r41, IV r51, IV r61, .slice r71_p r71_l r71_c, IV r81, IV r91]
theorem readB_vc (Rb : Nat) (tx : BA) (ra re : Int) (hm : Mem (yB9aa tx ra re Rb) S w0 W)
 (H :
 ∀ B B1 : Nat,
 CallH TP 199 ⟨[PP Rb]⟩ [(Rb, .cells #[.string tx, IV ra, IV re] 235), (B, .cells readBA0 149), (B1, .cells readBA0 149)] S w0 (fun v L' => ∃ r1, ∃ (ra1 : Int) (re1 : Int), v = IV r1 ∧ L' = [(Rb, .cells #[.string tx, IV ra1, IV re1] 235), (B, .cells readBA0 149), (B1, .cells readBA0 149)] ∧
 CallH TP 199 ⟨[PP Rb]⟩ [(Rb, .cells #[.string tx, IV ra1, IV re1] 235), (B, .cells readBA0 149), (B1, .cells #[IV r1, IV 0, .string (⟨#[]⟩), IV 0, IV 0, IV 0, .slice none 0 0, IV 0, IV 0] 149)] S w0 (fun v L' => ∃ r21, ∃ (ra2 : Int) (re2 : Int), v = IV r21 ∧ L' = [(Rb, .cells #[.string tx, IV ra2, IV re2] 235), (B, .cells readBA0 149), (B1, .cells #[IV r1, IV 0, .string (⟨#[]⟩), IV 0, IV 0, IV 0, .slice none 0 0, IV 0, IV 0] 149)] ∧
 CallH TP 200 ⟨[PP Rb, .func (.func 122) #[] #[]]⟩ [(Rb, .cells #[.string tx, IV ra2, IV re2] 235), (B, .cells readBA0 149), (B1, .cells #[IV r1, IV r21, .string (⟨#[]⟩), IV 0, IV 0, IV 0, .slice none 0 0, IV 0, IV 0] 149)] S w0 (fun v L' => ∃ r31, ∃ (ra3 : Int) (re3 : Int), v = .string r31 ∧ L' = [(Rb, .cells #[.string tx, IV ra3, IV re3] 235), (B, .cells readBA0 149), (B1, .cells #[IV r1, IV r21, .string (⟨#[]⟩), IV 0, IV 0, IV 0, .slice none 0 0, IV 0, IV 0] 149)] ∧
 CallH TP 199 ⟨[PP Rb]⟩ [(Rb, .cells #[.string tx, IV ra3, IV re3] 235), (B, .cells readBA0 149), (B1, .cells #[IV r1, IV r21, .string r31, IV 0, IV 0, IV 0, .slice none 0 0, IV 0, IV 0] 149)] S w0 (fun v L' => ∃ r41, ∃ (ra4 : Int) (re4 : Int), v = IV r41 ∧ L' = [(Rb, .cells #[.string tx, IV ra4, IV re4] 235), (B, .cells readBA0 149), (B1, .cells #[IV r1, IV r21, .string r31, IV 0, IV 0, IV 0, .slice none 0 0, IV 0, IV 0] 149)] ∧
 CallH TP 199 ⟨[PP Rb]⟩ [(Rb, .cells #[.string tx, IV ra4, IV re4] 235), (B, .cells readBA0 149), (B1, .cells #[IV r1, IV r21, .string r31, IV r41, IV 0, IV 0, .slice none 0 0, IV 0, IV 0] 149)] S w0 (fun v L' => ∃ r51, ∃ (ra5 : Int) (re5 : Int), v = IV r51 ∧ L' = [(Rb, .cells #[.string tx, IV ra5, IV re5] 235), (B, .cells readBA0 149), (B1, .cells #[IV r1, IV r21, .string r31, IV r41, IV 0, IV 0, .slice none 0 0, IV 0, IV 0] 149)] ∧
 CallH TP 199 ⟨[PP Rb]⟩ [(Rb, .cells #[.string tx, IV ra5, IV re5] 235), (B, .cells readBA0 149), (B1, .cells #[IV r1, IV r21, .string r31, IV r41, IV r51, IV 0, .slice none 0 0, IV 0, IV 0] 149)] S w0 (fun v L' => ∃ r61, ∃ (ra6 : Int) (re6 : Int), v = IV r61 ∧ L' = [(Rb, .cells #[.string tx, IV ra6, IV re6] 235), (B, .cells readBA0 149), (B1, .cells #[IV r1, IV r21, .string r31, IV r41, IV r51, IV 0, .slice none 0 0, IV 0, IV 0] 149)] ∧
 CallH TP 201 ⟨[PP Rb, IV 64, .func (.func 199) #[] #[]]⟩ [(Rb, .cells #[.string tx, IV ra6, IV re6] 235), (B, .cells readBA0 149), (B1, .cells #[IV r1, IV r21, .string r31, IV r41, IV r51, IV r61, .slice none 0 0, IV 0, IV 0] 149)] S w0 (fun v L' => ∃ (r71_p : OA) (r71_l : Nat) (r71_c : Nat) (ra7 : Int) (re7 : Int), ∃ F, v = (.slice r71_p r71_l r71_c) ∧ L' = ((Rb, .cells #[.string tx, IV ra7, IV re7] 235) :: (B, .cells readBA0 149) :: (B1, .cells #[IV r1, IV r21, .string r31, IV r41, IV r51, IV r61, .slice none 0 0, IV 0, IV 0] 149) :: F) ∧
 CallH TP 199 ⟨[PP Rb]⟩ ((Rb, .cells #[.string tx, IV ra7, IV re7] 235) :: (B, .cells readBA0 149) :: (B1, .cells #[IV r1, IV r21, .string r31, IV r41, IV r51, IV r61, .slice r71_p r71_l r71_c, IV 0, IV 0] 149) :: F) S w0 (fun v L' => ∃ r81, ∃ (ra8 : Int) (re8 : Int), v = IV r81 ∧ L' = ((Rb, .cells #[.string tx, IV ra8, IV re8] 235) :: (B, .cells readBA0 149) :: (B1, .cells #[IV r1, IV r21, .string r31, IV r41, IV r51, IV r61, .slice r71_p r71_l r71_c, IV 0, IV 0] 149) :: F) ∧
 CallH TP 199 ⟨[PP Rb]⟩ ((Rb, .cells #[.string tx, IV ra8, IV re8] 235) :: (B, .cells readBA0 149) :: (B1, .cells #[IV r1, IV r21, .string r31, IV r41, IV r51, IV r61, .slice r71_p r71_l r71_c, IV r81, IV 0] 149) :: F) S w0 (fun v L' => ∃ r91, ∃ (ra9 : Int) (re9 : Int), v = IV r91 ∧ L' = ((Rb, .cells #[.string tx, IV ra9, IV re9] 235) :: (B, .cells readBA0 149) :: (B1, .cells #[IV r1, IV r21, .string r31, IV r41, IV r51, IV r61, .slice r71_p r71_l r71_c, IV r81, IV 0] 149) :: F) ∧
 Fin R ((Rb, .cells #[.string tx, IV ra9, IV re9] 235) :: (B, .cells (readBA1 r1 r21 r31 r41 r51 r61 r71_p r71_l r71_c r81 r91) 149) :: (B1, .cells (readBA1 r1 r21 r31 r41 r51 r61 r71_p r71_l r71_c r81 r91) 149) :: F) S w0 (.agg (readBA1 r1 r21 r31 r41 r51 r61 r71_p r71_l r71_c r81 r91)))))))))))) :
 Calls TP 184 ⟨[PP Rb]⟩ W R:= by
 refine AtE.cs 36 Tryz.func184 hm (.ru 2 (.nH (.cells readBA0 149) H fun B H => (.ru 3 (.nH (.cells readBA0 149) H fun B1 H => (.ru 4 (.cl H ?_))))))
 rintro _ _ ⟨r1, ra1, re1, rfl, rfl, H⟩
 refine .ru 1 (.st 2 0 (.ru 4 (.cl H ?_)))
 rintro _ _ ⟨r21, ra2, re2, rfl, rfl, H⟩
 refine .ru 1 (.st 2 1 (.ru 4 (.cl H ?_)))
 rintro _ _ ⟨r31, ra3, re3, rfl, rfl, H⟩
 refine .ru 1 (.st 2 2 (.ru 4 (.cl H ?_)))
 rintro _ _ ⟨r41, ra4, re4, rfl, rfl, H⟩
 refine .ru 1 (.st 2 3 (.ru 4 (.cl H ?_)))
 rintro _ _ ⟨r51, ra5, re5, rfl, rfl, H⟩
 refine .ru 1 (.st 2 4 (.ru 4 (.cl H ?_)))
 rintro _ _ ⟨r61, ra6, re6, rfl, rfl, H⟩
 refine .ru 2 (.st 2 5 (.ru 4 (.cl H ?_)))
 rintro _ _ ⟨r71_p, r71_l, r71_c, ra7, re7, F, rfl, rfl, H⟩
 refine .ru 2 (.st 2 6 (.ru 4 (.cl H ?_)))
 rintro _ _ ⟨r81, ra8, re8, rfl, rfl, H⟩
 refine .ru 2 (.st 2 7 (.ru 4 (.cl H ?_)))
 rintro _ _ ⟨r91, ra9, re9, rfl, rfl, H⟩
 refine .ru 2 (.st 2 8 (.ru 3 (.ld 2 0 (.st 1 0 (.ru 1 (.retC 1 0 (a := 2) (T := 149) (v := .agg (readBA1 r1 r21 r31 r41 r51 r61 r71_p r71_l r71_c r81 r91)) Tryz.func184 (by kernel_rfl) (by kernel_rfl) H))))))
def readLB_c0 (B : Nat) (count i : Int) (m0 : BA) (m1 m2 : Int) (F1 : SHeap) (S : List Nat) (w0 : World) (R : Ending → World → Prop) : Prop :=
 AtE TP 183 48 (KC Tryz.f183 500) [(0, PP B), (2, .func (.func 184) #[] #[]), (7, IV count), (8, .slice none 0 0), (9, IV i)] (yB9ab m0 m1 m2 B F1) S w0 (nrm R)
def readLB_c1 (B3 B4 : Nat) (count1 : Int) (l_l l_c : Nat) (i2 : Int) (m01 : BA) (m11 m21 : Int) (cs : List Value) (F3 : SHeap) (S : List Nat) (w0 : World) (R : Ending → World → Prop) : Prop :=
 AtE TP 183 48 (KC Tryz.f183 500) [(0, PP B3), (2, .func (.func 184) #[] #[]), (7, IV count1), (8, .slice (SO B4) l_l l_c), (9, IV i2)] ((B3, .cells #[.string m01, IV m11, IV m21] 235) :: (B4, .cells ⟨cs⟩ 149) :: F3) S w0 (nrm R)
theorem readLB_c0_vc (B : Nat) (count i : Int) (m0 : BA) (m1 m2 : Int) (F1 : SHeap)
 (H :
 Br (i < count)
 (Br (m2 = 0)
 (CallH TP 184 ⟨[PP B]⟩ (yB9ab m0 m1 m2 B F1) S w0 (fun v L' => ∃ r2_0 r2_1 r2_2 r2_3 r2_4 r2_5, ∃ (r2_6_p : OA) (r2_6_l : Nat) (r2_6_c : Nat), ∃ r2_7 r2_8, ∃ (ra2 : Int) (re2 : Int), ∃ F2, v = (.agg #[IV r2_0, IV r2_1, .string r2_2, IV r2_3, IV r2_4, IV r2_5, .slice r2_6_p r2_6_l r2_6_c, IV r2_7, IV r2_8]) ∧ L' = (yB9ab m0 ra2 re2 B F2) ∧
 ∀ B1 : Nat,
 ∀ (B2 cap : Nat) (r3 : List Value), 1 ≤ cap → (([IV r2_0, IV r2_1, .string r2_2, IV r2_3, IV r2_4, IV r2_5, .slice r2_6_p r2_6_l r2_6_c, IV r2_7, IV r2_8] : List Value) ++ r3).length = cap * 9 →
 ∀ i1 : Int, i1 = (IntKind.i64.wrap (i + (1 : Int))) →
 readLB_c1 B B2 count 1 cap i1 m0 ra2 re2 (([IV r2_0, IV r2_1, .string r2_2, IV r2_3, IV r2_4, IV r2_5, .slice r2_6_p r2_6_l r2_6_c, IV r2_7, IV r2_8] : List Value) ++ r3) F2 S w0 R))
 (Fin R (yB9ab m0 m1 m2 B F1) S w0 (.slice none 0 0)))
 (Fin R (yB9ab m0 m1 m2 B F1) S w0 (.slice none 0 0))) :
 readLB_c0 B count i m0 m1 m2 F1 S w0 R:= by
 unfold readLB_c0
 refine .ru 7 (.sP 32 H (fun H => ?_) fun H => ?_)
 ·refine .ru 3 (.ld 0 2 (.ru 3 (.sP 38 H (fun H => ?_) fun H => ?_)))
  ·refine .ru 8 (.cl H ?_)
   rintro _ _ ⟨r2_0, r2_1, r2_2, r2_3, r2_4, r2_5, r2_6_p, r2_6_l, r2_6_c, r2_7, r2_8, ra2, re2, F2, rfl, rfl, H⟩
   refine .nw (fun B => .slice (SO B) 1 1) (.cells #[IV r2_0, IV r2_1, .string r2_2, IV r2_3, IV r2_4, IV r2_5, .slice r2_6_p r2_6_l r2_6_c, IV r2_7, IV r2_8] 149) fun B1 => ?_
   replace H := H B1
   refine .front (.appendN (T := 33) (E := 149) (z := .agg zB9aa) (sz := 9) (bytes := 96) (a := ⟨B1, 0, none⟩) (m := 1) (c := 1) ([IV r2_0, IV r2_1, .string r2_2, IV r2_3, IV r2_4, IV r2_5, .slice r2_6_p r2_6_l r2_6_c, IV r2_7, IV r2_8] : List Value) (by kernel_rfl) (show Src _ _ _ _ ([IV r2_0, IV r2_1, .string r2_2, IV r2_3, IV r2_4, IV r2_5, .slice r2_6_p r2_6_l r2_6_c, IV r2_7, IV r2_8] : List Value) from Src.own (j := 0) (o := 0) (n := 9) (c := ([IV r2_0, IV r2_1, .string r2_2, IV r2_3, IV r2_4, IV r2_5, .slice r2_6_p r2_6_l r2_6_c, IV r2_7, IV r2_8] : List Value)) (by kernel_rfl)) (by simp) (by omega) (by omega) (fun B2 cap r3 h1 h2 => ?_))
   replace H := H B2 cap r3 h1 h2
   refine .front (.ru 7 (.lI 9 H fun i1 H => (.ru 2 (.tT [2,0] 3 H))))
  ·refine .ru 7 (.rt Tryz.func183 H)
 ·refine .ru 14 (.rt Tryz.func183 H)
theorem readLB_c1_vc (B3 B4 : Nat) (count1 : Int) (l_l l_c : Nat) (i2 : Int) (m01 : BA) (m11 m21 : Int) (cs : List Value) (F3 : SHeap)
 (H :
 Br (i2 < count1)
 (Br (m21 = 0)
 (CallH TP 184 ⟨[PP B3]⟩ ((B3, .cells #[.string m01, IV m11, IV m21] 235) :: (B4, .cells ⟨cs⟩ 149) :: F3) S w0 (fun v L' => ∃ r4_0 r4_1 r4_2 r4_3 r4_4 r4_5, ∃ (r4_6_p : OA) (r4_6_l : Nat) (r4_6_c : Nat), ∃ r4_7 r4_8, ∃ (ra3 : Int) (re3 : Int), ∃ F4, v = (.agg #[IV r4_0, IV r4_1, .string r4_2, IV r4_3, IV r4_4, IV r4_5, .slice r4_6_p r4_6_l r4_6_c, IV r4_7, IV r4_8]) ∧ L' = ((B3, .cells #[.string m01, IV ra3, IV re3] 235) :: (B4, .cells ⟨cs⟩ 149) :: F4) ∧
 ∀ B5 : Nat,
 (l_l ≤ l_c ∧ (cs).length = l_c * 9) ∧ ((l_l + 1) ≤ 9223372036854775807 ∧ (l_l + 1) * 96 ≤ 140737488355328) ∧
 ∀ (B6 cap1 : Nat) (r5 : List Value), (l_l + 1) ≤ cap1 → ((cs).take (l_l * 9) ++ ([IV r4_0, IV r4_1, .string r4_2, IV r4_3, IV r4_4, IV r4_5, .slice r4_6_p r4_6_l r4_6_c, IV r4_7, IV r4_8] : List Value) ++ r5).length = cap1 * 9 →
 ∀ i3 : Int, i3 = (IntKind.i64.wrap (i2 + (1 : Int))) →
 readLB_c1 B3 B6 count1 (l_l + 1) cap1 i3 m01 ra3 re3 ((cs).take (l_l * 9) ++ ([IV r4_0, IV r4_1, .string r4_2, IV r4_3, IV r4_4, IV r4_5, .slice r4_6_p r4_6_l r4_6_c, IV r4_7, IV r4_8] : List Value) ++ r5) F4 S w0 R))
 (Fin R ((B3, .cells #[.string m01, IV m11, IV m21] 235) :: (B4, .cells ⟨cs⟩ 149) :: F3) S w0 (.slice (SO B4) l_l l_c)))
 (Fin R ((B3, .cells #[.string m01, IV m11, IV m21] 235) :: (B4, .cells ⟨cs⟩ 149) :: F3) S w0 (.slice (SO B4) l_l l_c))) :
 readLB_c1 B3 B4 count1 l_l l_c i2 m01 m11 m21 cs F3 S w0 R:= by
 unfold readLB_c1
 refine .ru 7 (.sP 32 H (fun H => ?_) fun H => ?_)
 ·refine .ru 3 (.ld 0 2 (.ru 3 (.sP 38 H (fun H => ?_) fun H => ?_)))
  ·refine .ru 8 (.cl H ?_)
   rintro _ _ ⟨r4_0, r4_1, r4_2, r4_3, r4_4, r4_5, r4_6_p, r4_6_l, r4_6_c, r4_7, r4_8, ra3, re3, F4, rfl, rfl, H⟩
   refine .nw (fun B => .slice (SO B) 1 1) (.cells #[IV r4_0, IV r4_1, .string r4_2, IV r4_3, IV r4_4, IV r4_5, .slice r4_6_p r4_6_l r4_6_c, IV r4_7, IV r4_8] 149) fun B5 => ?_
   replace H := H B5
   refine .front (.appendO 2 (T := 33) (E := 149) (z := .agg zB9aa) (sz := 9) (bytes := 96) (n := l_l) (cap := l_c) (a := ⟨B5, 0, none⟩) (m := 1) (c := 1) (cs := cs) ([IV r4_0, IV r4_1, .string r4_2, IV r4_3, IV r4_4, IV r4_5, .slice r4_6_p r4_6_l r4_6_c, IV r4_7, IV r4_8] : List Value) (by kernel_rfl) (show Src _ _ _ _ ([IV r4_0, IV r4_1, .string r4_2, IV r4_3, IV r4_4, IV r4_5, .slice r4_6_p r4_6_l r4_6_c, IV r4_7, IV r4_8] : List Value) from Src.own (j := 0) (o := 0) (n := 9) (c := ([IV r4_0, IV r4_1, .string r4_2, IV r4_3, IV r4_4, IV r4_5, .slice r4_6_p r4_6_l r4_6_c, IV r4_7, IV r4_8] : List Value)) (by kernel_rfl)) (by simp) (by simp [Value.oneCell']) H.1 H.2.1 (fun B6 cap1 r5 h1 h2 => ?_))
   replace H := H.2.2 B6 cap1 r5 h1 h2
   refine .front (.ru 7 (.lI 9 H fun i3 H => (.ru 2 (.tT [2,0] 3 H))))
  ·refine .ru 7 (.rt Tryz.func183 H)
 ·refine .ru 14 (.rt Tryz.func183 H)
theorem readLB_vc (Rb : Nat) (most : Int) (tx : BA) (ra re : Int) (F : SHeap) (hm : Mem (yB9ab tx ra re Rb F) S w0 W)
 (H :
 CallH TP 198 ⟨[PP Rb, .func (.func 83) #[] #[]]⟩ (yB9ab tx ra re Rb F) S w0 (fun v L' => ∃ r1, ∃ (ra1 : Int) (re1 : Int), v = IV r1 ∧ L' = (yB9ab tx ra1 re1 Rb F) ∧
 Br (re1 = 0)
 (Br (r1 < 0)
 (readLB_c0 Rb r1 (0 : Int) tx ra1 (30 : Int) F S w0 R)
 (Br (most < r1)
 (readLB_c0 Rb r1 (0 : Int) tx ra1 (30 : Int) F S w0 R)
 (readLB_c0 Rb r1 (0 : Int) tx ra1 re1 F S w0 R)))
 (readLB_c0 Rb r1 (0 : Int) tx ra1 re1 F S w0 R))) :
 Calls TP 183 ⟨[PP Rb, IV most, .func (.func 184) #[] #[]]⟩ W R:= by
 refine AtE.cs 48 Tryz.func183 hm (.ru 7 (.cl H ?_))
 rintro _ _ ⟨r1, ra1, re1, rfl, rfl, H⟩
 refine .ru 8 (.ld 0 2 (.ru 2 (.sP 17 H (fun H => ?_) fun H => ?_)))
 ·refine .ru 3 (.sP 20 H (fun H => ?_) fun H => ?_)
  ·refine .ru 11 (.st 0 2 (.ru 12 (.tT [0] 1 H)))
  ·refine .ru 6 (.sP 25 H (fun H => ?_) fun H => ?_)
   ·refine .ru 5 (.st 0 2 (.ru 12 (.tT [0] 1 H)))
   ·refine .ru 13 (.tT [0] 1 H)
 ·refine .ru 22 (.tT [0] 1 H)
theorem decode_vc (s : BA) (hm : Mem [] [] w0 W)
 (H :
 ∀ B : Nat,
 CallH TP 183 ⟨[PP B, IV 24, .func (.func 184) #[] #[]]⟩ [(B, .cells #[.string s, IV 0, IV 0] 235)] [] w0 (fun v L' => ∃ (r1_p : OA) (r1_l : Nat) (r1_c : Nat) (ra : Int) (re : Int), ∃ F, v = (.slice r1_p r1_l r1_c) ∧ L' = (yB9ab s ra re B F) ∧
 Bn (re = 0)
 (Fin R (yB9ab s ra re B F) [] w0 (.tuple #[.slice none 0 0, IV re]))
 (Br (ra < (s.size : Int))
 (Fin R (yB9ab s ra re B F) [] w0 (.tuple #[.slice none 0 0, IV 10]))
 (CallH TP 141 ⟨[.slice r1_p r1_l r1_c]⟩ (yB9ab s ra re B F) [] w0 (fun v L' => ∃ r21, v = .bool r21 ∧ L' = (yB9ab s ra re B F) ∧
 Bb (r21)
 (Fin R (yB9ab s ra re B F) [] w0 (.tuple #[.slice r1_p r1_l r1_c, IV 0]))
 (Fin R (yB9ab s ra re B F) [] w0 (.tuple #[.slice none 0 0, IV 30]))))))) :
 Calls TP 170 ⟨[.string s]⟩ W R:= by
 refine AtE.cs 34 Tryz.func170 hm (.ru 9 (.nH (.cells #[.string s, IV 0, IV 0] 235) H fun B H => (.ru 5 (.cl H ?_))))
 rintro _ _ ⟨r1_p, r1_l, r1_c, ra, re, F, rfl, rfl, H⟩
 refine .ru 9 (.ld 0 2 (.ru 3 (.sN 11 H (fun H => ?_) fun H => ?_)))
 ·refine .ru 2 (.nm (KC Tryz.f170 484) [(4, PP B)] (yB9ab s ra re B F) (.dr 6 (.pu (.pu (.pu (.ld 0 2 (.pu (.pu (.dn (.ru 1 (.rt Tryz.func170 H)))))))))))
 ·refine .ru 6 (.ld 0 1 (.ru 5 (.sP 21 H (fun H => ?_) fun H => ?_)))
  ·refine .ru 6 (.rt Tryz.func170 H)
  ·refine .ru 4 (.cl H ?_)
   rintro _ _ ⟨r21, rfl, rfl, H⟩
   refine .sB 31 H (fun H => ?_) fun H => ?_
   ·refine .ru 12 (.rt Tryz.func170 H)
   ·refine .ru 9 (.rt Tryz.func170 H)
abbrev rH (T Rb : Nat) (tx : BA) (st : RS) : Nat × Obj := (Rb, .cells #[.string tx, .int .i64 (st.1 : Int), .int .i64 st.2] T)
def lkF (F : SHeap) : Lk := fun b c => ∃ t fz, (b, Obj.cells ⟨c⟩ t fz) ∈ F
theorem lkF_mono {F F' : SHeap} (h : ∀ x ∈ F, x ∈ F') : ∀ b c, lkF F b c → lkF F' b c := fun _ _ ⟨t, fz, h1⟩ => ⟨t, fz, h _ h1⟩
theorem lkF_W {F L : SHeap} (hm : Mem L S w0 W) (h : ∀ x ∈ F, x ∈ L) : ∀ b c, lkF F b c → lkW W b c := by
 rintro b c ⟨t, fz, h1⟩
 have := hm.here _ (h _ h1)
 simp only at this
 simp [lkW, blkW, this]
theorem CallH.one {x y : Nat × Obj} {rest : SHeap} {v : Value} {K' : Value → SHeap → Prop} (h : EffC P g args [x] (fun v' L' => v' = v ∧ L' = [y])) (hK : K' v (y :: rest)) :
  CallH P g args (x :: rest) S w0 K' :=
 CallH.eff (L0 := [x]) (L1 := rest) h (List.Perm.refl _) fun v' L' ⟨hv, hl⟩ => ⟨y :: rest, by rw [hl]; exact List.Perm.refl _, by rw [hv]; exact hK⟩
theorem CallH.oneF {x : Nat × Obj} {rest : SHeap} {K' : Value → SHeap → Prop} (h : EffC P g args [x] K) (hK : ∀ v L', K v L' → ∃ y F, L' = y :: F ∧ K' v (y :: (rest ++ F))) :
  CallH P g args (x :: rest) S w0 K' :=
 CallH.eff (L0 := [x]) (L1 := rest) h (List.Perm.refl _) fun v' L' hk => by
  obtain ⟨y, F, rfl, h2⟩ := hK v' L' hk
  exact ⟨_, List.Perm.cons y List.perm_append_comm, h2⟩
theorem dkSelT (A : SHeap) (is : List Nat) {T : SHeap} {L' : SHeap} {v : Value} (hs : (selL A is, nodupB is) = (L', true)) (h : K v (L' ++ T)) :
  Fin (fun e W' => ∃ v L', e = .returned v ∧ Mem L' S W W' ∧ K v L') (A ++ T) S W v := by
 simp only [Prod.mk.injEq] at hs
 obtain ⟨rfl, h2⟩ := hs
 exact fun _ hm => ⟨v, _, rfl, hm.selT (nodupB_spec h2), h⟩
theorem row_old {cs x r : List Value} {n sz i : Nat} (hi : i < n) (hn : n * sz ≤ cs.length) : ((cs.take (n * sz) ++ x ++ r).drop (i * sz)).take sz = (cs.drop (i * sz)).take sz := by
 have h1 : i * sz + sz ≤ n * sz := by rw [← Nat.succ_mul]; exact Nat.mul_le_mul_right _ hi
 rw [List.append_assoc, List.drop_append_of_le_length (by rw [List.length_take]; omega), List.take_append_of_le_length (by rw [List.length_drop, List.length_take]; omega), List.drop_take, List.take_take]
 congr 1
 omega
theorem row_new {cs x r : List Value} {n sz : Nat} (hn : n * sz ≤ cs.length) (hx : x.length = sz) : ((cs.take (n * sz) ++ x ++ r).drop (n * sz)).take sz = x := by
 have h1 : (cs.take (n * sz)).length = n * sz := by rw [List.length_take]; omega
 rw [List.append_assoc, List.drop_left' h1, List.take_left' hx]
theorem at_old {cs x r : List Value} {n i : Nat} (hi : i < n) (hn : n ≤ cs.length) : (cs.take n ++ x ++ r)[i]? = cs[i]? := by
 rw [List.append_assoc, List.getElem?_append_left (by rw [List.length_take]; omega), List.getElem?_take_of_lt hi]
theorem at_new {cs r : List Value} {v : Value} {n : Nat} (hn : n ≤ cs.length) : (cs.take n ++ [v] ++ r)[n]? = some v := by
 have h1 : (cs.take n).length = n := by rw [List.length_take]; omega
 rw [List.append_assoc, List.getElem?_append_right (by omega), h1, Nat.sub_self]; rfl
theorem int_ans {s : BA} {st : RS} (h : st.1 ≤ (bts s).length) (he : st.2 = 0) : intAns s (st.1 : Int) = match rdInt ((bts s).drop st.1) with
  | none => .tuple #[.int .i64 0, .int .i64 0, .int .i64 10]
  | some (n, k) => .tuple #[.int .i64 n, .int .i64 ((st.1 + k : Nat) : Int), .int .i64 0] := by
 rw [bts_len] at h
 rw [intAns, if_neg (by omega), Int.toNat_natCast]
 cases rdInt ((bts s).drop st.1) with
 | none => rfl
 | some p => rfl
theorem str_ans {s : BA} {st : RS} (h : st.1 ≤ (bts s).length) (he : st.2 = 0) : strAns s (st.1 : Int) = match rdStr ((bts s).drop st.1) with
  | none => .tuple #[.string ⟨#[]⟩, .int .i64 0, .int .i64 10]
  | some (t, k) => .tuple #[.string ⟨t.toArray⟩, .int .i64 ((st.1 + k : Nat) : Int), .int .i64 0] := by
 rw [bts_len] at h
 rw [strAns, if_neg (by omega), Int.toNat_natCast]
 cases rdStr ((bts s).drop st.1) with
 | none => rfl
 | some p => rfl
theorem readI_e {Rb : Nat} {tx : BA} {st : RS} (hs : tx.size < 4611686018427387904) (h : st.1 ≤ (bts tx).length) :
  EffC TP 198 ⟨[.pointer (SO Rb), .func (.func 83) #[] #[]]⟩ [rH 235 Rb tx st] (fun v L' => v = .int .i64 (rdI (bts tx) st).1 ∧ L' = [rH 235 Rb tx (rdI (bts tx) st).2]) := by
 intro W hm
 refine readI_vc Rb tx st.1 st.2 hm ⟨fun he => dkFin ?_, fun he => ?_⟩
 ·rw [rdI, if_neg he]; exact ⟨rfl, rfl⟩
 ·have hq : QCall TP 83 ⟨[.string tx, .int .i64 (st.1 : Int)]⟩ [rH 235 Rb tx st] ([rH 235 Rb tx st].map (·.1)) W (intAns tx (st.1 : Int)) := QCall.of (Int_c tx _ hs)
  rw [int_ans h he] at hq
  rw [rdI, if_pos he]
  cases hr : rdInt ((bts tx).drop st.1) with
  | none =>
   rw [hr] at hq
   exact ⟨_, _, _, hq, fun _ => dkFin ⟨rfl, rfl⟩, fun h0 => absurd h0 (by decide)⟩
  | some p =>
   rw [hr] at hq
   exact ⟨_, _, _, hq, fun h0 => absurd rfl h0, fun _ => dkFin ⟨rfl, by rw [he]⟩⟩
theorem readS_e {Rb : Nat} {tx : BA} {st : RS} (hs : tx.size < 4611686018427387904) (h : st.1 ≤ (bts tx).length) :
  EffC TP 200 ⟨[.pointer (SO Rb), .func (.func 122) #[] #[]]⟩ [rH 235 Rb tx st] (fun v L' => v = .string (rdT (bts tx) st).1 ∧ L' = [rH 235 Rb tx (rdT (bts tx) st).2]) := by
 intro W hm
 refine readS_vc Rb tx st.1 st.2 hm ⟨fun he => dkFin ?_, fun he => ?_⟩
 ·rw [rdT, if_neg he]; exact ⟨rfl, rfl⟩
 ·have hq : QCall TP 122 ⟨[.string tx, .int .i64 (st.1 : Int)]⟩ [rH 235 Rb tx st] ([rH 235 Rb tx st].map (·.1)) W (strAns tx (st.1 : Int)) := QCall.of (String_c tx _ hs)
  rw [str_ans h he] at hq
  rw [rdT, if_pos he]
  cases hr : rdStr ((bts tx).drop st.1) with
  | none =>
   rw [hr] at hq
   exact ⟨_, _, _, hq, fun _ => dkFin ⟨rfl, rfl⟩, fun h0 => absurd h0 (by decide)⟩
  | some p =>
   rw [hr] at hq
   exact ⟨_, _, _, hq, fun h0 => absurd rfl h0, fun _ => dkFin ⟨rfl, by rw [he]⟩⟩
theorem readInt_e {Rb : Nat} {tx : BA} {st : RS} (hs : tx.size < 4611686018427387904) (h : st.1 ≤ (bts tx).length) :
  EffC TP 199 ⟨[.pointer (SO Rb)]⟩ [rH 235 Rb tx st] (fun v L' => v = .int .i64 (rdI (bts tx) st).1 ∧ L' = [rH 235 Rb tx (rdI (bts tx) st).2]) := by
 intro W hm
 exact readInt_vc Rb tx st.1 st.2 hm (CallH.one (readI_e hs h) ⟨_, _, _, rfl, rfl, dkFin ⟨rfl, rfl⟩⟩)
def IntsOut (T Rb : Nat) (tx : BA) (r : List Int × RS) (v : Value) (L' : SHeap) : Prop :=
 ∃ (p : OA) (c : Nat) (F : SHeap), v = .slice p r.1.length c ∧ r.1.length ≤ c ∧ L' = rH T Rb tx r.2 :: F ∧ IntsL (lkF F) p r.1
theorem readLI_loop1 {Rb : Nat} {tx : BA} (hs : tx.size < 4611686018427387904) {count : Int} (hc : count ≤ 64) {S : List Nat} {w0 : World} : ∀ (g : Nat) (l : List Int) (st : RS) (B4 cap : Nat) (cs : List Value), (g : Int) + l.length = count → st.1 ≤ (bts tx).length → l.length ≤ cap → cs.length = cap * 1 → (∀ i (h : i < l.length), cs[i]? = some (.int .i64 l[i])) →
      readLI_c1 Rb B4 count l.length cap (l.length : Int) tx st.1 st.2 cs S w0 (fun e W' => ∃ v L', e = .returned v ∧ Mem L' S w0 W' ∧ IntsOut 235 Rb tx (l ++ (rdMany (rdI (bts tx)) g st).1, (rdMany (rdI (bts tx)) g st).2) v L')
  | g, l, st, B4, cap, cs, hg, hst, h1, h2, h3 => by
    apply readLI_c1_vc
    have stop : IntsOut 235 Rb tx (l, st) (.slice (SO B4) l.length cap) [rH 235 Rb tx st, (B4, .cells ⟨cs⟩ 3)] :=
      ⟨some ⟨B4, 0, none⟩, cap, [(B4, .cells ⟨cs⟩ 3)], rfl, h1, rfl, fun _ => ⟨B4, 0, cs, rfl, ⟨3, _, List.mem_singleton.2 rfl⟩, fun i hi => by rw [Nat.zero_add]; exact h3 i hi⟩⟩
    match g with
    | 0 =>
      refine no (by omega) (dkFin ?_)
      simpa [rdMany] using stop
    | g + 1 =>
      refine yes (by omega) ⟨fun he => ?_, fun he => dkFin ?_⟩
      · refine CallH.one (readInt_e hs hst) ⟨_, _, _, rfl, rfl, fun B5 => ⟨⟨h1, h2⟩, by omega, fun B6 cap1 r5 q1 q2 => ?_⟩⟩
        rintro _ rfl
        rw [Nat.mul_one] at q2 ⊢
        have hlen : l.length ≤ cs.length := by omega
        rw [wi64 (by omega), show (l.length : Int) + 1 = ((l ++ [(rdI (bts tx) st).1]).length : Int) by simp, show l.length + 1 = (l ++ [(rdI (bts tx) st).1]).length by simp]
        have := readLI_loop1 (Rb := Rb) hs hc (S := S) (w0 := w0) g (l ++ [(rdI (bts tx) st).1]) (rdI (bts tx) st).2 B6 cap1 (cs.take l.length ++ [.int .i64 (rdI (bts tx) st).1] ++ r5) (by simp; omega) (rdI_le hst) (by simpa using q1) q2 (fun i hi => ?_)
        · rw [rdMany, if_pos he]
          simpa using this
        · rcases Nat.lt_or_ge i l.length with hi2 | hi2
          · rw [at_old hi2 hlen, h3 i hi2, List.getElem_append_left hi2]
          · have : i = l.length := by simp at hi; omega
            subst this
            rw [at_new hlen]; simp
      · rw [rdMany_err he]
        simpa using stop
theorem readLI_loop0 {Rb : Nat} {tx : BA} (hs : tx.size < 4611686018427387904) {count : Int} {st : RS} (hst : st.1 ≤ (bts tx).length) (hc : st.2 = 0 → count ≤ 64) :
  readLI_c0 Rb count 0 tx st.1 st.2 S w0 (fun e W' => ∃ v L', e = .returned v ∧ Mem L' S w0 W' ∧ IntsOut 235 Rb tx (rdMany (rdI (bts tx)) count.toNat st) v L') := by
 apply readLI_c0_vc
 have stop : IntsOut 235 Rb tx ([], st) (.slice none 0 0) [rH 235 Rb tx st] := ⟨none, 0, [], rfl, Nat.le_refl _, rfl, fun h => absurd h (by simp)⟩
 refine ⟨fun hlt => ⟨fun he => ?_, fun he => dkFin ?_⟩, fun hlt => dkFin ?_⟩
 ·refine CallH.one (readInt_e hs hst) ⟨_, _, _, rfl, rfl, fun B1 B2 cap r3 q1 q2 => ?_⟩
  rintro _ rfl
  obtain ⟨g, hg⟩ : ∃ g : Nat, count.toNat = g + 1 := ⟨count.toNat - 1, by omega⟩
  have hcc := hc he
  have := readLI_loop1 (Rb := Rb) hs hcc (S := S) (w0 := w0) g [(rdI (bts tx) st).1] (rdI (bts tx) st).2 B2 cap ([.int .i64 (rdI (bts tx) st).1] ++ r3) (by simp; omega) (rdI_le hst) q1 q2 (fun i hi => ?_)
  ·rw [hg, rdMany, if_pos he]
   exact this
  ·have : i = 0 := by simp at hi; omega
   subst this; rfl
 ·rw [rdMany_err he]; exact stop
 ·have : count.toNat = 0 := by omega
  rw [this]; exact stop
theorem readLI_e {Rb : Nat} {tx : BA} {st : RS} (hs : tx.size < 4611686018427387904) (h : st.1 ≤ (bts tx).length) :
  EffC TP 201 ⟨[.pointer (SO Rb), .int .i64 64, .func (.func 199) #[] #[]]⟩ [rH 235 Rb tx st] (IntsOut 235 Rb tx (rdList (rdI (bts tx)) (bts tx) 64 st)) := by
 intro W hm
 refine readLI_vc Rb 64 tx st.1 st.2 hm (CallH.one (readI_e hs h) ⟨_, _, _, rfl, rfl, ?_⟩)
 unfold rdList rdCount
 refine ⟨fun he => ⟨fun h1 => ?_, fun h1 => ⟨fun h2 => ?_, fun h2 => ?_⟩⟩, fun he => ?_⟩
 ·rw [if_pos ⟨he, .inl h1⟩]
  exact readLI_loop0 hs (st := ((rdI (bts tx) st).2.1, 30)) (rdI_le h) (fun h => absurd h (by simp))
 ·rw [if_pos ⟨he, .inr h2⟩]
  exact readLI_loop0 hs (st := ((rdI (bts tx) st).2.1, 30)) (rdI_le h) (fun h => absurd h (by simp))
 ·rw [if_neg (fun hh => by rcases hh.2 with h3 | h3 <;> omega)]
  exact readLI_loop0 hs (rdI_le h) (fun _ => by omega)
 ·rw [if_neg (fun hh => he hh.1)]
  exact readLI_loop0 hs (rdI_le h) (fun h => absurd h he)
def BlkOut (T Rb : Nat) (tx : BA) (r : Blk × RS) (v : Value) (L' : SHeap) : Prop :=
 ∃ (p : OA) (c : Nat) (F : SHeap), v = .agg ⟨r.1.cells p c⟩ ∧ L' = rH T Rb tx r.2 :: F ∧ IntsL (lkF F) p r.1.lab.after
theorem readB_e {Rb : Nat} {tx : BA} {st : RS} (hs : tx.size < 4611686018427387904) (h : st.1 ≤ (bts tx).length) :
  EffC TP 184 ⟨[.pointer (SO Rb)]⟩ [rH 235 Rb tx st] (BlkOut 235 Rb tx (rdBlk (bts tx) st)) := by
 intro W hm
 obtain ⟨h1, h2, h3, h4, h5, h6, h7, h8, h9⟩ := rdB_le h
 refine readB_vc Rb tx st.1 st.2 hm fun B B1 => ?_
 refine CallH.one (readInt_e hs h) ⟨_, _, _, rfl, rfl, ?_⟩
 refine CallH.one (readInt_e hs h1) ⟨_, _, _, rfl, rfl, ?_⟩
 refine CallH.one (readS_e hs h2) ⟨_, _, _, rfl, rfl, ?_⟩
 refine CallH.one (readInt_e hs h3) ⟨_, _, _, rfl, rfl, ?_⟩
 refine CallH.one (readInt_e hs h4) ⟨_, _, _, rfl, rfl, ?_⟩
 refine CallH.one (readInt_e hs h5) ⟨_, _, _, rfl, rfl, ?_⟩
 refine CallH.oneF (readLI_e hs h6) fun v L' ⟨p, c, F, hv, hc, hL, hi⟩ => ⟨_, F, hL, p, _, c, _, _, F, hv, rfl, ?_⟩
 refine CallH.one (readInt_e hs h7) ⟨_, _, _, rfl, rfl, ?_⟩
 refine CallH.one (readInt_e hs h8) ⟨_, _, _, rfl, rfl, ?_⟩
 exact dkSelT [_, _, _] [0] rfl ⟨p, c, F, rfl, rfl, hi⟩
def BlksOut (T Rb : Nat) (tx : BA) (r : List Blk × RS) (v : Value) (L' : SHeap) : Prop :=
 ∃ (p : OA) (c : Nat) (F : SHeap), v = .slice p r.1.length c ∧ r.1.length ≤ c ∧ L' = rH T Rb tx r.2 :: F ∧ BlksL (lkF F) p r.1
def BRow (F : SHeap) (cs : List Value) (l : List Blk) : Prop := ∀ i (h : i < l.length), i * 9 + 9 ≤ cs.length ∧ BlkL (lkF F) ((cs.drop (i * 9)).take 9) l[i]
theorem BRow.mono {F F' : SHeap} {cs : List Value} {l : List Blk} (h : BRow F cs l) (hl : ∀ x ∈ F, x ∈ F') : BRow F' cs l := fun i hi => ⟨(h i hi).1, (h i hi).2.mono (lkF_mono hl)⟩
theorem BRow.app {F : SHeap} {cs r : List Value} {l : List Blk} {b : Blk} {p : OA} {c cap cap1 : Nat} (h : BRow F cs l) (h1 : l.length ≤ cap) (h2 : cs.length = cap * 9) (hb : IntsL (lkF F) p b.lab.after) (hf : b.Fits)
  (q1 : l.length + 1 ≤ cap1) (q2 : (cs.take (l.length * 9) ++ b.cells p c ++ r).length = cap1 * 9) : BRow F (cs.take (l.length * 9) ++ b.cells p c ++ r) (l ++ [b]) := by
 have hn : l.length * 9 ≤ cs.length := by rw [h2]; exact Nat.mul_le_mul_right _ h1
 intro i hi
 have hi' : i < l.length + 1 := by simpa using hi
 refine ⟨by rw [q2]; omega, ?_⟩
 rcases Nat.lt_or_ge i l.length with hlt | hge
 ·rw [row_old hlt hn, List.getElem_append_left hlt]
  exact (h i hlt).2
 ·have : i = l.length := by omega
  subst this
  rw [row_new hn rfl]
  simp only [List.getElem_append_right (Nat.le_refl _), Nat.sub_self, List.getElem_cons_zero]
  exact ⟨p, c, rfl, hb, hf⟩
theorem BRow.one {F : SHeap} {r : List Value} {b : Blk} {p : OA} {c cap : Nat} (hb : IntsL (lkF F) p b.lab.after) (hf : b.Fits) (q1 : 1 ≤ cap) (q2 : (b.cells p c ++ r).length = cap * 9) : BRow F (b.cells p c ++ r) [b] := by
 intro i hi
 have : i = 0 := by simp at hi; omega
 subst this
 refine ⟨by rw [q2]; omega, p, c, ?_, hb, hf⟩
 simp
theorem BRow.sl {F : SHeap} {cs : List Value} {l : List Blk} {B4 : Nat} (h : BRow F cs l) : BlksL (lkF ((B4, .cells ⟨cs⟩ 149) :: F)) (SO B4) l :=
 fun _ => ⟨B4, 0, cs, rfl, ⟨149, _, List.mem_cons_self⟩, fun i hi => ⟨by rw [Nat.zero_add]; exact (h i hi).1, by rw [Nat.zero_add]; exact (h i hi).2.mono (lkF_mono fun x hx => List.mem_cons_of_mem _ hx)⟩⟩
theorem readLB_loop1 {Rb : Nat} {tx : BA} (hs : tx.size < 4611686018427387904) {count : Int} (hc : count ≤ 24) {S : List Nat} {w0 : World} : ∀ (g : Nat) (l : List Blk) (st : RS) (B4 cap : Nat) (cs : List Value) (F : SHeap), (g : Int) + l.length = count → st.1 ≤ (bts tx).length → l.length ≤ cap → cs.length = cap * 9 → BRow F cs l →
      readLB_c1 Rb B4 count l.length cap (l.length : Int) tx st.1 st.2 cs F S w0 (fun e W' => ∃ v L', e = .returned v ∧ Mem L' S w0 W' ∧ BlksOut 235 Rb tx (l ++ (rdMany (rdBlk (bts tx)) g st).1, (rdMany (rdBlk (bts tx)) g st).2) v L')
  | g, l, st, B4, cap, cs, F, hg, hst, h1, h2, h3 => by
    apply readLB_c1_vc
    have stop : BlksOut 235 Rb tx (l, st) (.slice (SO B4) l.length cap) (rH 235 Rb tx st :: (B4, .cells ⟨cs⟩ 149) :: F) :=
      ⟨some ⟨B4, 0, none⟩, cap, (B4, .cells ⟨cs⟩ 149) :: F, rfl, h1, rfl, h3.sl⟩
    match g with
    | 0 =>
      refine no (by omega) (dkFin ?_)
      simpa [rdMany] using stop
    | g + 1 =>
      refine yes (by omega) ⟨fun he => ?_, fun he => dkFin ?_⟩
      · refine CallH.oneF (readB_e hs hst) fun v L' ⟨p, c, F4, hv, hL, hi⟩ => ⟨_, F4, hL, _, _, _, _, _, _, p, _, c, _, _, _, _, F ++ F4, hv, rfl, fun B5 => ⟨⟨h1, h2⟩, by omega, fun B6 cap1 r5 q1 q2 => ?_⟩⟩
        rintro _ rfl
        have h3' : BRow (F ++ F4) cs l := h3.mono fun x hx => List.mem_append_left _ hx
        have hi' := hi.mono (lkF_mono (F' := F ++ F4) fun x hx => List.mem_append_right _ hx)
        have hrow := h3'.app h1 h2 hi' (rdBlk_fits hst) q1 q2
        rw [wi64 (by omega), show (l.length : Int) + 1 = ((l ++ [(rdBlk (bts tx) st).1]).length : Int) by simp]
        have := readLB_loop1 (Rb := Rb) hs hc (S := S) (w0 := w0) g (l ++ [(rdBlk (bts tx) st).1]) (rdBlk (bts tx) st).2 B6 cap1 _ (F ++ F4) (by simp; omega) (rdBlk_le hst) (by simpa using q1) q2 hrow
        rw [rdMany, if_pos he]
        have e : (l ++ [(rdBlk (bts tx) st).1]).length = l.length + 1 := by simp
        rw [e] at this
        simpa using this
      · rw [rdMany_err he]
        simpa using stop
theorem readLB_loop0 {Rb : Nat} {tx : BA} (hs : tx.size < 4611686018427387904) {count : Int} {st : RS} (hst : st.1 ≤ (bts tx).length) (hc : st.2 = 0 → count ≤ 24) :
  readLB_c0 Rb count 0 tx st.1 st.2 [] S w0 (fun e W' => ∃ v L', e = .returned v ∧ Mem L' S w0 W' ∧ BlksOut 235 Rb tx (rdMany (rdBlk (bts tx)) count.toNat st) v L') := by
 apply readLB_c0_vc
 have stop : BlksOut 235 Rb tx ([], st) (.slice none 0 0) [rH 235 Rb tx st] := ⟨none, 0, [], rfl, Nat.le_refl _, rfl, fun h => absurd h (by simp)⟩
 refine ⟨fun hlt => ⟨fun he => ?_, fun he => dkFin ?_⟩, fun hlt => dkFin ?_⟩
 ·refine CallH.oneF (readB_e hs hst) fun v L' ⟨p, c, F4, hv, hL, hi⟩ => ⟨_, F4, hL, _, _, _, _, _, _, p, _, c, _, _, _, _, F4, hv, rfl, fun B1 B2 cap r3 q1 q2 => ?_⟩
  rintro _ rfl
  obtain ⟨g, hg⟩ : ∃ g : Nat, count.toNat = g + 1 := ⟨count.toNat - 1, by omega⟩
  have hcc := hc he
  have hrow := BRow.one hi (rdBlk_fits hst) q1 q2
  have := readLB_loop1 (Rb := Rb) hs hcc (S := S) (w0 := w0) g [(rdBlk (bts tx) st).1] (rdBlk (bts tx) st).2 B2 cap _ F4 (by simp; omega) (rdBlk_le hst) q1 q2 hrow
  rw [hg, rdMany, if_pos he]
  exact this
 ·rw [rdMany_err he]; exact stop
 ·have : count.toNat = 0 := by omega
  rw [this]; exact stop
theorem readLB_e {Rb : Nat} {tx : BA} {st : RS} (hs : tx.size < 4611686018427387904) (h : st.1 ≤ (bts tx).length) :
  EffC TP 183 ⟨[.pointer (SO Rb), .int .i64 24, .func (.func 184) #[] #[]]⟩ [rH 235 Rb tx st] (BlksOut 235 Rb tx (rdList (rdBlk (bts tx)) (bts tx) 24 st)) := by
 intro W hm
 refine readLB_vc Rb 24 tx st.1 st.2 [] hm (CallH.one (readI_e hs h) ⟨_, _, _, rfl, rfl, ?_⟩)
 unfold rdList rdCount
 refine ⟨fun he => ⟨fun h1 => ?_, fun h1 => ⟨fun h2 => ?_, fun h2 => ?_⟩⟩, fun he => ?_⟩
 ·rw [if_pos ⟨he, .inl h1⟩]
  exact readLB_loop0 hs (st := ((rdI (bts tx) st).2.1, 30)) (rdI_le h) (fun h => absurd h (by simp))
 ·rw [if_pos ⟨he, .inr h2⟩]
  exact readLB_loop0 hs (st := ((rdI (bts tx) st).2.1, 30)) (rdI_le h) (fun h => absurd h (by simp))
 ·rw [if_neg (fun hh => by rcases hh.2 with h3 | h3 <;> omega)]
  exact readLB_loop0 hs (rdI_le h) (fun _ => by omega)
 ·rw [if_neg (fun hh => he hh.1)]
  exact readLB_loop0 hs (rdI_le h) (fun h => absurd h he)
def DecOut (r : List Blk × Int) (v : Value) (F : SHeap) : Prop := ∃ (p : OA) (c : Nat), v = .tuple #[.slice p r.1.length c, .int .i64 r.2] ∧ r.1.length ≤ c ∧ BlksL (lkF F) p r.1
theorem DecOut.nil {e : Int} {F : SHeap} : DecOut ([], e) (.tuple #[.slice none 0 0, .int .i64 e]) F := ⟨none, 0, rfl, Nat.le_refl _, fun h => absurd h (by simp)⟩
theorem decRun_le (s : List UInt8) : (decRun s).2.1 ≤ s.length ∧ (decRun s).1.length ≤ 24 := rdList_le (f := rdBlk s) (most := 24) (fun st => rdBlk_le) (Nat.zero_le _)
theorem decode_e (s : BA) (hs : s.size < 4611686018427387904) : EffC TP 170 ⟨[.string s]⟩ [] (DecOut (decSpec (bts s))) := by
 intro W hm
 refine decode_vc s (Mem.start [] W) fun B => ?_
 have hE : EffC TP 183 ⟨[.pointer (SO B), .int .i64 24, .func (.func 184) #[] #[]]⟩ [rH 235 B s (0, 0)] (BlksOut 235 B s (decRun (bts s))) := readLB_e (st := (0, 0)) hs (Nat.zero_le _)
 refine CallH.oneF hE fun v L' ⟨p, c, F, hv, hc, hL, hb⟩ => ⟨_, F, hL, p, _, c, _, _, F, hv, rfl, ?_⟩
 have hle := (decRun_le (bts s)).1
 have hl : (bts s).length = s.size := bts_len s
 have fin : ∀ r v, decSpec (bts s) = r → DecOut r v F → Fin (fun e W' => ∃ v L', e = .returned v ∧ Mem L' [] W W' ∧ DecOut (decSpec (bts s)) v L') (rH 235 B s (decRun (bts s)).2 :: F) [] W v := fun r v hr hd => by
  rw [hr]; exact dkSelT [_] [] rfl hd
 refine ⟨fun he => ?_, fun he => ⟨fun h1 => ?_, fun h1 => ?_⟩⟩
 ·exact fin _ _ (by rw [decSpec, if_pos he]) DecOut.nil
 ·exact fin _ _ (by rw [decSpec, if_neg (by omega), if_pos (show (decRun (bts s)).2.1 < (bts s).length from by have : ((decRun (bts s)).2.1 : Int) < (s.size : Int) := h1; omega)]) DecOut.nil
 ·have h1' : ¬ (decRun (bts s)).2.1 < (bts s).length := by have : ¬ ((decRun (bts s)).2.1 : Int) < (s.size : Int) := h1; omega
  refine CallH.pw (fun W' hm' => validL_c (hb.mono (lkF_W hm' fun x hx => List.mem_cons_of_mem _ hx)) hc) ⟨_, rfl, rfl, fun hok => ?_, fun hok => ?_⟩
  ·exact fin _ _ (by rw [decSpec, if_neg (by omega), if_neg h1', if_pos hok]) ⟨p, c, rfl, hc, hb⟩
  ·exact fin _ _ (by rw [decSpec, if_neg (by omega), if_neg h1', if_neg (by rw [hok]; simp)]) DecOut.nil
set_option maxRecDepth 100000
abbrev zF6aa (x0 : BA) (x1 : Int) : Array Value := #[.bool false, .string x0, IV x1, .pointer none, .slice none 0 0]
theorem cw0_vc (B : Nat) (s tx : BA) (ca : Int) (hm : Mem [(B, .cells (zF6aa tx ca) 105)] S w0 W)
 (H :
 (s.size ≤ 9223372036854775807 ∧ s.size * 1 ≤ 140737488355328) ∧ ((s.size = 0 →
 ∀ t4 : Int, t4 = (s.size : Int) →
 Fin R [(B, .cells #[.bool false, .string tx, IV ca, .pointer (some ⟨B, 3, none⟩), .slice none 0 0] 105)] S w0 (.tuple #[IV t4, .nilIface])) ∧
 (0 < s.size → ∀ (B1 cap : Nat) (r2 : List Value), s.size ≤ cap → ((bytesL s.data.toList) ++ r2).length = cap * 1 →
 ∀ t41 : Int, t41 = (s.size : Int) →
 Fin R [(B, .cells #[.bool false, .string tx, IV ca, .pointer (some ⟨B, 3, none⟩), .slice (SO B1) s.size cap] 105), (B1, .cells ⟨((bytesL s.data.toList) ++ r2)⟩ 5)] S w0 (.tuple #[IV t41, .nilIface])))) :
 Calls TP 109 ⟨[.pointer (some ⟨B, 3, none⟩), .string s]⟩ W R:= by
 refine AtE.cs 19 Tryz.func109 hm (.ru 8 (.il 150 [.pointer (some ⟨B, 3, none⟩)] 20 Tryz.func150 (.ru 5 (.ld 0 3 (.ru 6 (.ptrConv 0 (t := 103) (B := B) (off := 3) (c := ([.bool false, .string tx, IV ca, .pointer none, .slice none 0 0] : List Value)) (E := 105) (fz := (0, 0)) (sz := 1) (by kernel_rfl) (by simp) (.ru 1 (.ptrBack 0 (u := 103) (B := B) (off := 3) (n := 5) (c := ([.bool false, .string tx, IV ca, .pointer none, .slice none 0 0] : List Value)) (E := 105) (fz := (0, 0)) (by kernel_rfl) rfl (.ru 2 (.store 0 3 (T := 101) (v := .pointer (some ⟨B, 3, none⟩)) (by kernel_rfl) (.ru 1 (.rk Tryz.func150 (.ru 7 (.ld 0 4 (.ru 1 (.appendS (T := 47) (U := 9) (E := 5) (z := .int .u8 0) (sz := 1) (bytes := 1) (x := .string s) s.size (bytesL s.data.toList) (by kernel_rfl) (srcStr (by kernel_rfl) _) H.1 (fun h0 => ?_) (fun h0 B1 cap r2 h1 h2 => ?_)))))))))))))))))
 ·replace H := H.2.1 h0
  refine .ru 2 (.store 0 4 (T := 47) (v := .slice none 0 0) (by kernel_rfl) (.ru 6 (.lI 4 H fun t4 H => (.ru 2 (.rt Tryz.func109 H)))))
 ·skip
  replace H := H.2.2 h0 B1 cap r2 h1 h2
  refine .ru 2 (.store 0 4 (T := 47) (v := .slice (SO B1) s.size cap) (by kernel_rfl) (.ru 6 (.lI 4 H fun t41 H => (.ru 2 (.rt Tryz.func109 H)))))
theorem cw1_vc (B : Nat) (s tx : BA) (ca : Int) (hm : Mem [(B, .cells #[.bool false, .string tx, IV ca, .pointer (some ⟨B, 3, none⟩), .slice none 0 0] 105)] S w0 W)
 (H :
 (s.size ≤ 9223372036854775807 ∧ s.size * 1 ≤ 140737488355328) ∧ ((s.size = 0 →
 ∀ t4 : Int, t4 = (s.size : Int) →
 Fin R [(B, .cells #[.bool false, .string tx, IV ca, .pointer (some ⟨B, 3, none⟩), .slice none 0 0] 105)] S w0 (.tuple #[IV t4, .nilIface])) ∧
 (0 < s.size → ∀ (B1 cap : Nat) (r : List Value), s.size ≤ cap → ((bytesL s.data.toList) ++ r).length = cap * 1 →
 ∀ t41 : Int, t41 = (s.size : Int) →
 Fin R [(B, .cells #[.bool false, .string tx, IV ca, .pointer (some ⟨B, 3, none⟩), .slice (SO B1) s.size cap] 105), (B1, .cells ⟨((bytesL s.data.toList) ++ r)⟩ 5)] S w0 (.tuple #[IV t41, .nilIface])))) :
 Calls TP 109 ⟨[.pointer (some ⟨B, 3, none⟩), .string s]⟩ W R:= by
 refine AtE.cs 19 Tryz.func109 hm (.ru 8 (.il 150 [.pointer (some ⟨B, 3, none⟩)] 20 Tryz.func150 (.ru 5 (.ld 0 3 (.ru 8 (.ld 0 3 (.ru 1 (.neqSame (T := 101) (E := 103) (a := ⟨B, 3, none⟩) (by kernel_rfl) (.ru 3 (.rk Tryz.func150 (.ru 7 (.ld 0 4 (.ru 1 (.appendS (T := 47) (U := 9) (E := 5) (z := .int .u8 0) (sz := 1) (bytes := 1) (x := .string s) s.size (bytesL s.data.toList) (by kernel_rfl) (srcStr (by kernel_rfl) _) H.1 (fun h0 => ?_) (fun h0 B1 cap r h1 h2 => ?_)))))))))))))))
 ·replace H := H.2.1 h0
  refine .ru 2 (.store 0 4 (T := 47) (v := .slice none 0 0) (by kernel_rfl) (.ru 6 (.lI 4 H fun t4 H => (.ru 2 (.rt Tryz.func109 H)))))
 ·skip
  replace H := H.2.2 h0 B1 cap r h1 h2
  refine .ru 2 (.store 0 4 (T := 47) (v := .slice (SO B1) s.size cap) (by kernel_rfl) (.ru 6 (.lI 4 H fun t41 H => (.ru 2 (.rt Tryz.func109 H)))))
theorem cw2_vc (B : Nat) (s tx : BA) (ca : Int) (Q n cap : Nat) (cs : List Value) (hm : Mem [(B, .cells #[.bool false, .string tx, IV ca, .pointer (some ⟨B, 3, none⟩), .slice (SO Q) n (cap + 1)] 105), (Q, .cells ⟨cs⟩ 5)] S w0 W)
 (H :
 (n ≤ (cap + 1) ∧ (cs).length = (cap + 1) * 1) ∧ ((n + s.size) ≤ 9223372036854775807 ∧ (n + s.size) * 1 ≤ 140737488355328) ∧
 ∀ (B1 cap1 : Nat) (r : List Value), (n + s.size) ≤ cap1 → ((cs).take (n * 1) ++ (bytesL s.data.toList) ++ r).length = cap1 * 1 →
 ∀ t4 : Int, t4 = (s.size : Int) →
 Fin R [(B, .cells #[.bool false, .string tx, IV ca, .pointer (some ⟨B, 3, none⟩), .slice (SO B1) (n + s.size) cap1] 105), (B1, .cells ⟨((cs).take (n * 1) ++ (bytesL s.data.toList) ++ r)⟩ 5)] S w0 (.tuple #[IV t4, .nilIface])) :
 Calls TP 109 ⟨[.pointer (some ⟨B, 3, none⟩), .string s]⟩ W R:= by
 refine AtE.cs 19 Tryz.func109 hm (.ru 8 (.il 150 [.pointer (some ⟨B, 3, none⟩)] 20 Tryz.func150 (.ru 5 (.ld 0 3 (.ru 8 (.ld 0 3 (.ru 1 (.neqSame (T := 101) (E := 103) (a := ⟨B, 3, none⟩) (by kernel_rfl) (.ru 3 (.rk Tryz.func150 (.ru 7 (.ld 0 4 (.ru 1 (.appendOS 1 (T := 47) (U := 9) (E := 5) (z := .int .u8 0) (sz := 1) (bytes := 1) (len := n) (cap := (cap + 1)) (x := .string s) (cs := cs) s.size (bytesL s.data.toList) (by kernel_rfl) (srcStr (by kernel_rfl) _) H.1 H.2.1 (fun B1 cap1 r h1 h2 => ?_)))))))))))))))
 replace H := H.2.2 B1 cap1 r h1 h2
 refine .ru 2 (.store 0 4 (T := 47) (v := .slice (SO B1) (n + s.size) cap1) (by kernel_rfl) (.ru 6 (.lI 4 H fun t4 H => (.ru 2 (.rt Tryz.func109 H)))))
theorem cs0_vc (B : Nat) (tx : BA) (ca : Int) (hm : Mem [(B, .cells (zF6aa tx ca) 105)] S w0 W)
 (H :
 Fin R [(B, .cells (zF6aa tx ca) 105)] S w0 (.string (⟨#[]⟩))) :
 Calls TP 60 ⟨[.pointer (some ⟨B, 3, none⟩)]⟩ W R:= by
 refine AtE.cs 14 Tryz.func60 hm (.ru 5 (.nm (KC Tryz.f60 6) [(0, .pointer (some ⟨B, 3, none⟩))] [(B, .cells (zF6aa tx ca) 105)] (.dr 10 (.pu (.pu (.pu (.ld 0 4 (.pu (.pu (.pu (.pu (.ld 0 4 (.pu (.dn (.ru 3 (.rt Tryz.func60 H))))))))))))))))
theorem cs1_vc (B : Nat) (tx : BA) (ca : Int) (hm : Mem [(B, .cells #[.bool false, .string tx, IV ca, .pointer (some ⟨B, 3, none⟩), .slice none 0 0] 105)] S w0 W)
 (H :
 Fin R [(B, .cells #[.bool false, .string tx, IV ca, .pointer (some ⟨B, 3, none⟩), .slice none 0 0] 105)] S w0 (.string (⟨#[]⟩))) :
 Calls TP 60 ⟨[.pointer (some ⟨B, 3, none⟩)]⟩ W R:= by
 refine AtE.cs 14 Tryz.func60 hm (.ru 5 (.nm (KC Tryz.f60 6) [(0, .pointer (some ⟨B, 3, none⟩))] [(B, .cells #[.bool false, .string tx, IV ca, .pointer (some ⟨B, 3, none⟩), .slice none 0 0] 105)] (.dr 10 (.pu (.pu (.pu (.ld 0 4 (.pu (.pu (.pu (.pu (.ld 0 4 (.pu (.dn (.ru 3 (.rt Tryz.func60 H))))))))))))))))
theorem cs2_vc (B : Nat) (tx : BA) (ca : Int) (Q n cap : Nat) (cs : List Value) (hm : Mem [(B, .cells #[.bool false, .string tx, IV ca, .pointer (some ⟨B, 3, none⟩), .slice (SO Q) n (cap + 1)] 105), (Q, .cells ⟨cs⟩ 5)] S w0 W)
 (H :
 ∃ bs : List UInt8, ((cs).take n = bytesL bs ∧ bs.length = n ∧ 0 < n ∧ n ≤ 9223372036854775807) ∧
 ∀ t2 : BA, t2 = ⟨bs.toArray⟩ →
 Fin R [(B, .cells #[.bool false, .string tx, IV ca, .pointer (some ⟨B, 3, none⟩), .slice (SO Q) n (cap + 1)] 105)] S w0 (.string t2)) :
 Calls TP 60 ⟨[.pointer (some ⟨B, 3, none⟩)]⟩ W R:= by
 refine AtE.cs 14 Tryz.func60 hm (.ru 5 (.nm (KC Tryz.f60 6) [(0, .pointer (some ⟨B, 3, none⟩))] [(B, .cells #[.bool false, .string tx, IV ca, .pointer (some ⟨B, 3, none⟩), .slice (SO Q) n (cap + 1)] 105), (Q, .cells ⟨cs⟩ 5)] (.dr 10 (.pu (.pu (.pu (.ld 0 4 (.pu (.pu (.pu (.pu (.ld 0 4 (.pu (.dn ?_))))))))))))))
 obtain ⟨bs, hb, H⟩ := H
 refine .unsafeStr 1 (B := Q) (E := 5) (pt := 158) (it := 3) (n := n) (c := cs) (l := bs) (by kernel_rfl) hb (.ru 1 (.letS 2 (n := ⟨bs.toArray⟩) (by kernel_rfl) (fun t2 ht2 => ?_)))
 replace H := H t2 ht2
 refine .ru 1 (.rt Tryz.func60 H)
set_option maxRecDepth 100000
theorem wNum_vc (B NB no : Nat) (tx : BA) (ca : Int) (cp : Value) (cb : Value) (F : SHeap) (hm : Mem ((B, .cells #[.bool false, .string tx, IV ca, cp, cb] 105) :: F) S w0 W)
 (H :
 ∃ (cw : List Value) (m1 : Int), NB ∉ S ∧ blkW w0 NB = some cw ∧ cw[no]? = some (IV m1) ∧
 CallH TP 48 ⟨[IV m1]⟩ ((B, .cells #[.bool false, .string tx, IV ca, cp, cb] 105) :: F) S w0 (fun v L' => ∃ r1 r21, v = (.tuple #[.string r1, IV r21]) ∧ L' = ((B, .cells #[.bool false, .string tx, IV ca, cp, cb] 105) :: F) ∧
 CallH TP 109 ⟨[.pointer (some ⟨B, 3, none⟩), .string r1]⟩ ((B, .cells #[.bool false, .string tx, IV ca, cp, cb] 105) :: F) S w0 (fun v L' => ∃ r31, ∃ (r41 : Value) (cp1 : Value) (cb1 : Value), ∃ F1, v = (.tuple #[IV r31, r41]) ∧ L' = ((B, .cells #[.bool false, .string tx, IV ca, cp1, cb1] 105) :: F1) ∧
 Fin R ((B, .cells #[.bool false, .string tx, IV ca, cp1, cb1] 105) :: F1) S w0 (.tuple #[])))) :
 Calls TP 98 ⟨[PP B, .pointer (some ⟨NB, no, none⟩)]⟩ W R:= by
 refine AtE.cs 49 Tryz.func98 hm (.ru 6 (.ld 0 0 (.ru 7 ?_)))
 obtain ⟨cw, m1, hs, hw, hx, H⟩ := H
 refine .loadW (b := NB) (off := no) (T := 3) (v := IV m1) (by kernel_rfl) hs hw (valAt_one hx (by kernel_rfl)) (.cl H ?_)
 rintro _ _ ⟨r1, r21, rfl, rfl, H⟩
 refine .ru 12 (.cl H ?_)
 rintro _ _ ⟨r31, r41, cp1, cb1, F1, rfl, rfl, H⟩
 refine .ru 1 (.rt Tryz.func98 H)
theorem wWord_vc (B NB no : Nat) (tx : BA) (ca : Int) (cp : Value) (cb : Value) (F : SHeap) (hm : Mem ((B, .cells #[.bool false, .string tx, IV ca, cp, cb] 105) :: F) S w0 W)
 (H :
 ∃ (cw : List Value) (m1 : BA), NB ∉ S ∧ blkW w0 NB = some cw ∧ cw[no]? = some (.string m1) ∧
 CallH TP 91 ⟨[.string m1]⟩ ((B, .cells #[.bool false, .string tx, IV ca, cp, cb] 105) :: F) S w0 (fun v L' => ∃ r1 r21, v = (.tuple #[.string r1, IV r21]) ∧ L' = ((B, .cells #[.bool false, .string tx, IV ca, cp, cb] 105) :: F) ∧
 CallH TP 109 ⟨[.pointer (some ⟨B, 3, none⟩), .string r1]⟩ ((B, .cells #[.bool false, .string tx, IV ca, cp, cb] 105) :: F) S w0 (fun v L' => ∃ r31, ∃ (r41 : Value) (cp1 : Value) (cb1 : Value), ∃ F1, v = (.tuple #[IV r31, r41]) ∧ L' = ((B, .cells #[.bool false, .string tx, IV ca, cp1, cb1] 105) :: F1) ∧
 Fin R ((B, .cells #[.bool false, .string tx, IV ca, cp1, cb1] 105) :: F1) S w0 (.tuple #[])))) :
 Calls TP 133 ⟨[PP B, .pointer (some ⟨NB, no, none⟩)]⟩ W R:= by
 refine AtE.cs 49 Tryz.func133 hm (.ru 6 (.ld 0 0 (.ru 7 ?_)))
 obtain ⟨cw, m1, hs, hw, hx, H⟩ := H
 refine .loadW (b := NB) (off := no) (T := 9) (v := .string m1) (by kernel_rfl) hs hw (valAt_one hx (by kernel_rfl)) (.cl H ?_)
 rintro _ _ ⟨r1, r21, rfl, rfl, H⟩
 refine .ru 12 (.cl H ?_)
 rintro _ _ ⟨r31, r41, cp1, cb1, F1, rfl, rfl, H⟩
 refine .ru 1 (.rt Tryz.func133 H)
theorem wCount_vc (B : Nat) (size most : Int) (tx : BA) (ca : Int) (cp : Value) (cb : Value) (F : SHeap) (hm : Mem ((B, .cells #[.bool false, .string tx, IV ca, cp, cb] 105) :: F) S w0 W)
 (H :
 ∀ B1 : Nat,
 CallH TP 98 ⟨[PP B, PP B1]⟩ ((B1, .cells #[IV size] 3) :: (B, .cells #[.bool false, .string tx, IV ca, cp, cb] 105) :: F) S w0 (fun v L' => ∃ (cp1 : Value) (cb1 : Value), ∃ F1, v = .tuple #[] ∧ L' = ((B1, .cells #[IV size] 3) :: (B, .cells #[.bool false, .string tx, IV ca, cp1, cb1] 105) :: F1) ∧
 Fin R ((B1, .cells #[IV size] 3) :: (B, .cells #[.bool false, .string tx, IV ca, cp1, cb1] 105) :: F1) S w0 (IV size))) :
 Calls TP 168 ⟨[PP B, IV size, IV most]⟩ W R:= by
 refine AtE.cs 21 Tryz.func168 hm (.ru 2 (.nH (.cells #[IV size] 3) H fun B1 H => (.front (.ru 5 (.cl H ?_)))))
 rintro _ _ ⟨cp1, cb1, F1, rfl, rfl, H⟩
 refine .ru 7 (.ld 1 0 (.ru 11 (.ld 0 0 (.ru 2 (.rt Tryz.func168 H)))))
def wTopics_c0 (B1 l_b : Nat) (t23 t24 : Int) (m0 : Bool) (m11 : BA) (m22 : Int) (m3 : Value) (m4 : Value) (F2 : SHeap) (S : List Nat) (w0 : World) (R : Ending → World → Prop) : Prop :=
 AtE TP 135 35 (KC Tryz.f135 60) [(0, PP B1), (1, .pointer (some ⟨l_b, 9, none⟩)), (23, IV t23), (24, IV t24)] ((B1, .cells #[.bool m0, .string m11, IV m22, m3, m4] 105) :: F2) S w0 (nrm R)
theorem wTopics_c0_vc (B1 l_b : Nat) (t23 t24 : Int) (m0 : Bool) (m11 : BA) (m22 : Int) (m3 : Value) (m4 : Value) (F2 : SHeap)
 (H :
 Br (t24 < t23)
 (∃ (cw2 : List Value) (m51_p : OA) (m51_l : Nat) (m51_c : Nat), l_b ∉ S ∧ blkW w0 l_b = some cw2 ∧ cw2[9]? = some (.slice m51_p m51_l m51_c) ∧
 ∃ m51_pb m51_po : Nat, m51_p = some ⟨m51_pb, m51_po, none⟩ ∧
 (0 ≤ t24 ∧ t24 < m51_l) ∧
 CallH TP 133 ⟨[PP B1, .pointer (some ⟨m51_pb, (m51_po + (Int.toNat t24)), none⟩)]⟩ ((B1, .cells #[.bool m0, .string m11, IV m22, m3, m4] 105) :: F2) S w0 (fun v L' => ∃ (cp2 : Value) (cb2 : Value), ∃ F3, v = .tuple #[] ∧ L' = ((B1, .cells #[.bool m0, .string m11, IV m22, cp2, cb2] 105) :: F3) ∧
 wTopics_c0 B1 l_b t23 (IntKind.i64.wrap (t24 + (1 : Int))) m0 m11 m22 cp2 cb2 F3 S w0 R))
 (Fin R ((B1, .cells #[.bool m0, .string m11, IV m22, m3, m4] 105) :: F2) S w0 (.tuple #[]))) :
 wTopics_c0 B1 l_b t23 t24 m0 m11 m22 m3 m4 F2 S w0 R:= by
 unfold wTopics_c0
 refine .ru 5 (.sP 25 H ?_ ?_) <;> clear H <;> intro H
 ·refine .ru 13 ?_
  obtain ⟨cw2, m51_p, m51_l, m51_c, hs, hw, hx, H⟩ := H
  refine .loadW (b := l_b) (off := 9) (T := 32) (v := .slice m51_p m51_l m51_c) (by kernel_rfl) hs hw (valAt_one hx (by kernel_rfl)) (.ru 1 ?_)
  obtain ⟨m51_pb, m51_po, rfl, H⟩ := H
  refine .indexAddrL (E := 9) (b := m51_pb) (o := m51_po) (len := m51_l) (cap := m51_c) (sz := 1) (o' := (m51_po + (Int.toNat t24))) (kd := .i64) (i := t24) (by kernel_rfl) H.1 (by omega) ?_
  replace H := H.2
  refine .cl H ?_
  clear H
  rintro _ _ ⟨cp2, cb2, F3, rfl, rfl, H⟩
  refine .ru 7 (.tT [0] 1 H)
 ·refine .ru 2 (.rt Tryz.func135 H)
theorem wTopics_vc (B FB : Nat) (tx : BA) (ca : Int) (cp : Value) (cb : Value) (F : SHeap) (hm : Mem ((B, .cells #[.bool false, .string tx, IV ca, cp, cb] 105) :: F) S w0 W)
 (H :
 ∃ (cw : List Value) (m1_p : OA) (m1_l : Nat) (m1_c : Nat), FB ∉ S ∧ blkW w0 FB = some cw ∧ cw[9]? = some (.slice m1_p m1_l m1_c) ∧
 CallH TP 168 ⟨[PP B, IV (m1_l : Int), IV 4]⟩ ((B, .cells #[.bool false, .string tx, IV ca, cp, cb] 105) :: F) S w0 (fun v L' => ∃ r1, ∃ (cp1 : Value) (cb1 : Value), ∃ F1, v = IV r1 ∧ L' = ((B, .cells #[.bool false, .string tx, IV ca, cp1, cb1] 105) :: F1) ∧
 ∃ (cw1 : List Value) (m21_p : OA) (m21_l : Nat) (m21_c : Nat), FB ∉ S ∧ blkW w0 FB = some cw1 ∧ cw1[9]? = some (.slice m21_p m21_l m21_c) ∧
 wTopics_c0 B FB (m21_l : Int) (0 : Int) false tx ca cp1 cb1 F1 S w0 R)) :
 Calls TP 135 ⟨[PP B, .pointer (some ⟨FB, 9, none⟩)]⟩ W R:= by
 refine AtE.cs 35 Tryz.func135 hm (.ru 5 ?_)
 obtain ⟨cw, m1_p, m1_l, m1_c, hs, hw, hx, H⟩ := H
 refine .loadW (b := FB) (off := 9) (T := 32) (v := .slice m1_p m1_l m1_c) (by kernel_rfl) hs hw (valAt_one hx (by kernel_rfl)) (.ru 1 (.cl H ?_))
 rintro _ _ ⟨r1, cp1, cb1, F1, rfl, rfl, H⟩
 refine .ru 8 (.ld 0 0 (.ru 7 ?_))
 obtain ⟨cw1, m21_p, m21_l, m21_c, hs, hw, hx, H⟩ := H
 refine .loadW (b := FB) (off := 9) (T := 32) (v := .slice m21_p m21_l m21_c) (by kernel_rfl) hs hw (valAt_one hx (by kernel_rfl)) (.ru 5 (.tT [0] 1 H))
theorem wBlocks_vc (B FB : Nat) (tx : BA) (ca : Int) (cp : Value) (cb : Value) (F : SHeap) (hm : Mem ((B, .cells #[.bool false, .string tx, IV ca, cp, cb] 105) :: F) S w0 W)
 (H :
 ∀ B1 : Nat,
 ∃ (cw : List Value) (m1_p : OA) (m1_l : Nat) (m1_c : Nat), FB ∉ S ∧ blkW w0 FB = some cw ∧ cw[10]? = some (.slice m1_p m1_l m1_c) ∧
 CallH TP 169 ⟨[.slice m1_p m1_l m1_c]⟩ ((B1, .cells #[.string (⟨#[]⟩)] 9) :: (B, .cells #[.bool false, .string tx, IV ca, cp, cb] 105) :: F) S w0 (fun v L' => ∃ r1 r21, v = (.tuple #[.string r1, IV r21]) ∧ L' = ((B1, .cells #[.string (⟨#[]⟩)] 9) :: (B, .cells #[.bool false, .string tx, IV ca, cp, cb] 105) :: F) ∧
 CallH TP 133 ⟨[PP B, PP B1]⟩ ((B1, .cells #[.string r1] 9) :: (B, .cells #[.bool false, .string tx, IV ca, cp, cb] 105) :: F) S w0 (fun v L' => ∃ (cp1 : Value) (cb1 : Value), ∃ F1, v = .tuple #[] ∧ L' = ((B1, .cells #[.string r1] 9) :: (B, .cells #[.bool false, .string tx, IV ca, cp1, cb1] 105) :: F1) ∧
 Fin R ((B1, .cells #[.string r1] 9) :: (B, .cells #[.bool false, .string tx, IV ca, cp1, cb1] 105) :: F1) S w0 (.tuple #[])))) :
 Calls TP 137 ⟨[PP B, .pointer (some ⟨FB, 10, none⟩)]⟩ W R:= by
 refine AtE.cs 36 Tryz.func137 hm (.ru 2 (.nH (.cells #[.string (⟨#[]⟩)] 9) H fun B1 H => (.front (.st 0 0 (.ru 7 (.ld 1 0 (.ru 6 ?_)))))))
 obtain ⟨cw, m1_p, m1_l, m1_c, hs, hw, hx, H⟩ := H
 refine .loadW (b := FB) (off := 10) (T := 33) (v := .slice m1_p m1_l m1_c) (by kernel_rfl) hs hw (valAt_one hx (by kernel_rfl)) (.cl H ?_)
 rintro _ _ ⟨r1, r21, rfl, rfl, H⟩
 refine .ru 3 (.st 0 0 (.ru 4 (.cl H ?_)))
 rintro _ _ ⟨cp1, cb1, F1, rfl, rfl, H⟩
 refine .ru 6 (.ld 1 0 (.ru 3 (.rt Tryz.func137 H)))
set_option maxRecDepth 100000
def wLabel_c0 (B1 l_b : Nat) (t31 t32 : Int) (m0 : Bool) (m11 : BA) (m22 : Int) (m3 : Value) (m4 : Value) (F3 : SHeap) (S : List Nat) (w0 : World) (R : Ending → World → Prop) : Prop :=
 AtE TP 139 54 (KC Tryz.f139 244) [(0, PP B1), (1, .pointer (some ⟨l_b, 11, none⟩)), (31, IV t31), (32, IV t32)] ((B1, .cells #[.bool m0, .string m11, IV m22, m3, m4] 105) :: F3) S w0 (nrm R)
theorem wLabel_c0_vc (B1 l_b : Nat) (t31 t32 : Int) (m0 : Bool) (m11 : BA) (m22 : Int) (m3 : Value) (m4 : Value) (F3 : SHeap)
 (H :
 Br (t32 < t31)
 (∃ (cw2 : List Value) (m51_p : OA) (m51_l : Nat) (m51_c : Nat), l_b ∉ S ∧ blkW w0 l_b = some cw2 ∧ cw2[12]? = some (.slice m51_p m51_l m51_c) ∧
 ∃ m51_pb m51_po : Nat, m51_p = some ⟨m51_pb, m51_po, none⟩ ∧
 (0 ≤ t32 ∧ t32 < m51_l) ∧
 CallH TP 98 ⟨[PP B1, .pointer (some ⟨m51_pb, (m51_po + (Int.toNat t32)), none⟩)]⟩ ((B1, .cells #[.bool m0, .string m11, IV m22, m3, m4] 105) :: F3) S w0 (fun v L' => ∃ (cp3 : Value) (cb3 : Value), ∃ F4, v = .tuple #[] ∧ L' = ((B1, .cells #[.bool m0, .string m11, IV m22, cp3, cb3] 105) :: F4) ∧
 wLabel_c0 B1 l_b t31 (IntKind.i64.wrap (t32 + (1 : Int))) m0 m11 m22 cp3 cb3 F4 S w0 R))
 (CallH TP 98 ⟨[PP B1, .pointer (some ⟨l_b, 13, none⟩)]⟩ ((B1, .cells #[.bool m0, .string m11, IV m22, m3, m4] 105) :: F3) S w0 (fun v L' => ∃ (cp4 : Value) (cb4 : Value), ∃ F5, v = .tuple #[] ∧ L' = ((B1, .cells #[.bool m0, .string m11, IV m22, cp4, cb4] 105) :: F5) ∧
 CallH TP 98 ⟨[PP B1, .pointer (some ⟨l_b, 14, none⟩)]⟩ ((B1, .cells #[.bool m0, .string m11, IV m22, cp4, cb4] 105) :: F5) S w0 (fun v L' => ∃ (cp5 : Value) (cb5 : Value), ∃ F6, v = .tuple #[] ∧ L' = ((B1, .cells #[.bool m0, .string m11, IV m22, cp5, cb5] 105) :: F6) ∧
 Fin R ((B1, .cells #[.bool m0, .string m11, IV m22, cp5, cb5] 105) :: F6) S w0 (.tuple #[]))))) :
 wLabel_c0 B1 l_b t31 t32 m0 m11 m22 m3 m4 F3 S w0 R:= by
 unfold wLabel_c0
 refine .ru 5 (.sP 33 H ?_ ?_) <;> clear H <;> intro H
 ·refine .ru 14 ?_
  obtain ⟨cw2, m51_p, m51_l, m51_c, hs, hw, hx, H⟩ := H
  refine .loadW (b := l_b) (off := 12) (T := 34) (v := .slice m51_p m51_l m51_c) (by kernel_rfl) hs hw (valAt_one hx (by kernel_rfl)) (.ru 1 ?_)
  obtain ⟨m51_pb, m51_po, rfl, H⟩ := H
  refine .indexAddrL (E := 3) (b := m51_pb) (o := m51_po) (len := m51_l) (cap := m51_c) (sz := 1) (o' := (m51_po + (Int.toNat t32))) (kd := .i64) (i := t32) (by kernel_rfl) H.1 (by omega) ?_
  replace H := H.2
  refine .cl H ?_
  clear H
  rintro _ _ ⟨cp3, cb3, F4, rfl, rfl, H⟩
  refine .ru 7 (.tT [0] 1 H)
 ·refine .ru 8 (.cl H ?_)
  clear H
  rintro _ _ ⟨cp4, cb4, F5, rfl, rfl, H⟩
  refine .ru 6 (.cl H ?_)
  clear H
  rintro _ _ ⟨cp5, cb5, F6, rfl, rfl, H⟩
  refine .ru 1 (.rt Tryz.func139 H)
theorem wLabel_vc (B FB : Nat) (tx : BA) (ca : Int) (cp : Value) (cb : Value) (F : SHeap) (hm : Mem ((B, .cells #[.bool false, .string tx, IV ca, cp, cb] 105) :: F) S w0 W)
 (H :
 CallH TP 98 ⟨[PP B, .pointer (some ⟨FB, 11, none⟩)]⟩ ((B, .cells #[.bool false, .string tx, IV ca, cp, cb] 105) :: F) S w0 (fun v L' => ∃ (cp1 : Value) (cb1 : Value), ∃ F1, v = .tuple #[] ∧ L' = ((B, .cells #[.bool false, .string tx, IV ca, cp1, cb1] 105) :: F1) ∧
 ∃ (cw : List Value) (m1_p : OA) (m1_l : Nat) (m1_c : Nat), FB ∉ S ∧ blkW w0 FB = some cw ∧ cw[12]? = some (.slice m1_p m1_l m1_c) ∧
 CallH TP 168 ⟨[PP B, IV (m1_l : Int), IV 64]⟩ ((B, .cells #[.bool false, .string tx, IV ca, cp1, cb1] 105) :: F1) S w0 (fun v L' => ∃ r1, ∃ (cp2 : Value) (cb2 : Value), ∃ F2, v = IV r1 ∧ L' = ((B, .cells #[.bool false, .string tx, IV ca, cp2, cb2] 105) :: F2) ∧
 ∃ (cw1 : List Value) (m21_p : OA) (m21_l : Nat) (m21_c : Nat), FB ∉ S ∧ blkW w0 FB = some cw1 ∧ cw1[12]? = some (.slice m21_p m21_l m21_c) ∧
 wLabel_c0 B FB (m21_l : Int) (0 : Int) false tx ca cp2 cb2 F2 S w0 R))) :
 Calls TP 139 ⟨[PP B, .pointer (some ⟨FB, 11, none⟩)]⟩ W R:= by
 refine AtE.cs 54 Tryz.func139 hm (.ru 6 (.cl H ?_))
 rintro _ _ ⟨cp1, cb1, F1, rfl, rfl, H⟩
 refine .ru 7 ?_
 obtain ⟨cw, m1_p, m1_l, m1_c, hs, hw, hx, H⟩ := H
 refine .loadW (b := FB) (off := 12) (T := 34) (v := .slice m1_p m1_l m1_c) (by kernel_rfl) hs hw (valAt_one hx (by kernel_rfl)) (.ru 1 (.cl H ?_))
 rintro _ _ ⟨r1, cp2, cb2, F2, rfl, rfl, H⟩
 refine .ru 8 (.ld 0 0 (.ru 9 ?_))
 obtain ⟨cw1, m21_p, m21_l, m21_c, hs, hw, hx, H⟩ := H
 refine .loadW (b := FB) (off := 12) (T := 34) (v := .slice m21_p m21_l m21_c) (by kernel_rfl) hs hw (valAt_one hx (by kernel_rfl)) (.ru 5 (.tT [0] 1 H))
theorem lkX_old {L F : SHeap} (hm : Mem L S w0 W) (hF : ∀ x ∈ F, x ∈ L) : ∀ b c, lkX S w0 b c → lkX (F.map (·.1)) W b c := by
 rintro b c ⟨h1, h2⟩
 refine ⟨fun hb => ?_, blkW_kept hm.kept h1 h2⟩
 obtain ⟨q, hq, rfl⟩ := List.mem_map.1 hb
 rcases hm.own q (hF q hq) with h | h
 ·unfold blkW at h2
  rw [Array.getElem?_eq_none h] at h2
  cases h2
 ·exact h1 h
theorem lkX_in {told F : SHeap} (hm : Mem (told ++ F) S w0 W) {b : Nat} {c : List Value} {t : TypeId} {fz : Nat × Nat} (h : (b, Obj.cells ⟨c⟩ t fz) ∈ told) : lkX (F.map (·.1)) W b c := by
 refine ⟨fun hb => ?_, ?_⟩
 ·have hnd := hm.nodup
  rw [List.map_append, List.nodup_append] at hnd
  exact hnd.2.2 b (List.mem_map_of_mem h) b hb rfl
 ·have := hm.here _ (List.mem_append_left F h)
  simp only at this
  simp [blkW, this]
theorem CallH.effW0 {F : SHeap} {Pre : World → Prop} (h : EffW P g args F Pre K) (hpre : ∀ W, Mem F S w0 W → Pre W) (hK : ∀ v F', K v F' → K' v F') : CallH P g args F S w0 K' :=
 CallH.effW (L1 := []) h hpre (by simp) fun v L' hk => ⟨L', by simp, hK v L' hk⟩
abbrev DK (K : Value → SHeap → Prop) (S : List Nat) (w0 : World) : Ending → World → Prop := fun e W' => ∃ v L', e = .returned v ∧ Mem L' S w0 W' ∧ K v L'
abbrev kH (B : Nat) (p v : Value) : Nat × Obj := (B, .cells #[.bool false, .string ⟨#[]⟩, .int .i64 0, p, v] 105)
def KRep (B : Nat) (s : List UInt8) (p v : Value) (G : SHeap) : Prop :=
 (s = [] ∧ p = .pointer none ∧ v = .slice none 0 0 ∧ G = []) ∨ (s = [] ∧ p = .pointer (some ⟨B, 3, none⟩) ∧ v = .slice none 0 0 ∧ G = []) ∨
 ∃ (Q cap : Nat) (cs : List Value), 0 < s.length ∧ s.length ≤ cap + 1 ∧ cs.length = (cap + 1) * 1 ∧ cs.take s.length = bytesL s ∧
  p = .pointer (some ⟨B, 3, none⟩) ∧ v = .slice (SO Q) s.length (cap + 1) ∧ G = [(Q, .cells ⟨cs⟩ 5)]
def KOut (B : Nat) (s : List UInt8) (u : Value) (v : Value) (L' : SHeap) : Prop := ∃ p' v' G', v = u ∧ L' = kH B p' v' :: G' ∧ KRep B s p' v' G'
theorem KRep.new (B : Nat) : KRep B [] (.pointer none) (.slice none 0 0) [] := .inl ⟨rfl, rfl, rfl, rfl⟩
theorem KRep.row {B Q cap : Nat} {s : List UInt8} {cs : List Value} (h0 : 0 < s.length) (h1 : s.length ≤ cap) (h2 : cs.length = cap * 1) (h3 : cs.take s.length = bytesL s) :
  KRep B s (.pointer (some ⟨B, 3, none⟩)) (.slice (SO Q) s.length cap) [(Q, .cells ⟨cs⟩ 5)] := by
 obtain ⟨c, rfl⟩ : ∃ c, cap = c + 1 := ⟨cap - 1, by omega⟩
 exact .inr (.inr ⟨Q, c, cs, h0, h1, h2, h3, rfl, rfl, rfl⟩)
theorem kwrite_e {B : Nat} {l : List UInt8} {s : BA} {p v : Value} {G : SHeap} (h : KRep B l p v G) (hb : l.length + s.size ≤ 140737488355328) :
  EffC TP 109 ⟨[.pointer (some ⟨B, 3, none⟩), .string s]⟩ (kH B p v :: G) (KOut B (l ++ bts s) (.tuple #[.int .i64 (s.size : Int), .nilIface])) := by
 intro W hm
 have hbl : (bts s).length = s.size := bts_len s
 rcases h with ⟨rfl, rfl, rfl, rfl⟩ | ⟨rfl, rfl, rfl, rfl⟩ | ⟨Q, cap, cs, h0, h1, h2, h3, rfl, rfl, rfl⟩
 ·simp only [List.length_nil, Nat.zero_add] at hb
  refine cw0_vc B s ⟨#[]⟩ 0 hm ⟨by omega, fun hz => ?_, fun hp B1 cap r h1 h2 => ?_⟩
  ·rintro _ rfl
   exact dkFin ⟨_, _, _, rfl, rfl, .inr (.inl ⟨by rw [List.nil_append]; exact List.length_eq_zero_iff.1 (by omega), rfl, rfl, rfl⟩)⟩
  ·rintro _ rfl
   refine dkFin ⟨_, _, _, rfl, rfl, ?_⟩
   rw [List.nil_append, ← hbl]
   exact KRep.row (by omega) (by omega) h2 (take_bytes _ _)
 ·simp only [List.length_nil, Nat.zero_add] at hb
  refine cw1_vc B s ⟨#[]⟩ 0 hm ⟨by omega, fun hz => ?_, fun hp B1 cap r h1 h2 => ?_⟩
  ·rintro _ rfl
   exact dkFin ⟨_, _, _, rfl, rfl, .inr (.inl ⟨by rw [List.nil_append]; exact List.length_eq_zero_iff.1 (by omega), rfl, rfl, rfl⟩)⟩
  ·rintro _ rfl
   refine dkFin ⟨_, _, _, rfl, rfl, ?_⟩
   rw [List.nil_append, ← hbl]
   exact KRep.row (by omega) (by omega) h2 (take_bytes _ _)
 ·refine cw2_vc B s ⟨#[]⟩ 0 Q l.length cap cs hm ⟨⟨h1, h2⟩, by omega, fun B1 cap1 r q1 q2 => ?_⟩
  rintro _ rfl
  refine dkFin ⟨_, _, _, rfl, rfl, ?_⟩
  rw [Nat.mul_one, h3, ← bytesL_app] at q2 ⊢
  have e : l.length + s.size = (l ++ bts s).length := by rw [List.length_append, hbl]
  rw [e] at q1 ⊢
  exact KRep.row (by omega) q1 q2 (take_bytes _ _)
theorem kstring_e {B : Nat} {l : List UInt8} {p v : Value} {G : SHeap} (h : KRep B l p v G) (hb : l.length ≤ 9223372036854775807) : EffC TP 60 ⟨[.pointer (some ⟨B, 3, none⟩)]⟩ (kH B p v :: G) (fun u F' => u = .string (ba l)) := by
 intro W hm
 rcases h with ⟨rfl, rfl, rfl, rfl⟩ | ⟨rfl, rfl, rfl, rfl⟩ | ⟨Q, cap, cs, h0, h1, h2, h3, rfl, rfl, rfl⟩
 ·exact cs0_vc B ⟨#[]⟩ 0 hm (dkFin rfl)
 ·exact cs1_vc B ⟨#[]⟩ 0 hm (dkFin rfl)
 ·refine cs2_vc B ⟨#[]⟩ 0 Q l.length cap cs hm ⟨l, ⟨h3, rfl, h0, hb⟩, ?_⟩
  rintro _ rfl
  exact dkFin rfl
abbrev nm (B : Nat) (p v : Value) (G : SHeap) : List Nat := (kH B p v :: G).map (·.1)
theorem wNum_e {B NB no : Nat} {n : Int} {l : List UInt8} {p v : Value} {G : SHeap} (hn : okInt n) (h : KRep B l p v G) (hb : l.length ≤ 1000000000) :
  EffW TP 98 ⟨[.pointer (SO B), .pointer (some ⟨NB, no, none⟩)]⟩ (kH B p v :: G) (fun W => ∃ cw, lkX (nm B p v G) W NB cw ∧ cw[no]? = some (.int .i64 n)) (KOut B (l ++ Wire.enc n) (.tuple #[])) := by
 rintro W hm ⟨cw, ⟨h1, h2⟩, h3⟩
 have h4 := enc_len n
 refine wNum_vc B NB no ⟨#[]⟩ 0 p v G hm ⟨cw, n, h1, h2, h3, CallH.pure (putI hn) ⟨_, _, rfl, rfl, ?_⟩⟩
 refine CallH.effF (kwrite_e h (by rw [ba_size]; omega)) fun u L' ⟨p', v', G', hu, hL, hR⟩ => ⟨_, _, p', v', G', hu, hL, dkFin ⟨_, _, _, rfl, rfl, ?_⟩⟩
 rwa [bts_mk] at hR
theorem wWord_e {B NB no : Nat} {s : BA} {l : List UInt8} {p v : Value} {G : SHeap} (hs : s.size ≤ 65536) (h : KRep B l p v G) (hb : l.length ≤ 1000000000) :
  EffW TP 133 ⟨[.pointer (SO B), .pointer (some ⟨NB, no, none⟩)]⟩ (kH B p v :: G) (fun W => ∃ cw, lkX (nm B p v G) W NB cw ∧ cw[no]? = some (.string s)) (KOut B (l ++ encS (bts s)) (.tuple #[])) := by
 rintro W hm ⟨cw, ⟨h1, h2⟩, h3⟩
 have h4 := encS_len (bts s)
 rw [bts_len] at h4
 refine wWord_vc B NB no ⟨#[]⟩ 0 p v G hm ⟨cw, s, h1, h2, h3, CallH.pure (putS hs) ⟨_, _, rfl, rfl, ?_⟩⟩
 refine CallH.effF (kwrite_e h (by rw [ba_size]; omega)) fun u L' ⟨p', v', G', hu, hL, hR⟩ => ⟨_, _, p', v', G', hu, hL, dkFin ⟨_, _, _, rfl, rfl, ?_⟩⟩
 rwa [bts_mk] at hR
theorem wCount_e {B : Nat} {n most : Int} {l : List UInt8} {p v : Value} {G : SHeap} (hn : okInt n) (h : KRep B l p v G) (hb : l.length ≤ 1000000000) :
  EffC TP 168 ⟨[.pointer (SO B), .int .i64 n, .int .i64 most]⟩ (kH B p v :: G) (KOut B (l ++ Wire.enc n) (.int .i64 n)) := by
 intro W hm
 refine wCount_vc B n most ⟨#[]⟩ 0 p v G hm fun B1 => ?_
 refine CallH.effWT [(B1, .cells #[.int .i64 n] 3)] (wNum_e hn h hb) (fun W' hm' => ⟨_, lkX_in (c := [.int .i64 n]) hm' (List.mem_singleton.2 rfl), rfl⟩) fun u F' ⟨p', v', G', hu, hL, hR⟩ => ⟨p', v', G', hu, by rw [hL]; rfl, ?_⟩
 exact dkSelT [_, kH B p' v'] [1] rfl ⟨_, _, _, rfl, rfl, hR⟩
def FPre (S : List Nat) (f : Fct) (FB : Nat) (W : World) : Prop := ∃ cs, lkX S W FB cs ∧ FctL (lkX S W) cs f
theorem FPre.old {L F : SHeap} {f : Fct} {FB : Nat} (h : FPre S f FB w0) (hm : Mem L S w0 W) (hF : ∀ x ∈ F, x ∈ L) : FPre (F.map (·.1)) f FB W := by
 obtain ⟨cs, h1, h2⟩ := h
 exact ⟨cs, lkX_old hm hF _ _ h1, h2.mono (lkX_old hm hF)⟩
theorem flat_take {α : Type} {e : α → List UInt8} {l : List α} {i : Nat} (h : i < l.length) : (l.take (i + 1)).flatMap e = (l.take i).flatMap e ++ e l[i] := by
 rw [List.take_add_one, List.getElem?_eq_getElem h, List.flatMap_append]; simp
theorem flat_len {α : Type} {e : α → List UInt8} {m : Nat} : ∀ (l : List α), (∀ x ∈ l, (e x).length ≤ m) → (l.flatMap e).length ≤ m * l.length
 | [], _ => by simp
 | x :: l, h => by
  have h1 := h x List.mem_cons_self
  have h2 := flat_len l (fun y hy => h y (List.mem_cons_of_mem _ hy))
  rw [List.flatMap_cons, List.length_append, List.length_cons, Nat.mul_succ]; omega
theorem wTopics_loop {B FB : Nat} {f : Fct} {S : List Nat} {w0 : World} (hf : FPre S f FB w0) (hv : vOk .topics f.topics) {l : List UInt8} (hl : l.length ≤ 900000000) : ∀ (g i : Nat) (p v : Value) (G : SHeap), g + i = f.topics.length → KRep B (l ++ (f.topics.take i).flatMap fun s : BA => encS (bts s)) p v G →
  wTopics_c0 B FB (f.topics.length : Int) (i : Int) false ⟨#[]⟩ 0 p v G S w0 (DK (KOut B (l ++ f.topics.flatMap fun s : BA => encS (bts s)) (.tuple #[])) S w0)
 | 0, i, p, v, G, hg, h => by
  apply wTopics_c0_vc
  rw [List.take_of_length_le (by omega)] at h
  exact no (by omega) (dkFin ⟨_, _, _, rfl, rfl, h⟩)
 | g + 1, i, p, v, G, hg, h => by
  apply wTopics_c0_vc
  have hi : i < f.topics.length := by omega
  obtain ⟨cs, hcs, tp, tc, bp, bc, ap, ac, rfl, hF⟩ := hf
  obtain ⟨b, o, cc, e1, e2, e3⟩ := hF.tops.get hi
  have h65 := hv.2 _ (List.getElem_mem hi)
  have hlen := flat_len (e := fun s : BA => encS (bts s)) (m := 65546) (f.topics.take i) (fun x hx => by
   have := hv.2 x (List.mem_of_mem_take hx); have h2 := encS_len (bts x); rw [bts_len] at h2; omega)
  have h4 := hv.1
  rw [List.length_take] at hlen
  refine yes (by omega) ⟨_, tp, f.topics.length, tc, hcs.1, hcs.2, rfl, b, o, e1, by omega, ?_⟩
  refine CallH.effW0 (wWord_e h65 h (by rw [List.length_append]; have : 65546 * min i f.topics.length ≤ 65546 * 4 := Nat.mul_le_mul_left _ (by omega); omega)) (fun W' hm' => ⟨cc, lkX_old hm' (fun x hx => hx) _ _ e2, by simpa using e3⟩) fun u F' ⟨p', v', G', hu, hL, hR⟩ => ⟨p', v', G', hu, hL, ?_⟩
  rw [wi64 (by omega), show (i : Int) + 1 = ((i + 1 : Nat) : Int) by omega]
  refine wTopics_loop ⟨_, hcs, tp, tc, bp, bc, ap, ac, rfl, hF⟩ hv hl g (i + 1) p' v' G' (by omega) ?_
  rw [flat_take hi, ← List.append_assoc]
  exact hR
theorem wTopics_e {B FB : Nat} {f : Fct} {l : List UInt8} {p v : Value} {G : SHeap} (hv : vOk .topics f.topics) (h : KRep B l p v G) (hb : l.length ≤ 800000000) :
  EffW TP 135 ⟨[.pointer (SO B), .pointer (some ⟨FB, 9, none⟩)]⟩ (kH B p v :: G) (FPre (nm B p v G) f FB) (KOut B (l ++ f.put .topics) (.tuple #[])) := by
 intro W hm hf
 obtain ⟨cs, hcs, tp, tc, bp, bc, ap, ac, rfl, hF⟩ := hf
 have h4 := hv.1
 have h5 := enc_len (f.topics.length : Int)
 refine wTopics_vc B FB ⟨#[]⟩ 0 p v G hm ⟨_, tp, f.topics.length, tc, hcs.1, hcs.2, rfl, ?_⟩
 refine CallH.effF (wCount_e (okI (by omega)) h (by omega)) fun u F' ⟨p', v', G', hu, hL, hR⟩ => ⟨_, p', v', G', hu, hL, _, tp, f.topics.length, tc, hcs.1, hcs.2, rfl, ?_⟩
 have := wTopics_loop (B := B) (f := f) ⟨_, hcs, tp, tc, bp, bc, ap, ac, rfl, hF⟩ hv (l := l ++ Wire.enc (f.topics.length : Int)) (by rw [List.length_append]; omega) f.topics.length 0 p' v' G' (by omega) (by simpa using hR)
 rw [List.append_assoc] at this
 exact this
theorem wBlocks_e {B FB : Nat} {f : Fct} {l : List UInt8} {p v : Value} {G : SHeap} (hv : vOk .blocks f.blocks) (h : KRep B l p v G) (hb : l.length ≤ 800000000) :
  EffW TP 137 ⟨[.pointer (SO B), .pointer (some ⟨FB, 10, none⟩)]⟩ (kH B p v :: G) (FPre (nm B p v G) f FB) (KOut B (l ++ f.put .blocks) (.tuple #[])) := by
 intro W hm hf
 obtain ⟨cs, hcs, tp, tc, bp, bc, ap, ac, rfl, hF⟩ := hf
 refine wBlocks_vc B FB ⟨#[]⟩ 0 p v G hm fun B1 => ⟨_, bp, f.blocks.length, bc, hcs.1, hcs.2, rfl, ?_⟩
 have h6 := encL_le hv
 have ea : encAns f.blocks = .tuple #[.string (ba (encL f.blocks)), .int .i64 0] := by rw [encAns, if_pos (show listOk f.blocks = true from hv)]
 refine CallH.pw (v := encAns f.blocks) (fun W' hm' => encode_c (hF.blks.mono fun b c hb => (lkX_old hm' (F := []) (by simp) b c hb).2) hF.cb) ⟨_, _, ea, rfl, ?_⟩
 refine CallH.effWT [(B1, .cells #[.string (ba (encL f.blocks))] 9)] (wWord_e (s := ba (encL f.blocks)) (by rw [ba_size]; omega) h (by omega)) (fun W' hm' => ⟨_, lkX_in (c := [.string (ba (encL f.blocks))]) hm' (List.mem_singleton.2 rfl), rfl⟩) fun u F' ⟨p', v', G', hu, hL, hR⟩ => ⟨p', v', G', hu, by rw [hL]; rfl, ?_⟩
 rw [bts_mk] at hR
 exact dkSelT [_, kH B p' v'] [1] rfl ⟨_, _, _, rfl, rfl, hR⟩
theorem wLabel_loop {B FB : Nat} {f : Fct} {S : List Nat} {w0 : World} (hf : FPre S f FB w0) (hv : vOk .label f.lab) {l : List UInt8} (hl : l.length ≤ 900000000) : ∀ (g i : Nat) (p v : Value) (G : SHeap), g + i = f.lab.after.length → KRep B (l ++ (f.lab.after.take i).flatMap Wire.enc) p v G →
  wLabel_c0 B FB (f.lab.after.length : Int) (i : Int) false ⟨#[]⟩ 0 p v G S w0 (DK (KOut B (l ++ (f.lab.after.flatMap Wire.enc ++ (Wire.enc f.lab.appr ++ Wire.enc f.lab.den))) (.tuple #[])) S w0)
 | 0, i, p, v, G, hg, h => by
  apply wLabel_c0_vc
  rw [List.take_of_length_le (by omega)] at h
  obtain ⟨cs, hcs, tp, tc, bp, bc, ap, ac, rfl, hF⟩ := hf
  obtain ⟨v1, v2, v3, v4, v5⟩ := hv
  have hlen := flat_len (e := Wire.enc) (m := 10) f.lab.after (fun x _ => enc_len x)
  have k1 := enc_len f.lab.appr
  refine no (by omega) ?_
  refine CallH.effW0 (wNum_e v4 h (by rw [List.length_append]; omega)) (fun W' hm' => ⟨_, lkX_old hm' (fun x hx => hx) _ _ hcs, rfl⟩) fun u F' ⟨p', v', G', hu, hL, hR⟩ => ⟨p', v', G', hu, hL, ?_⟩
  refine CallH.effW0 (wNum_e v5 hR (by simp only [List.length_append]; omega)) (fun W' hm' => ⟨_, lkX_old hm' (fun x hx => hx) _ _ hcs, rfl⟩) fun u F' ⟨p', v', G', hu, hL, hR⟩ => ⟨p', v', G', hu, hL, dkFin ⟨_, _, _, rfl, rfl, ?_⟩⟩
  simpa only [List.append_assoc] using hR
 | g + 1, i, p, v, G, hg, h => by
  apply wLabel_c0_vc
  have hi : i < f.lab.after.length := by omega
  obtain ⟨cs, hcs, tp, tc, bp, bc, ap, ac, rfl, hF⟩ := hf
  obtain ⟨b, o, cc, e1, e2, e3⟩ := hF.ints.get hi
  have hlen := flat_len (e := Wire.enc) (m := 10) (f.lab.after.take i) (fun x _ => enc_len x)
  rw [List.length_take] at hlen
  have h64 := hv.2.1
  refine yes (by omega) ⟨_, ap, f.lab.after.length, ac, hcs.1, hcs.2, rfl, b, o, e1, by omega, ?_⟩
  refine CallH.effW0 (wNum_e (hv.2.2.1 _ (List.getElem_mem hi)) h (by rw [List.length_append]; omega)) (fun W' hm' => ⟨cc, lkX_old hm' (fun x hx => hx) _ _ e2, by simpa using e3⟩) fun u F' ⟨p', v', G', hu, hL, hR⟩ => ⟨p', v', G', hu, hL, ?_⟩
  rw [wi64 (by omega), show (i : Int) + 1 = ((i + 1 : Nat) : Int) by omega]
  refine wLabel_loop ⟨_, hcs, tp, tc, bp, bc, ap, ac, rfl, hF⟩ hv hl g (i + 1) p' v' G' (by omega) ?_
  rw [flat_take hi, ← List.append_assoc]
  exact hR
theorem wLabel_e {B FB : Nat} {f : Fct} {l : List UInt8} {p v : Value} {G : SHeap} (hv : vOk .label f.lab) (h : KRep B l p v G) (hb : l.length ≤ 800000000) :
  EffW TP 139 ⟨[.pointer (SO B), .pointer (some ⟨FB, 11, none⟩)]⟩ (kH B p v :: G) (FPre (nm B p v G) f FB) (KOut B (l ++ f.put .label) (.tuple #[])) := by
 intro W hm hf
 have hf' := hf
 obtain ⟨cs, hcs, tp, tc, bp, bc, ap, ac, rfl, hF⟩ := hf
 obtain ⟨v1, v2, v3, v4, v5⟩ := hv
 have h5 := enc_len (f.lab.after.length : Int)
 have h6 := enc_len f.lab.unt
 refine wLabel_vc B FB ⟨#[]⟩ 0 p v G hm ?_
 refine CallH.effW0 (wNum_e v1 h (by omega)) (fun W' hm' => ⟨_, lkX_old hm' (fun x hx => hx) _ _ hcs, rfl⟩) fun u F' ⟨p1, u1, G1, hu, hL, hR⟩ => ⟨p1, u1, G1, hu, hL, _, ap, f.lab.after.length, ac, hcs.1, hcs.2, rfl, ?_⟩
 refine CallH.effF (wCount_e (okI (by omega)) hR (by rw [List.length_append]; omega)) fun u F' ⟨p', v', G', hu, hL, hR⟩ => ⟨_, p', v', G', hu, hL, _, ap, f.lab.after.length, ac, hcs.1, hcs.2, rfl, ?_⟩
 have := wLabel_loop (B := B) hf' ⟨v1, v2, v3, v4, v5⟩ (l := l ++ Wire.enc f.lab.unt ++ Wire.enc (f.lab.after.length : Int)) (by simp only [List.length_append]; omega) f.lab.after.length 0 p' v' G' (by omega) (by simpa using hR)
 simp only [List.append_assoc] at this
 exact this
set_option maxRecDepth 100000
theorem wNumC_vc (kc kn B NB no : Nat) (tx : BA) (ca : Int) (cp : Value) (cb : Value) (F : SHeap) (hm : Mem ((B, .cells #[.bool false, .string tx, IV ca, cp, cb] 105) :: F) S w0 W)
 (H :
 ∃ (cw : List Value), kc ∉ S ∧ blkW w0 kc = some cw ∧ cw[0]? = some (PP B) ∧
 ∃ (cw1 : List Value), kn ∉ S ∧ blkW w0 kn = some cw1 ∧ cw1[0]? = some (.pointer (some ⟨NB, no, none⟩)) ∧
 CallH TP 98 ⟨[PP B, .pointer (some ⟨NB, no, none⟩)]⟩ ((B, .cells #[.bool false, .string tx, IV ca, cp, cb] 105) :: F) S w0 (fun v L' => ∃ (cp1 : Value) (cb1 : Value), ∃ F1, v = .tuple #[] ∧ L' = ((B, .cells #[.bool false, .string tx, IV ca, cp1, cb1] 105) :: F1) ∧
 Fin R ((B, .cells #[.bool false, .string tx, IV ca, cp1, cb1] 105) :: F1) S w0 (.tuple #[]))) :
 Calls TP 130 ⟨[PP kc, PP kn]⟩ W R:= by
 refine AtE.cs 5 Tryz.func130 hm (.ru 1 ?_)
 obtain ⟨cw, hs, hw, hx, H⟩ := H
 refine .loadW (b := kc) (off := 0) (T := 100) (v := PP B) (by kernel_rfl) hs hw (valAt_one hx (by kernel_rfl)) ?_
 obtain ⟨cw1, hs, hw, hx, H⟩ := H
 refine .loadW (b := kn) (off := 0) (T := 155) (v := .pointer (some ⟨NB, no, none⟩)) (by kernel_rfl) hs hw (valAt_one hx (by kernel_rfl)) (.cl H ?_)
 rintro _ _ ⟨cp1, cb1, F1, rfl, rfl, H⟩
 refine .ru 1 (.rt Tryz.func130 H)
theorem wWordC_vc (kc kn B NB no : Nat) (tx : BA) (ca : Int) (cp : Value) (cb : Value) (F : SHeap) (hm : Mem ((B, .cells #[.bool false, .string tx, IV ca, cp, cb] 105) :: F) S w0 W)
 (H :
 ∃ (cw : List Value), kc ∉ S ∧ blkW w0 kc = some cw ∧ cw[0]? = some (PP B) ∧
 ∃ (cw1 : List Value), kn ∉ S ∧ blkW w0 kn = some cw1 ∧ cw1[0]? = some (.pointer (some ⟨NB, no, none⟩)) ∧
 CallH TP 133 ⟨[PP B, .pointer (some ⟨NB, no, none⟩)]⟩ ((B, .cells #[.bool false, .string tx, IV ca, cp, cb] 105) :: F) S w0 (fun v L' => ∃ (cp1 : Value) (cb1 : Value), ∃ F1, v = .tuple #[] ∧ L' = ((B, .cells #[.bool false, .string tx, IV ca, cp1, cb1] 105) :: F1) ∧
 Fin R ((B, .cells #[.bool false, .string tx, IV ca, cp1, cb1] 105) :: F1) S w0 (.tuple #[]))) :
 Calls TP 132 ⟨[PP kc, PP kn]⟩ W R:= by
 refine AtE.cs 5 Tryz.func132 hm (.ru 1 ?_)
 obtain ⟨cw, hs, hw, hx, H⟩ := H
 refine .loadW (b := kc) (off := 0) (T := 100) (v := PP B) (by kernel_rfl) hs hw (valAt_one hx (by kernel_rfl)) ?_
 obtain ⟨cw1, hs, hw, hx, H⟩ := H
 refine .loadW (b := kn) (off := 0) (T := 192) (v := .pointer (some ⟨NB, no, none⟩)) (by kernel_rfl) hs hw (valAt_one hx (by kernel_rfl)) (.cl H ?_)
 rintro _ _ ⟨cp1, cb1, F1, rfl, rfl, H⟩
 refine .ru 1 (.rt Tryz.func132 H)
theorem wTopC_vc (kc kf B FB : Nat) (tx : BA) (ca : Int) (cp : Value) (cb : Value) (F : SHeap) (hm : Mem ((B, .cells #[.bool false, .string tx, IV ca, cp, cb] 105) :: F) S w0 W)
 (H :
 ∃ (cw : List Value), kc ∉ S ∧ blkW w0 kc = some cw ∧ cw[0]? = some (PP B) ∧
 ∃ (cw1 : List Value), kf ∉ S ∧ blkW w0 kf = some cw1 ∧ cw1[0]? = some (PP FB) ∧
 CallH TP 135 ⟨[PP B, .pointer (some ⟨FB, 9, none⟩)]⟩ ((B, .cells #[.bool false, .string tx, IV ca, cp, cb] 105) :: F) S w0 (fun v L' => ∃ (cp1 : Value) (cb1 : Value), ∃ F1, v = .tuple #[] ∧ L' = ((B, .cells #[.bool false, .string tx, IV ca, cp1, cb1] 105) :: F1) ∧
 Fin R ((B, .cells #[.bool false, .string tx, IV ca, cp1, cb1] 105) :: F1) S w0 (.tuple #[]))) :
 Calls TP 134 ⟨[PP kc, PP kf]⟩ W R:= by
 refine AtE.cs 7 Tryz.func134 hm (.nm (KC Tryz.f134 1) [(0, PP kc), (1, PP kf)] ((B, .cells #[.bool false, .string tx, IV ca, cp, cb] 105) :: F) (.dr 4 ?_))
 obtain ⟨cw, hs, hw, hx, H⟩ := H
 refine .loadW (b := kc) (off := 0) (T := 100) (v := PP B) (by kernel_rfl) hs hw (valAt_one hx (by kernel_rfl)) ?_
 obtain ⟨cw1, hs, hw, hx, H⟩ := H
 refine .loadW (b := kf) (off := 0) (T := 107) (v := PP FB) (by kernel_rfl) hs hw (valAt_one hx (by kernel_rfl)) (.pu (.pu (.dn (.cl H ?_))))
 rintro _ _ ⟨cp1, cb1, F1, rfl, rfl, H⟩
 refine .ru 1 (.rt Tryz.func134 H)
theorem wBlkC_vc (kc kf B FB : Nat) (tx : BA) (ca : Int) (cp : Value) (cb : Value) (F : SHeap) (hm : Mem ((B, .cells #[.bool false, .string tx, IV ca, cp, cb] 105) :: F) S w0 W)
 (H :
 ∃ (cw : List Value), kc ∉ S ∧ blkW w0 kc = some cw ∧ cw[0]? = some (PP B) ∧
 ∃ (cw1 : List Value), kf ∉ S ∧ blkW w0 kf = some cw1 ∧ cw1[0]? = some (PP FB) ∧
 CallH TP 137 ⟨[PP B, .pointer (some ⟨FB, 10, none⟩)]⟩ ((B, .cells #[.bool false, .string tx, IV ca, cp, cb] 105) :: F) S w0 (fun v L' => ∃ (cp1 : Value) (cb1 : Value), ∃ F1, v = .tuple #[] ∧ L' = ((B, .cells #[.bool false, .string tx, IV ca, cp1, cb1] 105) :: F1) ∧
 Fin R ((B, .cells #[.bool false, .string tx, IV ca, cp1, cb1] 105) :: F1) S w0 (.tuple #[]))) :
 Calls TP 136 ⟨[PP kc, PP kf]⟩ W R:= by
 refine AtE.cs 7 Tryz.func136 hm (.nm (KC Tryz.f136 1) [(0, PP kc), (1, PP kf)] ((B, .cells #[.bool false, .string tx, IV ca, cp, cb] 105) :: F) (.dr 4 ?_))
 obtain ⟨cw, hs, hw, hx, H⟩ := H
 refine .loadW (b := kc) (off := 0) (T := 100) (v := PP B) (by kernel_rfl) hs hw (valAt_one hx (by kernel_rfl)) ?_
 obtain ⟨cw1, hs, hw, hx, H⟩ := H
 refine .loadW (b := kf) (off := 0) (T := 107) (v := PP FB) (by kernel_rfl) hs hw (valAt_one hx (by kernel_rfl)) (.pu (.pu (.dn (.cl H ?_))))
 rintro _ _ ⟨cp1, cb1, F1, rfl, rfl, H⟩
 refine .ru 1 (.rt Tryz.func136 H)
theorem wLabC_vc (kc kf B FB : Nat) (tx : BA) (ca : Int) (cp : Value) (cb : Value) (F : SHeap) (hm : Mem ((B, .cells #[.bool false, .string tx, IV ca, cp, cb] 105) :: F) S w0 W)
 (H :
 ∃ (cw : List Value), kc ∉ S ∧ blkW w0 kc = some cw ∧ cw[0]? = some (PP B) ∧
 ∃ (cw1 : List Value), kf ∉ S ∧ blkW w0 kf = some cw1 ∧ cw1[0]? = some (PP FB) ∧
 CallH TP 139 ⟨[PP B, .pointer (some ⟨FB, 11, none⟩)]⟩ ((B, .cells #[.bool false, .string tx, IV ca, cp, cb] 105) :: F) S w0 (fun v L' => ∃ (cp1 : Value) (cb1 : Value), ∃ F1, v = .tuple #[] ∧ L' = ((B, .cells #[.bool false, .string tx, IV ca, cp1, cb1] 105) :: F1) ∧
 Fin R ((B, .cells #[.bool false, .string tx, IV ca, cp1, cb1] 105) :: F1) S w0 (.tuple #[]))) :
 Calls TP 138 ⟨[PP kc, PP kf]⟩ W R:= by
 refine AtE.cs 7 Tryz.func138 hm (.nm (KC Tryz.f138 1) [(0, PP kc), (1, PP kf)] ((B, .cells #[.bool false, .string tx, IV ca, cp, cb] 105) :: F) (.dr 4 ?_))
 obtain ⟨cw, hs, hw, hx, H⟩ := H
 refine .loadW (b := kc) (off := 0) (T := 100) (v := PP B) (by kernel_rfl) hs hw (valAt_one hx (by kernel_rfl)) ?_
 obtain ⟨cw1, hs, hw, hx, H⟩ := H
 refine .loadW (b := kf) (off := 0) (T := 107) (v := PP FB) (by kernel_rfl) hs hw (valAt_one hx (by kernel_rfl)) (.pu (.pu (.dn (.cl H ?_))))
 rintro _ _ ⟨cp1, cb1, F1, rfl, rfl, H⟩
 refine .ru 1 (.rt Tryz.func138 H)
set_option maxRecDepth 100000
theorem fNumB_vc (NB no kc : Nat) (hm : Mem [] [] w0 W)
 (H :
 ∀ B : Nat,
 Fin R [(B, .cells #[.pointer (some ⟨NB, no, none⟩)] 155)] [] w0 (.func (.func 130) #[] #[PP kc, PP B])) :
 Calls TP 129 ⟨[.pointer (some ⟨NB, no, none⟩), PP kc]⟩ W R:= by
 refine AtE.cs 5 Tryz.func129 hm (.ru 2 (.nH (.cells #[.pointer (some ⟨NB, no, none⟩)] 155) H fun B H => (.ru 7 (.rt Tryz.func129 H))))
theorem fWordB_vc (NB no kc : Nat) (hm : Mem [] [] w0 W)
 (H :
 ∀ B : Nat,
 Fin R [(B, .cells #[.pointer (some ⟨NB, no, none⟩)] 192)] [] w0 (.func (.func 132) #[] #[PP kc, PP B])) :
 Calls TP 131 ⟨[.pointer (some ⟨NB, no, none⟩), PP kc]⟩ W R:= by
 refine AtE.cs 5 Tryz.func131 hm (.ru 2 (.nH (.cells #[.pointer (some ⟨NB, no, none⟩)] 192) H fun B H => (.ru 7 (.rt Tryz.func131 H))))
abbrev fFieldsH0 (B1 B B2 FB nb : Nat) : SHeap := [(B1, .cells #[PP B] 100), (B2, .cells #[PP FB] 107), (nb, .cells #[.pointer (some ⟨FB, 3, none⟩)] 155)]
abbrev fFieldsH1 (B1 B B2 FB nb nb1 nb2 nb3 nb4 nb5 B3 : Nat) : SHeap := [(B1, .cells #[PP B] 100), (B2, .cells #[PP FB] 107), (nb, .cells #[.pointer (some ⟨FB, 3, none⟩)] 155), (nb1, .cells #[.pointer (some ⟨FB, 4, none⟩)] 192), (nb2, .cells #[.pointer (some ⟨FB, 5, none⟩)] 155), (nb3, .cells #[.pointer (some ⟨FB, 6, none⟩)] 155), (nb4, .cells #[.pointer (some ⟨FB, 7, none⟩)] 192), (nb5, .cells #[.pointer (some ⟨FB, 8, none⟩)] 192), (B3, .cells #[.func (.func 130) #[] #[PP B1, PP nb], .func (.func 132) #[] #[PP B1, PP nb1], .func (.func 130) #[] #[PP B1, PP nb2], .func (.func 130) #[] #[PP B1, PP nb3], .func (.func 132) #[] #[PP B1, PP nb4], .func (.func 132) #[] #[PP B1, PP nb5], .func (.func 134) #[] #[PP B1, PP B2], .func (.func 136) #[] #[PP B1, PP B2], .func (.func 138) #[] #[PP B1, PP B2]] 1)]
abbrev fFieldsH2 (B1 B B2 FB nb nb7 nb8 nb9 nb10 B6 : Nat) : SHeap := [(B1, .cells #[PP B] 100), (B2, .cells #[PP FB] 107), (nb, .cells #[.pointer (some ⟨FB, 3, none⟩)] 155), (nb7, .cells #[.pointer (some ⟨FB, 4, none⟩)] 192), (nb8, .cells #[.pointer (some ⟨FB, 16, none⟩)] 155), (nb9, .cells #[.pointer (some ⟨FB, 17, none⟩)] 155), (nb10, .cells #[.pointer (some ⟨FB, 18, none⟩)] 192), (B6, .cells #[.func (.func 130) #[] #[PP B1, PP nb], .func (.func 132) #[] #[PP B1, PP nb7], .func (.func 130) #[] #[PP B1, PP nb8], .func (.func 130) #[] #[PP B1, PP nb9], .func (.func 132) #[] #[PP B1, PP nb10]] 1)]
abbrev fFieldsH3 (B1 B B2 FB nb nb14 nb15 nb16 B11 : Nat) : SHeap := [(B1, .cells #[PP B] 100), (B2, .cells #[PP FB] 107), (nb, .cells #[.pointer (some ⟨FB, 3, none⟩)] 155), (nb14, .cells #[.pointer (some ⟨FB, 20, none⟩)] 155), (nb15, .cells #[.pointer (some ⟨FB, 21, none⟩)] 155), (nb16, .cells #[.pointer (some ⟨FB, 22, none⟩)] 155), (B11, .cells #[.func (.func 130) #[] #[PP B1, PP nb14], .func (.func 130) #[] #[PP B1, PP nb15], .func (.func 130) #[] #[PP B1, PP nb16]] 1)]
abbrev fFieldsH4 (B1 B B2 FB nb nb12 nb13 B10 : Nat) : SHeap := [(B1, .cells #[PP B] 100), (B2, .cells #[PP FB] 107), (nb, .cells #[.pointer (some ⟨FB, 3, none⟩)] 155), (nb12, .cells #[.pointer (some ⟨FB, 19, none⟩)] 192), (nb13, .cells #[.pointer (some ⟨FB, 18, none⟩)] 192), (B10, .cells #[.func (.func 132) #[] #[PP B1, PP nb12], .func (.func 132) #[] #[PP B1, PP nb13]] 1)]
abbrev fFieldsH5 (B1 B B2 FB nb nb17 nb18 B12 : Nat) : SHeap := [(B1, .cells #[PP B] 100), (B2, .cells #[PP FB] 107), (nb, .cells #[.pointer (some ⟨FB, 3, none⟩)] 155), (nb17, .cells #[.pointer (some ⟨FB, 20, none⟩)] 155), (nb18, .cells #[.pointer (some ⟨FB, 22, none⟩)] 155), (B12, .cells #[.func (.func 130) #[] #[PP B1, PP nb17], .func (.func 130) #[] #[PP B1, PP nb18]] 1)]
abbrev fFieldsH6 (B1 B B2 FB nb nb1 nb2 nb3 nb4 : Nat) : SHeap := [(B1, .cells #[PP B] 100), (B2, .cells #[PP FB] 107), (nb, .cells #[.pointer (some ⟨FB, 3, none⟩)] 155), (nb1, .cells #[.pointer (some ⟨FB, 4, none⟩)] 192), (nb2, .cells #[.pointer (some ⟨FB, 5, none⟩)] 155), (nb3, .cells #[.pointer (some ⟨FB, 6, none⟩)] 155), (nb4, .cells #[.pointer (some ⟨FB, 7, none⟩)] 192)]
theorem fFields_vc (B FB : Nat) (hm : Mem [] [] w0 W)
 (H :
 ∀ B1 B2 : Nat,
 CallH TP 129 ⟨[.pointer (some ⟨FB, 3, none⟩), PP B1]⟩ [(B1, .cells #[PP B] 100), (B2, .cells #[PP FB] 107)] [] w0 (fun v L' => ∃ (nb : Nat), v = (.func (.func 130) #[] #[PP B1, PP nb]) ∧ L' = (fFieldsH0 B1 B B2 FB nb) ∧
 ∃ (cw : List Value) (m1 : Int), blkW w0 FB = some cw ∧ cw[2]? = some (IV m1) ∧
 Br (m1 = 1)
 (CallH TP 131 ⟨[.pointer (some ⟨FB, 4, none⟩), PP B1]⟩ (fFieldsH0 B1 B B2 FB nb) [] w0 (fun v L' => ∃ (nb1 : Nat), v = (.func (.func 132) #[] #[PP B1, PP nb1]) ∧ L' = [(B1, .cells #[PP B] 100), (B2, .cells #[PP FB] 107), (nb, .cells #[.pointer (some ⟨FB, 3, none⟩)] 155), (nb1, .cells #[.pointer (some ⟨FB, 4, none⟩)] 192)] ∧
 CallH TP 129 ⟨[.pointer (some ⟨FB, 5, none⟩), PP B1]⟩ [(B1, .cells #[PP B] 100), (B2, .cells #[PP FB] 107), (nb, .cells #[.pointer (some ⟨FB, 3, none⟩)] 155), (nb1, .cells #[.pointer (some ⟨FB, 4, none⟩)] 192)] [] w0 (fun v L' => ∃ (nb2 : Nat), v = (.func (.func 130) #[] #[PP B1, PP nb2]) ∧ L' = [(B1, .cells #[PP B] 100), (B2, .cells #[PP FB] 107), (nb, .cells #[.pointer (some ⟨FB, 3, none⟩)] 155), (nb1, .cells #[.pointer (some ⟨FB, 4, none⟩)] 192), (nb2, .cells #[.pointer (some ⟨FB, 5, none⟩)] 155)] ∧
 CallH TP 129 ⟨[.pointer (some ⟨FB, 6, none⟩), PP B1]⟩ [(B1, .cells #[PP B] 100), (B2, .cells #[PP FB] 107), (nb, .cells #[.pointer (some ⟨FB, 3, none⟩)] 155), (nb1, .cells #[.pointer (some ⟨FB, 4, none⟩)] 192), (nb2, .cells #[.pointer (some ⟨FB, 5, none⟩)] 155)] [] w0 (fun v L' => ∃ (nb3 : Nat), v = (.func (.func 130) #[] #[PP B1, PP nb3]) ∧ L' = [(B1, .cells #[PP B] 100), (B2, .cells #[PP FB] 107), (nb, .cells #[.pointer (some ⟨FB, 3, none⟩)] 155), (nb1, .cells #[.pointer (some ⟨FB, 4, none⟩)] 192), (nb2, .cells #[.pointer (some ⟨FB, 5, none⟩)] 155), (nb3, .cells #[.pointer (some ⟨FB, 6, none⟩)] 155)] ∧
 CallH TP 131 ⟨[.pointer (some ⟨FB, 7, none⟩), PP B1]⟩ [(B1, .cells #[PP B] 100), (B2, .cells #[PP FB] 107), (nb, .cells #[.pointer (some ⟨FB, 3, none⟩)] 155), (nb1, .cells #[.pointer (some ⟨FB, 4, none⟩)] 192), (nb2, .cells #[.pointer (some ⟨FB, 5, none⟩)] 155), (nb3, .cells #[.pointer (some ⟨FB, 6, none⟩)] 155)] [] w0 (fun v L' => ∃ (nb4 : Nat), v = (.func (.func 132) #[] #[PP B1, PP nb4]) ∧ L' = (fFieldsH6 B1 B B2 FB nb nb1 nb2 nb3 nb4) ∧
 CallH TP 131 ⟨[.pointer (some ⟨FB, 8, none⟩), PP B1]⟩ (fFieldsH6 B1 B B2 FB nb nb1 nb2 nb3 nb4) [] w0 (fun v L' => ∃ (nb5 : Nat), v = (.func (.func 132) #[] #[PP B1, PP nb5]) ∧ L' = [(B1, .cells #[PP B] 100), (B2, .cells #[PP FB] 107), (nb, .cells #[.pointer (some ⟨FB, 3, none⟩)] 155), (nb1, .cells #[.pointer (some ⟨FB, 4, none⟩)] 192), (nb2, .cells #[.pointer (some ⟨FB, 5, none⟩)] 155), (nb3, .cells #[.pointer (some ⟨FB, 6, none⟩)] 155), (nb4, .cells #[.pointer (some ⟨FB, 7, none⟩)] 192), (nb5, .cells #[.pointer (some ⟨FB, 8, none⟩)] 192)] ∧
 ∀ B3 : Nat,
 Fin R (fFieldsH1 B1 B B2 FB nb nb1 nb2 nb3 nb4 nb5 B3) [] w0 (.slice (SO B3) 9 9)))))))
 (Br (m1 = 2)
 (CallH TP 129 ⟨[.pointer (some ⟨FB, 15, none⟩), PP B1]⟩ (fFieldsH0 B1 B B2 FB nb) [] w0 (fun v L' => ∃ (nb6 : Nat), v = (.func (.func 130) #[] #[PP B1, PP nb6]) ∧ L' = [(B1, .cells #[PP B] 100), (B2, .cells #[PP FB] 107), (nb, .cells #[.pointer (some ⟨FB, 3, none⟩)] 155), (nb6, .cells #[.pointer (some ⟨FB, 15, none⟩)] 155)] ∧
 ∀ B4 : Nat,
 Fin R [(B1, .cells #[PP B] 100), (B2, .cells #[PP FB] 107), (nb, .cells #[.pointer (some ⟨FB, 3, none⟩)] 155), (nb6, .cells #[.pointer (some ⟨FB, 15, none⟩)] 155), (B4, .cells #[.func (.func 130) #[] #[PP B1, PP nb], .func (.func 130) #[] #[PP B1, PP nb6]] 1)] [] w0 (.slice (SO B4) 2 2)))
 (Br (m1 = 3)
 (∀ B5 : Nat,
 Fin R [(B1, .cells #[PP B] 100), (B2, .cells #[PP FB] 107), (nb, .cells #[.pointer (some ⟨FB, 3, none⟩)] 155), (B5, .cells #[.func (.func 130) #[] #[PP B1, PP nb], .func (.func 138) #[] #[PP B1, PP B2]] 1)] [] w0 (.slice (SO B5) 2 2))
 (Br (m1 = 4)
 (CallH TP 131 ⟨[.pointer (some ⟨FB, 4, none⟩), PP B1]⟩ (fFieldsH0 B1 B B2 FB nb) [] w0 (fun v L' => ∃ (nb7 : Nat), v = (.func (.func 132) #[] #[PP B1, PP nb7]) ∧ L' = [(B1, .cells #[PP B] 100), (B2, .cells #[PP FB] 107), (nb, .cells #[.pointer (some ⟨FB, 3, none⟩)] 155), (nb7, .cells #[.pointer (some ⟨FB, 4, none⟩)] 192)] ∧
 CallH TP 129 ⟨[.pointer (some ⟨FB, 16, none⟩), PP B1]⟩ [(B1, .cells #[PP B] 100), (B2, .cells #[PP FB] 107), (nb, .cells #[.pointer (some ⟨FB, 3, none⟩)] 155), (nb7, .cells #[.pointer (some ⟨FB, 4, none⟩)] 192)] [] w0 (fun v L' => ∃ (nb8 : Nat), v = (.func (.func 130) #[] #[PP B1, PP nb8]) ∧ L' = [(B1, .cells #[PP B] 100), (B2, .cells #[PP FB] 107), (nb, .cells #[.pointer (some ⟨FB, 3, none⟩)] 155), (nb7, .cells #[.pointer (some ⟨FB, 4, none⟩)] 192), (nb8, .cells #[.pointer (some ⟨FB, 16, none⟩)] 155)] ∧
 CallH TP 129 ⟨[.pointer (some ⟨FB, 17, none⟩), PP B1]⟩ [(B1, .cells #[PP B] 100), (B2, .cells #[PP FB] 107), (nb, .cells #[.pointer (some ⟨FB, 3, none⟩)] 155), (nb7, .cells #[.pointer (some ⟨FB, 4, none⟩)] 192), (nb8, .cells #[.pointer (some ⟨FB, 16, none⟩)] 155)] [] w0 (fun v L' => ∃ (nb9 : Nat), v = (.func (.func 130) #[] #[PP B1, PP nb9]) ∧ L' = [(B1, .cells #[PP B] 100), (B2, .cells #[PP FB] 107), (nb, .cells #[.pointer (some ⟨FB, 3, none⟩)] 155), (nb7, .cells #[.pointer (some ⟨FB, 4, none⟩)] 192), (nb8, .cells #[.pointer (some ⟨FB, 16, none⟩)] 155), (nb9, .cells #[.pointer (some ⟨FB, 17, none⟩)] 155)] ∧
 CallH TP 131 ⟨[.pointer (some ⟨FB, 18, none⟩), PP B1]⟩ [(B1, .cells #[PP B] 100), (B2, .cells #[PP FB] 107), (nb, .cells #[.pointer (some ⟨FB, 3, none⟩)] 155), (nb7, .cells #[.pointer (some ⟨FB, 4, none⟩)] 192), (nb8, .cells #[.pointer (some ⟨FB, 16, none⟩)] 155), (nb9, .cells #[.pointer (some ⟨FB, 17, none⟩)] 155)] [] w0 (fun v L' => ∃ (nb10 : Nat), v = (.func (.func 132) #[] #[PP B1, PP nb10]) ∧ L' = [(B1, .cells #[PP B] 100), (B2, .cells #[PP FB] 107), (nb, .cells #[.pointer (some ⟨FB, 3, none⟩)] 155), (nb7, .cells #[.pointer (some ⟨FB, 4, none⟩)] 192), (nb8, .cells #[.pointer (some ⟨FB, 16, none⟩)] 155), (nb9, .cells #[.pointer (some ⟨FB, 17, none⟩)] 155), (nb10, .cells #[.pointer (some ⟨FB, 18, none⟩)] 192)] ∧
 ∀ B6 : Nat,
 Fin R (fFieldsH2 B1 B B2 FB nb nb7 nb8 nb9 nb10 B6) [] w0 (.slice (SO B6) 5 5))))))
 (Br (m1 = 5)
 (CallH TP 131 ⟨[.pointer (some ⟨FB, 18, none⟩), PP B1]⟩ (fFieldsH0 B1 B B2 FB nb) [] w0 (fun v L' => ∃ (nb11 : Nat), v = (.func (.func 132) #[] #[PP B1, PP nb11]) ∧ L' = [(B1, .cells #[PP B] 100), (B2, .cells #[PP FB] 107), (nb, .cells #[.pointer (some ⟨FB, 3, none⟩)] 155), (nb11, .cells #[.pointer (some ⟨FB, 18, none⟩)] 192)] ∧
 ∀ B7 : Nat,
 Fin R [(B1, .cells #[PP B] 100), (B2, .cells #[PP FB] 107), (nb, .cells #[.pointer (some ⟨FB, 3, none⟩)] 155), (nb11, .cells #[.pointer (some ⟨FB, 18, none⟩)] 192), (B7, .cells #[.func (.func 130) #[] #[PP B1, PP nb], .func (.func 132) #[] #[PP B1, PP nb11]] 1)] [] w0 (.slice (SO B7) 2 2)))
 (Br (m1 = 6)
 (∀ B8 : Nat,
 Fin R [(B1, .cells #[PP B] 100), (B2, .cells #[PP FB] 107), (nb, .cells #[.pointer (some ⟨FB, 3, none⟩)] 155), (B8, .cells #[.func (.func 130) #[] #[PP B1, PP nb]] 1)] [] w0 (.slice (SO B8) 1 1))
 (Br (m1 = 10)
 (∀ B9 : Nat,
 Fin R [(B1, .cells #[PP B] 100), (B2, .cells #[PP FB] 107), (nb, .cells #[.pointer (some ⟨FB, 3, none⟩)] 155), (B9, .cells #[.func (.func 130) #[] #[PP B1, PP nb]] 1)] [] w0 (.slice (SO B9) 1 1))
 (Br (m1 = 7)
 (CallH TP 131 ⟨[.pointer (some ⟨FB, 19, none⟩), PP B1]⟩ (fFieldsH0 B1 B B2 FB nb) [] w0 (fun v L' => ∃ (nb12 : Nat), v = (.func (.func 132) #[] #[PP B1, PP nb12]) ∧ L' = [(B1, .cells #[PP B] 100), (B2, .cells #[PP FB] 107), (nb, .cells #[.pointer (some ⟨FB, 3, none⟩)] 155), (nb12, .cells #[.pointer (some ⟨FB, 19, none⟩)] 192)] ∧
 CallH TP 131 ⟨[.pointer (some ⟨FB, 18, none⟩), PP B1]⟩ [(B1, .cells #[PP B] 100), (B2, .cells #[PP FB] 107), (nb, .cells #[.pointer (some ⟨FB, 3, none⟩)] 155), (nb12, .cells #[.pointer (some ⟨FB, 19, none⟩)] 192)] [] w0 (fun v L' => ∃ (nb13 : Nat), v = (.func (.func 132) #[] #[PP B1, PP nb13]) ∧ L' = [(B1, .cells #[PP B] 100), (B2, .cells #[PP FB] 107), (nb, .cells #[.pointer (some ⟨FB, 3, none⟩)] 155), (nb12, .cells #[.pointer (some ⟨FB, 19, none⟩)] 192), (nb13, .cells #[.pointer (some ⟨FB, 18, none⟩)] 192)] ∧
 ∀ B10 : Nat,
 Fin R (fFieldsH4 B1 B B2 FB nb nb12 nb13 B10) [] w0 (.slice (SO B10) 2 2))))
 (Br (m1 = 8)
 (CallH TP 129 ⟨[.pointer (some ⟨FB, 20, none⟩), PP B1]⟩ (fFieldsH0 B1 B B2 FB nb) [] w0 (fun v L' => ∃ (nb14 : Nat), v = (.func (.func 130) #[] #[PP B1, PP nb14]) ∧ L' = [(B1, .cells #[PP B] 100), (B2, .cells #[PP FB] 107), (nb, .cells #[.pointer (some ⟨FB, 3, none⟩)] 155), (nb14, .cells #[.pointer (some ⟨FB, 20, none⟩)] 155)] ∧
 CallH TP 129 ⟨[.pointer (some ⟨FB, 21, none⟩), PP B1]⟩ [(B1, .cells #[PP B] 100), (B2, .cells #[PP FB] 107), (nb, .cells #[.pointer (some ⟨FB, 3, none⟩)] 155), (nb14, .cells #[.pointer (some ⟨FB, 20, none⟩)] 155)] [] w0 (fun v L' => ∃ (nb15 : Nat), v = (.func (.func 130) #[] #[PP B1, PP nb15]) ∧ L' = [(B1, .cells #[PP B] 100), (B2, .cells #[PP FB] 107), (nb, .cells #[.pointer (some ⟨FB, 3, none⟩)] 155), (nb14, .cells #[.pointer (some ⟨FB, 20, none⟩)] 155), (nb15, .cells #[.pointer (some ⟨FB, 21, none⟩)] 155)] ∧
 CallH TP 129 ⟨[.pointer (some ⟨FB, 22, none⟩), PP B1]⟩ [(B1, .cells #[PP B] 100), (B2, .cells #[PP FB] 107), (nb, .cells #[.pointer (some ⟨FB, 3, none⟩)] 155), (nb14, .cells #[.pointer (some ⟨FB, 20, none⟩)] 155), (nb15, .cells #[.pointer (some ⟨FB, 21, none⟩)] 155)] [] w0 (fun v L' => ∃ (nb16 : Nat), v = (.func (.func 130) #[] #[PP B1, PP nb16]) ∧ L' = [(B1, .cells #[PP B] 100), (B2, .cells #[PP FB] 107), (nb, .cells #[.pointer (some ⟨FB, 3, none⟩)] 155), (nb14, .cells #[.pointer (some ⟨FB, 20, none⟩)] 155), (nb15, .cells #[.pointer (some ⟨FB, 21, none⟩)] 155), (nb16, .cells #[.pointer (some ⟨FB, 22, none⟩)] 155)] ∧
 ∀ B11 : Nat,
 Fin R (fFieldsH3 B1 B B2 FB nb nb14 nb15 nb16 B11) [] w0 (.slice (SO B11) 3 3)))))
 (Br (m1 = 9)
 (CallH TP 129 ⟨[.pointer (some ⟨FB, 20, none⟩), PP B1]⟩ (fFieldsH0 B1 B B2 FB nb) [] w0 (fun v L' => ∃ (nb17 : Nat), v = (.func (.func 130) #[] #[PP B1, PP nb17]) ∧ L' = [(B1, .cells #[PP B] 100), (B2, .cells #[PP FB] 107), (nb, .cells #[.pointer (some ⟨FB, 3, none⟩)] 155), (nb17, .cells #[.pointer (some ⟨FB, 20, none⟩)] 155)] ∧
 CallH TP 129 ⟨[.pointer (some ⟨FB, 22, none⟩), PP B1]⟩ [(B1, .cells #[PP B] 100), (B2, .cells #[PP FB] 107), (nb, .cells #[.pointer (some ⟨FB, 3, none⟩)] 155), (nb17, .cells #[.pointer (some ⟨FB, 20, none⟩)] 155)] [] w0 (fun v L' => ∃ (nb18 : Nat), v = (.func (.func 130) #[] #[PP B1, PP nb18]) ∧ L' = [(B1, .cells #[PP B] 100), (B2, .cells #[PP FB] 107), (nb, .cells #[.pointer (some ⟨FB, 3, none⟩)] 155), (nb17, .cells #[.pointer (some ⟨FB, 20, none⟩)] 155), (nb18, .cells #[.pointer (some ⟨FB, 22, none⟩)] 155)] ∧
 ∀ B12 : Nat,
 Fin R (fFieldsH5 B1 B B2 FB nb nb17 nb18 B12) [] w0 (.slice (SO B12) 2 2))))
 (Fin R (fFieldsH0 B1 B B2 FB nb) [] w0 (.slice none 0 0))))))))))))) :
 Calls TP 99 ⟨[PP B, PP FB]⟩ W R:= by
 refine AtE.cs 153 Tryz.func99 hm (.ru 2 (.nH (.cells #[PP B] 100) H fun B1 H => (.nH (.cells #[PP FB] 107) H fun B2 H => (.ru 30 (.ld 1 0 (.ru 2 (.cl H ?_)))))))
 rintro _ _ ⟨nb, rfl, rfl, H⟩
 refine .ru 5 (.ld 1 0 (.ru 2 ?_))
 obtain ⟨cw, m1, hw, hx, H⟩ := H
 refine .loadW (b := FB) (off := 2) (T := 3) (v := IV m1) (by kernel_rfl) List.not_mem_nil hw (valAt_one hx (by kernel_rfl)) (.ru 7 (.sP 25 H (fun H => ?_) fun H => ?_))
 ·refine .ru 2 (.nm (KC Tryz.f99 16340) [(3, PP B2), (5, .func (.func 129) #[] #[PP B1]), (6, .func (.func 131) #[] #[PP B1]), (7, .func (.func 134) #[] #[PP B1, PP B2]), (8, .func (.func 136) #[] #[PP B1, PP B2]), (9, .func (.func 138) #[] #[PP B1, PP B2]), (10, .func (.func 130) #[] #[PP B1, PP nb])] (fFieldsH0 B1 B B2 FB nb) (.dD (.ph 30 [0,1,2,3,4,6,7,8,9,11,12,13,14,16,17,18,19,21,22,23,24,26,27,28] [5,10,15,20,25,29] (fFieldsH0 B1 B B2 FB nb) (.pu (.pu (.ld 1 0 (.pu (.pu (.pu (.ld 1 0 (.pu (.pu (.pu (.ld 1 0 (.pu (.pu (.pu (.ld 1 0 (.pu (.pu (.pu (.ld 1 0 (.pu (.pu (.pu (.pu (.pu (.dn (.cl H ?_)))))))))))))))))))))))))))))
  rintro _ _ ⟨nb1, rfl, rfl, H⟩
  refine .cl H ?_
  rintro _ _ ⟨nb2, rfl, rfl, H⟩
  refine .cl H ?_
  rintro _ _ ⟨nb3, rfl, rfl, H⟩
  refine .cl H ?_
  rintro _ _ ⟨nb4, rfl, rfl, H⟩
  refine .cl H ?_
  rintro _ _ ⟨nb5, rfl, rfl, H⟩
  refine .new _ (fun B => .slice (SO B) 9 9) (.cells #[.func (.func 130) #[] #[PP B1, PP nb], .func (.func 132) #[] #[PP B1, PP nb1], .func (.func 130) #[] #[PP B1, PP nb2], .func (.func 130) #[] #[PP B1, PP nb3], .func (.func 132) #[] #[PP B1, PP nb4], .func (.func 132) #[] #[PP B1, PP nb5], .func (.func 134) #[] #[PP B1, PP B2], .func (.func 136) #[] #[PP B1, PP B2], .func (.func 138) #[] #[PP B1, PP B2]] 1) rfl (fun W => by kernel_rfl) (by kernel_rfl) (fun B3 => ?_)
  replace H := H B3
  refine .dn (.nm [(56, .slice (SO B3) 9 9)] (fFieldsH1 B1 B B2 FB nb nb1 nb2 nb3 nb4 nb5 B3) (.tl (.ru 2 (.rt Tryz.func99 H))))
 ·refine .ru 6 (.sP 57 H (fun H => ?_) fun H => ?_)
  ·refine .ru 5 (.ld 1 0 (.ru 2 (.cl H ?_)))
   rintro _ _ ⟨nb6, rfl, rfl, H⟩
   refine .nw (fun B => .slice (SO B) 2 2) (.cells #[.func (.func 130) #[] #[PP B1, PP nb], .func (.func 130) #[] #[PP B1, PP nb6]] 1) fun B4 => ?_
   replace H := H B4
   refine .ru 2 (.rt Tryz.func99 H)
  ·refine .ru 6 (.sP 66 H (fun H => ?_) fun H => ?_)
   ·refine .ru 5 (.nw (fun B => .slice (SO B) 2 2) (.cells #[.func (.func 130) #[] #[PP B1, PP nb], .func (.func 138) #[] #[PP B1, PP B2]] 1) fun B5 => ?_)
    replace H := H B5
    refine .ru 2 (.rt Tryz.func99 H)
   ·refine .ru 6 (.sP 71 H (fun H => ?_) fun H => ?_)
    ·refine .ru 2 (.nm (KC Tryz.f99 1046012) [(3, PP B2), (5, .func (.func 129) #[] #[PP B1]), (6, .func (.func 131) #[] #[PP B1]), (10, .func (.func 130) #[] #[PP B1, PP nb])] (fFieldsH0 B1 B B2 FB nb) (.dD (.ph 22 [0,1,2,3,4,6,7,8,9,11,12,13,14,16,17,18,19] [5,10,15,20,21] (fFieldsH0 B1 B B2 FB nb) (.pu (.pu (.ld 1 0 (.pu (.pu (.pu (.ld 1 0 (.pu (.pu (.pu (.ld 1 0 (.pu (.pu (.pu (.ld 1 0 (.pu (.pu (.dn (.cl H ?_))))))))))))))))))))))
     rintro _ _ ⟨nb7, rfl, rfl, H⟩
     refine .cl H ?_
     rintro _ _ ⟨nb8, rfl, rfl, H⟩
     refine .cl H ?_
     rintro _ _ ⟨nb9, rfl, rfl, H⟩
     refine .cl H ?_
     rintro _ _ ⟨nb10, rfl, rfl, H⟩
     refine .new _ (fun B => .slice (SO B) 5 5) (.cells #[.func (.func 130) #[] #[PP B1, PP nb], .func (.func 132) #[] #[PP B1, PP nb7], .func (.func 130) #[] #[PP B1, PP nb8], .func (.func 130) #[] #[PP B1, PP nb9], .func (.func 132) #[] #[PP B1, PP nb10]] 1) rfl (fun W => by kernel_rfl) (by kernel_rfl) (fun B6 => ?_)
     replace H := H B6
     refine .dn (.nm [(94, .slice (SO B6) 5 5)] (fFieldsH2 B1 B B2 FB nb nb7 nb8 nb9 nb10 B6) (.tl (.ru 2 (.rt Tryz.func99 H))))
    ·refine .ru 6 (.sP 95 H (fun H => ?_) fun H => ?_)
     ·refine .ru 5 (.ld 1 0 (.ru 2 (.cl H ?_)))
      rintro _ _ ⟨nb11, rfl, rfl, H⟩
      refine .nw (fun B => .slice (SO B) 2 2) (.cells #[.func (.func 130) #[] #[PP B1, PP nb], .func (.func 132) #[] #[PP B1, PP nb11]] 1) fun B7 => ?_
      replace H := H B7
      refine .ru 2 (.rt Tryz.func99 H)
     ·refine .ru 7 (.sP 104 H (fun H => ?_) fun H => ?_)
      ·refine .ru 6 (.nw (fun B => .slice (SO B) 1 1) (.cells #[.func (.func 130) #[] #[PP B1, PP nb]] 1) fun B8 => ?_)
       replace H := H B8
       refine .ru 2 (.rt Tryz.func99 H)
      ·refine .ru 5 (.sP 104 H (fun H => ?_) fun H => ?_)
       ·refine .ru 4 (.nw (fun B => .slice (SO B) 1 1) (.cells #[.func (.func 130) #[] #[PP B1, PP nb]] 1) fun B9 => ?_)
        replace H := H B9
        refine .ru 2 (.rt Tryz.func99 H)
       ·refine .ru 6 (.sP 109 H (fun H => ?_) fun H => ?_)
        ·refine .ru 2 (.nm (KC Tryz.f99 66945020) [(3, PP B2), (6, .func (.func 131) #[] #[PP B1])] (fFieldsH0 B1 B B2 FB nb) (.dD (.ph 11 [0,1,2,3,5,6,7,8] [4,9,10] (fFieldsH0 B1 B B2 FB nb) (.pu (.ld 1 0 (.pu (.pu (.pu (.ld 1 0 (.pu (.pu (.dn (.cl H ?_)))))))))))))
         rintro _ _ ⟨nb12, rfl, rfl, H⟩
         refine .cl H ?_
         rintro _ _ ⟨nb13, rfl, rfl, H⟩
         refine .new _ (fun B => .slice (SO B) 2 2) (.cells #[.func (.func 132) #[] #[PP B1, PP nb12], .func (.func 132) #[] #[PP B1, PP nb13]] 1) rfl (fun W => by kernel_rfl) (by kernel_rfl) (fun B10 => ?_)
         replace H := H B10
         refine .dn (.nm [(121, .slice (SO B10) 2 2)] (fFieldsH4 B1 B B2 FB nb nb12 nb13 B10) (.tl (.ru 2 (.rt Tryz.func99 H))))
        ·refine .ru 6 (.sP 122 H (fun H => ?_) fun H => ?_)
         ·refine .ru 2 (.nm (KC Tryz.f99 267780092) [(3, PP B2), (5, .func (.func 129) #[] #[PP B1])] (fFieldsH0 B1 B B2 FB nb) (.dD (.ph 16 [0,1,2,3,5,6,7,8,10,11,12,13] [4,9,14,15] (fFieldsH0 B1 B B2 FB nb) (.pu (.ld 1 0 (.pu (.pu (.pu (.ld 1 0 (.pu (.pu (.pu (.ld 1 0 (.pu (.pu (.dn (.cl H ?_)))))))))))))))))
          rintro _ _ ⟨nb14, rfl, rfl, H⟩
          refine .cl H ?_
          rintro _ _ ⟨nb15, rfl, rfl, H⟩
          refine .cl H ?_
          rintro _ _ ⟨nb16, rfl, rfl, H⟩
          refine .new _ (fun B => .slice (SO B) 3 3) (.cells #[.func (.func 130) #[] #[PP B1, PP nb14], .func (.func 130) #[] #[PP B1, PP nb15], .func (.func 130) #[] #[PP B1, PP nb16]] 1) rfl (fun W => by kernel_rfl) (by kernel_rfl) (fun B11 => ?_)
          replace H := H B11
          refine .dn (.nm [(139, .slice (SO B11) 3 3)] (fFieldsH3 B1 B B2 FB nb nb14 nb15 nb16 B11) (.tl (.ru 2 (.rt Tryz.func99 H))))
         ·refine .ru 6 (.sP 140 H (fun H => ?_) fun H => ?_)
          ·refine .ru 2 (.nm (KC Tryz.f99 1071120380) [(3, PP B2), (5, .func (.func 129) #[] #[PP B1])] (fFieldsH0 B1 B B2 FB nb) (.dD (.ph 11 [0,1,2,3,5,6,7,8] [4,9,10] (fFieldsH0 B1 B B2 FB nb) (.pu (.ld 1 0 (.pu (.pu (.pu (.ld 1 0 (.pu (.pu (.dn (.cl H ?_)))))))))))))
           rintro _ _ ⟨nb17, rfl, rfl, H⟩
           refine .cl H ?_
           rintro _ _ ⟨nb18, rfl, rfl, H⟩
           refine .new _ (fun B => .slice (SO B) 2 2) (.cells #[.func (.func 130) #[] #[PP B1, PP nb17], .func (.func 130) #[] #[PP B1, PP nb18]] 1) rfl (fun W => by kernel_rfl) (by kernel_rfl) (fun B12 => ?_)
           replace H := H B12
           refine .dn (.nm [(152, .slice (SO B12) 2 2)] (fFieldsH5 B1 B B2 FB nb nb17 nb18 B12) (.tl (.ru 2 (.rt Tryz.func99 H))))
          ·refine .ru 7 (.rt Tryz.func99 H)
set_option maxRecDepth 100000
def wFact_c0 (B1 : Nat) (t29_p : OA) (t29_l t29_c : Nat) (t30 t31 : Int) (m0 : Bool) (m1 : BA) (m2 : Int) (m3 : Value) (m4 : Value) (F5 : SHeap) (S : List Nat) (w0 : World) (R : Ending → World → Prop) : Prop :=
 AtE TP 59 38 (KC Tryz.f59 508) [(29, .slice t29_p t29_l t29_c), (30, IV t30), (31, IV t31)] ((B1, .cells #[.bool m0, .string m1, IV m2, m3, m4] 105) :: F5) S w0 (nrm R)
theorem wFact_c0_vc (B1 : Nat) (t29_p : OA) (t29_l t29_c : Nat) (t30 t31 : Int) (m0 : Bool) (m1 : BA) (m2 : Int) (m3 : Value) (m4 : Value) (F5 : SHeap)
 (H :
 Br (t31 < t30)
 (∃ t29_pb t29_po : Nat, t29_p = some ⟨t29_pb, t29_po, none⟩ ∧
 (0 ≤ t31 ∧ t31 < t29_l) ∧
 ∃ (cw : List Value) (m5 : Value), (∃ t fz, (t29_pb, Obj.cells ⟨cw⟩ t fz) ∈ ((B1, .cells #[.bool m0, .string m1, IV m2, m3, m4] 105) :: F5)) ∧ cw[(t29_po + (Int.toNat t31))]? = some (m5) ∧
 ∃ (g : Nat) (caps : List Value), m5 = .func (.func g) ⟨[]⟩ ⟨caps⟩ ∧ FnReady TP g ∧
 CallP TP g ⟨[] ++ caps⟩ ((B1, .cells #[.bool m0, .string m1, IV m2, m3, m4] 105) :: F5) S w0 (fun v L' => ∃ (cp4 : Value) (cb4 : Value), ∃ F6, v = .tuple #[] ∧ L' = ((B1, .cells #[.bool m0, .string m1, IV m2, cp4, cb4] 105) :: F6) ∧
 wFact_c0 B1 (some ⟨t29_pb, t29_po, none⟩) t29_l t29_c t30 (IntKind.i64.wrap (t31 + (1 : Int))) m0 m1 m2 cp4 cb4 F6 S w0 R) (fun ch L' => FinP R L' S w0 ch))
 (Fin R ((B1, .cells #[.bool m0, .string m1, IV m2, m3, m4] 105) :: F5) S w0 (.tuple #[]))) :
 wFact_c0 B1 t29_p t29_l t29_c t30 t31 m0 m1 m2 m3 m4 F5 S w0 R:= by
 unfold wFact_c0
 refine .ru 5 (.sP 32 H ?_ ?_) <;> clear H <;> intro H
 ·refine .ru 6 ?_
  obtain ⟨t29_pb, t29_po, rfl, H⟩ := H
  refine .indexAddrL (E := 1) (b := t29_pb) (o := t29_po) (len := t29_l) (cap := t29_c) (sz := 1) (o' := (t29_po + (Int.toNat t31))) (kd := .i64) (i := t31) (by kernel_rfl) H.1 (by omega) ?_
  replace H := H.2
  obtain ⟨cw, m5, hw, hx, H⟩ := H
  refine .loadT (b := t29_pb) (off := (t29_po + (Int.toNat t31))) (T := 1) (v := m5) (by kernel_rfl) hw (valAt_one hx (by kernel_rfl)) (.ru 4 ?_)
  obtain ⟨g, caps, rfl, hr, H⟩ := H
  refine .callV g [] caps [] (by kernel_rfl) hr H ?_ (fun ch L' h => RaiseE.nrm Tryz.func59 h)
  clear H
  rintro _ _ ⟨cp4, cb4, F6, rfl, rfl, H⟩
  refine .ru 7 (.tT [0] 1 H)
 ·refine .ru 2 (.rt Tryz.func59 H)
theorem wFact_vc (B FB : Nat) (tx : BA) (ca : Int) (cp : Value) (cb : Value) (F : SHeap) (hm : Mem ((B, .cells #[.bool false, .string tx, IV ca, cp, cb] 105) :: F) S w0 W)
 (H :
 CallH TP 98 ⟨[PP B, PP FB]⟩ ((B, .cells #[.bool false, .string tx, IV ca, cp, cb] 105) :: F) S w0 (fun v L' => ∃ (cp1 : Value) (cb1 : Value), ∃ F1, v = .tuple #[] ∧ L' = ((B, .cells #[.bool false, .string tx, IV ca, cp1, cb1] 105) :: F1) ∧
 CallH TP 98 ⟨[PP B, .pointer (some ⟨FB, 1, none⟩)]⟩ ((B, .cells #[.bool false, .string tx, IV ca, cp1, cb1] 105) :: F1) S w0 (fun v L' => ∃ (cp2 : Value) (cb2 : Value), ∃ F2, v = .tuple #[] ∧ L' = ((B, .cells #[.bool false, .string tx, IV ca, cp2, cb2] 105) :: F2) ∧
 CallH TP 98 ⟨[PP B, .pointer (some ⟨FB, 2, none⟩)]⟩ ((B, .cells #[.bool false, .string tx, IV ca, cp2, cb2] 105) :: F2) S w0 (fun v L' => ∃ (cp3 : Value) (cb3 : Value), ∃ F3, v = .tuple #[] ∧ L' = ((B, .cells #[.bool false, .string tx, IV ca, cp3, cb3] 105) :: F3) ∧
 CallH TP 99 ⟨[PP B, PP FB]⟩ ((B, .cells #[.bool false, .string tx, IV ca, cp3, cb3] 105) :: F3) S w0 (fun v L' => ∃ (r1_p : OA) (r1_l : Nat) (r1_c : Nat), ∃ F4, v = (.slice r1_p r1_l r1_c) ∧ L' = ((B, .cells #[.bool false, .string tx, IV ca, cp3, cb3] 105) :: F4) ∧
 Br ((r1_l : Int) = (0 : Int))
 (FinP R ((B, .cells #[.bool false, .string tx, IV ca, cp3, cb3] 105) :: F4) S w0 [{ v := .iface 25 (IV 50), recovered := false }])
 (wFact_c0 B r1_p r1_l r1_c (r1_l : Int) (0 : Int) false tx ca cp3 cb3 F4 S w0 R)))))) :
 Calls TP 59 ⟨[PP B, PP FB]⟩ W R:= by
 refine AtE.cs 38 Tryz.func59 hm (.ru 6 (.cl H ?_))
 rintro _ _ ⟨cp1, cb1, F1, rfl, rfl, H⟩
 refine .ru 7 (.cl H ?_)
 rintro _ _ ⟨cp2, cb2, F2, rfl, rfl, H⟩
 refine .ru 7 (.cl H ?_)
 rintro _ _ ⟨cp3, cb3, F3, rfl, rfl, H⟩
 refine .ru 5 (.cl H ?_)
 rintro _ _ ⟨r1_p, r1_l, r1_c, F4, rfl, rfl, H⟩
 refine .ru 9 (.sP 27 H (fun H => ?_) fun H => ?_)
 ·refine .ru 3 (.panic (t := 25) (v := IV 50) (by kernel_rfl) ?_)
  exact RaiseE.nrm Tryz.func59 H
 ·refine .ru 10 (.tT [0] 1 H)
set_option maxRecDepth 100000
abbrev fEncodeH0 (B : Nat) (f : Fct) (ftp : OA) (ftc : Nat) (fbp : OA) (fbc : Nat) (fap : OA) (fac : Nat) : SHeap := [(B, .cells ⟨f.cells ftp ftc fbp fbc fap fac⟩ 38)]
abbrev fEncodeH1 (B : Nat) (f : Fct) (ftp : OA) (ftc : Nat) (fbp : OA) (fbc : Nat) (fap : OA) (fac B1 : Nat) (cp : Value) (cb : Value) (F : SHeap) : SHeap := ((B, .cells ⟨f.cells ftp ftc fbp fbc fap fac⟩ 38) :: (B1, .cells #[.bool false, .string (⟨#[]⟩), IV 0, cp, cb] 105) :: F)
abbrev fEncodeH2 (B : Nat) (f : Fct) (ftp : OA) (ftc : Nat) (fbp : OA) (fbc : Nat) (fap : OA) (fac : Nat) (F1 : SHeap) : SHeap := ((B, .cells ⟨f.cells ftp ftc fbp fbc fap fac⟩ 38) :: F1)
abbrev fEncodeA0 (f : Fct) (ftp : OA) (ftc : Nat) (fbp : OA) (fbc : Nat) (fap : OA) (fac : Nat) : Array Value := ⟨f.cells ftp ftc fbp fbc fap fac⟩
theorem fEncode_vc (f : Fct) (ftp : OA) (ftc : Nat) (fbp : OA) (fbc : Nat) (fap : OA) (fac : Nat) (hm : Mem [] [] w0 W)
 (H :
 ∀ B : Nat,
 CallH TP 24 ⟨[.agg (fEncodeA0 f ftp ftc fbp fbc fap fac)]⟩ (fEncodeH0 B f ftp ftc fbp fbc fap fac) [] w0 (fun v L' => ∃ r1, v = .bool r1 ∧ L' = (fEncodeH0 B f ftp ftc fbp fbc fap fac) ∧
 Bb (r1)
 (∀ B1 : Nat,
 CallH TP 59 ⟨[PP B1, PP B]⟩ [(B, .cells (fEncodeA0 f ftp ftc fbp fbc fap fac) 38), (B1, .cells #[.bool false, .string (⟨#[]⟩), IV 0, .pointer none, .slice none 0 0] 105)] [] w0 (fun v L' => ∃ (cp : Value) (cb : Value), ∃ F, v = .tuple #[] ∧ L' = (fEncodeH1 B f ftp ftc fbp fbc fap fac B1 cp cb F) ∧
 CallH TP 60 ⟨[.pointer (some ⟨B1, 3, none⟩)]⟩ (fEncodeH1 B f ftp ftc fbp fbc fap fac B1 cp cb F) [] w0 (fun v L' => ∃ r21 F1, v = .string r21 ∧ L' = (fEncodeH2 B f ftp ftc fbp fbc fap fac F1) ∧
 Fin R (fEncodeH2 B f ftp ftc fbp fbc fap fac F1) [] w0 (.tuple #[.string r21, IV 0]))))
 (Fin R (fEncodeH0 B f ftp ftc fbp fbc fap fac) [] w0 (.tuple #[.string (⟨#[]⟩), IV 50])))) :
 Calls TP 20 ⟨[.agg (fEncodeA0 f ftp ftc fbp fbc fap fac)]⟩ W R:= by
 refine AtE.cs 16 Tryz.func20 hm (.ru 2 (.nH (.cells (fEncodeA0 f ftp ftc fbp fbc fap fac) 38) H fun B H => (.ru 6 (.ld 0 0 (.cl H ?_)))))
 rintro _ _ ⟨r1, rfl, rfl, H⟩
 refine .sB 6 H (fun H => ?_) fun H => ?_
 ·refine .ru 7 (.nH (.cells #[.bool false, .string (⟨#[]⟩), IV 0, .pointer none, .slice none 0 0] 105) H fun B1 H => (.ru 5 (.cl H ?_)))
  rintro _ _ ⟨cp, cb, F, rfl, rfl, H⟩
  refine .ru 6 (.cl H ?_)
  rintro _ _ ⟨r21, F1, rfl, rfl, H⟩
  refine .ru 3 (.rt Tryz.func20 H)
 ·refine .ru 8 (.rt Tryz.func20 H)
abbrev pt (B o : Nat) : Value := .pointer (some ⟨B, o, none⟩)
abbrev cloV (g kc kn : Nat) : Value := .func (.func g) #[] #[pt kc 0, pt kn 0]
def CloAt (F : SHeap) (B FB : Nat) (x : Fld) (v : Value) : Prop :=
  ∃ kc kn, (kc, .cells #[pt B 0] 100) ∈ F ∧
    ((x.ty = .int ∧ v = cloV 130 kc kn ∧ (kn, .cells #[pt FB x.off] 155) ∈ F) ∨
     (x.ty = .str ∧ v = cloV 132 kc kn ∧ (kn, .cells #[pt FB x.off] 192) ∈ F) ∨
     (x = .topics ∧ v = cloV 134 kc kn ∧ (kn, .cells #[pt FB 0] 107) ∈ F) ∨
     (x = .blocks ∧ v = cloV 136 kc kn ∧ (kn, .cells #[pt FB 0] 107) ∈ F) ∨
     (x = .label ∧ v = cloV 138 kc kn ∧ (kn, .cells #[pt FB 0] 107) ∈ F))
def Clos (F : SHeap) (B FB : Nat) : List Fld → List Value → Prop
 | [], [] => True
 | x :: l, v :: vs => CloAt F B FB x v ∧ Clos F B FB l vs
 | _, _ => False
theorem Clos.len {F : SHeap} {B FB : Nat} : ∀ {l : List Fld} {vs : List Value}, Clos F B FB l vs → vs.length = l.length
 | [], [], _ => rfl
 | x :: l, v :: vs, h => by rw [List.length_cons, List.length_cons, Clos.len h.2]
 | [], _ :: _, h => h.elim
 | _ :: _, [], h => h.elim
theorem Clos.get {F : SHeap} {B FB : Nat} : ∀ {l : List Fld} {vs : List Value} (i : Nat) (hi : i < l.length), Clos F B FB l vs → ∃ v, vs[i]? = some v ∧ CloAt F B FB l[i] v
 | x :: l, v :: vs, 0, _, h => ⟨v, rfl, h.1⟩
 | x :: l, v :: vs, i + 1, hi, h => by
  obtain ⟨u, h1, h2⟩ := Clos.get i (by simpa using hi) h.2
  exact ⟨u, by simpa using h1, by simpa using h2⟩
 | [], _, i, hi, _ => absurd hi (by simp)
 | _ :: _, [], _, _, h => h.elim
def FieldsOut (F : SHeap) (B FB : Nat) (k : Int) (v : Value) : Prop :=
 (kfields k = [] ∧ v = .slice none 0 0) ∨ ∃ Bs vs, v = .slice (SO Bs) (kfields k).length (kfields k).length ∧ (Bs, .cells ⟨vs⟩ 1) ∈ F ∧ Clos F B FB (kfields k) vs
theorem CallH.more {L : SHeap} (h : EffC P g args [] K) (hK : ∀ v F, K v F → K' v (L ++ F)) : CallH P g args L S w0 K' :=
 CallH.eff (L0 := []) (L1 := L) h (by simp) fun v L' hk => ⟨L ++ L', List.perm_append_comm, hK v L' hk⟩
theorem numB_e (NB no kc : Nat) : EffC TP 129 ⟨[pt NB no, pt kc 0]⟩ [] (fun v F => ∃ nb, v = cloV 130 kc nb ∧ F = [(nb, .cells #[pt NB no] 155)]) :=
 fun W hm => fNumB_vc NB no kc hm fun B => dkFin ⟨B, rfl, rfl⟩
theorem wordB_e (NB no kc : Nat) : EffC TP 131 ⟨[pt NB no, pt kc 0]⟩ [] (fun v F => ∃ nb, v = cloV 132 kc nb ∧ F = [(nb, .cells #[pt NB no] 192)]) :=
 fun W hm => fWordB_vc NB no kc hm fun B => dkFin ⟨B, rfl, rfl⟩
theorem cloI {F : SHeap} {B FB kc kn : Nat} {x : Fld} (h1 : (kc, .cells #[pt B 0] 100) ∈ F) (h2 : (kn, .cells #[pt FB x.off] 155) ∈ F) (hx : x.ty = .int) : CloAt F B FB x (cloV 130 kc kn) := ⟨kc, kn, h1, .inl ⟨hx, rfl, h2⟩⟩
theorem cloS {F : SHeap} {B FB kc kn : Nat} {x : Fld} (h1 : (kc, .cells #[pt B 0] 100) ∈ F) (h2 : (kn, .cells #[pt FB x.off] 192) ∈ F) (hx : x.ty = .str) : CloAt F B FB x (cloV 132 kc kn) := ⟨kc, kn, h1, .inr (.inl ⟨hx, rfl, h2⟩)⟩
theorem cloT {F : SHeap} {B FB kc kn : Nat} (h1 : (kc, .cells #[pt B 0] 100) ∈ F) (h2 : (kn, .cells #[pt FB 0] 107) ∈ F) : CloAt F B FB .topics (cloV 134 kc kn) := ⟨kc, kn, h1, .inr (.inr (.inl ⟨rfl, rfl, h2⟩))⟩
theorem cloB {F : SHeap} {B FB kc kn : Nat} (h1 : (kc, .cells #[pt B 0] 100) ∈ F) (h2 : (kn, .cells #[pt FB 0] 107) ∈ F) : CloAt F B FB .blocks (cloV 136 kc kn) := ⟨kc, kn, h1, .inr (.inr (.inr (.inl ⟨rfl, rfl, h2⟩)))⟩
theorem cloL {F : SHeap} {B FB kc kn : Nat} (h1 : (kc, .cells #[pt B 0] 100) ∈ F) (h2 : (kn, .cells #[pt FB 0] 107) ∈ F) : CloAt F B FB .label (cloV 138 kc kn) := ⟨kc, kn, h1, .inr (.inr (.inr (.inr ⟨rfl, rfl, h2⟩)))⟩
theorem fieldsOk {F : SHeap} {B FB Bs : Nat} {k : Int} {l : List Fld} {vs : List Value} (h : kfields k = l) (hm : F.getLast? = some (Bs, .cells ⟨vs⟩ 1)) (hc : Clos F B FB l vs) : FieldsOut F B FB k (.slice (SO Bs) l.length l.length) :=
 .inr ⟨Bs, vs, by rw [h], List.mem_of_getLast? hm, by rw [h]; exact hc⟩
theorem fields_e {B FB : Nat} {k : Int} : EffW TP 99 ⟨[pt B 0, pt FB 0]⟩ [] (fun W => ∃ cs, blkW W FB = some cs ∧ cs[2]? = some (.int .i64 k)) (fun v F => FieldsOut F B FB k v) := by
 rintro W hm ⟨cs, h1, h2⟩
 refine fFields_vc B FB hm fun B1 B2 => CallH.more (numB_e _ _ _) fun v F ⟨nb, hv, hF⟩ => ⟨nb, hv, by rw [hF]; rfl, cs, k, h1, h2, ?_⟩
 refine ⟨fun e => ?_, fun e1 => ⟨fun e => ?_, fun e2 => ⟨fun e => ?_, fun e3 => ⟨fun e => ?_, fun e4 => ⟨fun e => ?_, fun e5 => ⟨fun e => ?_, fun e6 => ⟨fun e => ?_, fun e10 => ⟨fun e => ?_, fun e7 => ⟨fun e => ?_, fun e8 => ⟨fun e => ?_, fun e9 => ?_⟩⟩⟩⟩⟩⟩⟩⟩⟩⟩
 ·refine CallH.more (wordB_e _ _ _) fun v F ⟨n1, hv, hF⟩ => ⟨n1, hv, by rw [hF]; rfl, ?_⟩
  refine CallH.more (numB_e _ _ _) fun v F ⟨n2, hv, hF⟩ => ⟨n2, hv, by rw [hF]; rfl, ?_⟩
  refine CallH.more (numB_e _ _ _) fun v F ⟨n3, hv, hF⟩ => ⟨n3, hv, by rw [hF]; rfl, ?_⟩
  refine CallH.more (wordB_e _ _ _) fun v F ⟨n4, hv, hF⟩ => ⟨n4, hv, by rw [hF]; rfl, ?_⟩
  refine CallH.more (wordB_e _ _ _) fun v F ⟨n5, hv, hF⟩ => ⟨n5, hv, by rw [hF]; rfl, fun B3 => dkFin ?_⟩
  exact fieldsOk (l := [.story, .lang, .rev, .base, .title, .author, .topics, .blocks, .label]) (by rw [e]; rfl) rfl ⟨cloI (by simp) (by simp [Fld.off]) rfl, cloS (by simp) (by simp [Fld.off]) rfl, cloI (by simp) (by simp [Fld.off]) rfl, cloI (by simp) (by simp [Fld.off]) rfl, cloS (by simp) (by simp [Fld.off]) rfl, cloS (by simp) (by simp [Fld.off]) rfl, cloT (by simp) (by simp), cloB (by simp) (by simp), cloL (by simp) (by simp), trivial⟩
 ·refine CallH.more (numB_e _ _ _) fun v F ⟨n1, hv, hF⟩ => ⟨n1, hv, by rw [hF]; rfl, fun B3 => dkFin ?_⟩
  exact fieldsOk (l := [.story, .editor]) (by rw [e]; rfl) rfl ⟨cloI (by simp) (by simp [Fld.off]) rfl, cloI (by simp) (by simp [Fld.off]) rfl, trivial⟩
 ·exact fun B3 => dkFin (fieldsOk (l := [.story, .label]) (by rw [e]; rfl) rfl ⟨cloI (by simp) (by simp [Fld.off]) rfl, cloL (by simp) (by simp), trivial⟩)
 ·refine CallH.more (wordB_e _ _ _) fun v F ⟨n1, hv, hF⟩ => ⟨n1, hv, by rw [hF]; rfl, ?_⟩
  refine CallH.more (numB_e _ _ _) fun v F ⟨n2, hv, hF⟩ => ⟨n2, hv, by rw [hF]; rfl, ?_⟩
  refine CallH.more (numB_e _ _ _) fun v F ⟨n3, hv, hF⟩ => ⟨n3, hv, by rw [hF]; rfl, ?_⟩
  refine CallH.more (wordB_e _ _ _) fun v F ⟨n4, hv, hF⟩ => ⟨n4, hv, by rw [hF]; rfl, fun B3 => dkFin ?_⟩
  exact fieldsOk (l := [.story, .lang, .block, .sentence, .text]) (by rw [e]; rfl) rfl ⟨cloI (by simp) (by simp [Fld.off]) rfl, cloS (by simp) (by simp [Fld.off]) rfl, cloI (by simp) (by simp [Fld.off]) rfl, cloI (by simp) (by simp [Fld.off]) rfl, cloS (by simp) (by simp [Fld.off]) rfl, trivial⟩
 ·refine CallH.more (wordB_e _ _ _) fun v F ⟨n1, hv, hF⟩ => ⟨n1, hv, by rw [hF]; rfl, fun B3 => dkFin ?_⟩
  exact fieldsOk (l := [.story, .text]) (by rw [e]; rfl) rfl ⟨cloI (by simp) (by simp [Fld.off]) rfl, cloS (by simp) (by simp [Fld.off]) rfl, trivial⟩
 ·exact fun B3 => dkFin (fieldsOk (l := [.story]) (by rw [e]; rfl) rfl ⟨cloI (by simp) (by simp [Fld.off]) rfl, trivial⟩)
 ·exact fun B3 => dkFin (fieldsOk (l := [.story]) (by rw [e]; rfl) rfl ⟨cloI (by simp) (by simp [Fld.off]) rfl, trivial⟩)
 ·refine CallH.more (wordB_e _ _ _) fun v F ⟨n1, hv, hF⟩ => ⟨n1, hv, by rw [hF]; rfl, ?_⟩
  refine CallH.more (wordB_e _ _ _) fun v F ⟨n2, hv, hF⟩ => ⟨n2, hv, by rw [hF]; rfl, fun B3 => dkFin ?_⟩
  exact fieldsOk (l := [.name, .text]) (by rw [e]; rfl) rfl ⟨cloS (by simp) (by simp [Fld.off]) rfl, cloS (by simp) (by simp [Fld.off]) rfl, trivial⟩
 ·refine CallH.more (numB_e _ _ _) fun v F ⟨n1, hv, hF⟩ => ⟨n1, hv, by rw [hF]; rfl, ?_⟩
  refine CallH.more (numB_e _ _ _) fun v F ⟨n2, hv, hF⟩ => ⟨n2, hv, by rw [hF]; rfl, ?_⟩
  refine CallH.more (numB_e _ _ _) fun v F ⟨n3, hv, hF⟩ => ⟨n3, hv, by rw [hF]; rfl, fun B3 => dkFin ?_⟩
  exact fieldsOk (l := [.partner, .cls, .unt]) (by rw [e]; rfl) rfl ⟨cloI (by simp) (by simp [Fld.off]) rfl, cloI (by simp) (by simp [Fld.off]) rfl, cloI (by simp) (by simp [Fld.off]) rfl, trivial⟩
 ·refine CallH.more (numB_e _ _ _) fun v F ⟨n1, hv, hF⟩ => ⟨n1, hv, by rw [hF]; rfl, ?_⟩
  refine CallH.more (numB_e _ _ _) fun v F ⟨n2, hv, hF⟩ => ⟨n2, hv, by rw [hF]; rfl, fun B3 => dkFin ?_⟩
  exact fieldsOk (l := [.partner, .unt]) (by rw [e]; rfl) rfl ⟨cloI (by simp) (by simp [Fld.off]) rfl, cloI (by simp) (by simp [Fld.off]) rfl, trivial⟩
 ·refine dkFin (.inl ⟨?_, rfl⟩)
  unfold kfields
  simp only [e1, e2, e3, e4, e5, e6, e7, e8, e9, e10, if_false]
theorem fld_int {f : Fct} {x : Fld} (h : x.ty = .int) : ∃ n, f.put x = Wire.enc n ∧ (∀ tp tc bp bc ap ac, (f.cells tp tc bp bc ap ac)[x.off]? = some (.int .i64 n)) ∧ (vOk x.ty (f.get x) → okInt n) := by
 cases x <;> first | exact absurd h (by decide) | exact ⟨_, rfl, fun _ _ _ _ _ _ => rfl, id⟩
theorem fld_str {f : Fct} {x : Fld} (h : x.ty = .str) : ∃ s : BA, f.put x = encS (bts s) ∧ (∀ tp tc bp bc ap ac, (f.cells tp tc bp bc ap ac)[x.off]? = some (.string s)) ∧ (vOk x.ty (f.get x) → s.size ≤ 65536) := by
 cases x <;> first | exact absurd h (by decide) | exact ⟨_, rfl, fun _ _ _ _ _ _ => rfl, id⟩
def XPre (S : List Nat) (X : SHeap) (W : World) : Prop := ∀ b c t fz, (b, Obj.cells ⟨c⟩ t fz) ∈ X → lkX S W b c
theorem wClo {X : SHeap} {B FB : Nat} {x : Fld} {v : Value} (h : CloAt X B FB x v) {f : Fct} (hv : vOk x.ty (f.get x)) : ∃ g caps, v = .func (.func g) ⟨[]⟩ ⟨caps⟩ ∧ FnReady TP g ∧
  ∀ {l : List UInt8} {p u : Value} {G : SHeap}, KRep B l p u G → l.length ≤ 800000000 → EffW TP g ⟨caps⟩ (kH B p u :: G) (fun W => XPre (nm B p u G) X W ∧ FPre (nm B p u G) f FB W) (KOut B (l ++ f.put x) (.tuple #[])) := by
 obtain ⟨kc, kn, h1, ⟨hx, rfl, h2⟩ | ⟨hx, rfl, h2⟩ | ⟨rfl, rfl, h2⟩ | ⟨rfl, rfl, h2⟩ | ⟨rfl, rfl, h2⟩⟩ := h
 ·obtain ⟨n, e1, e2, e3⟩ := fld_int (f := f) hx
  refine ⟨_, _, rfl, ⟨_, Tryz.func130, by kernel_rfl, by kernel_rfl⟩, ?_⟩
  rintro l p u G hR hl W hm ⟨hX, cs, hcs, tp, tc, bp, bc, ap, ac, rfl, hF⟩
  have q1 := hX _ _ _ _ h1; have q2 := hX _ _ _ _ h2
  rw [e1]
  refine wNumC_vc kc kn B FB x.off ⟨#[]⟩ 0 p u G hm ⟨_, q1.1, q1.2, rfl, _, q2.1, q2.2, rfl, ?_⟩
  exact CallH.effW0 (wNum_e (e3 hv) hR (by omega)) (fun W' hm' => ⟨_, lkX_old hm' (fun x hx => hx) _ _ hcs, e2 _ _ _ _ _ _⟩) fun _ F' ⟨p', v', G', hu, hL, hR⟩ => ⟨p', v', G', hu, hL, dkFin ⟨_, _, _, rfl, rfl, hR⟩⟩
 ·obtain ⟨n, e1, e2, e3⟩ := fld_str (f := f) hx
  refine ⟨_, _, rfl, ⟨_, Tryz.func132, by kernel_rfl, by kernel_rfl⟩, ?_⟩
  rintro l p u G hR hl W hm ⟨hX, cs, hcs, tp, tc, bp, bc, ap, ac, rfl, hF⟩
  have q1 := hX _ _ _ _ h1; have q2 := hX _ _ _ _ h2
  rw [e1]
  refine wWordC_vc kc kn B FB x.off ⟨#[]⟩ 0 p u G hm ⟨_, q1.1, q1.2, rfl, _, q2.1, q2.2, rfl, ?_⟩
  exact CallH.effW0 (wWord_e (e3 hv) hR (by omega)) (fun W' hm' => ⟨_, lkX_old hm' (fun x hx => hx) _ _ hcs, e2 _ _ _ _ _ _⟩) fun _ F' ⟨p', v', G', hu, hL, hR⟩ => ⟨p', v', G', hu, hL, dkFin ⟨_, _, _, rfl, rfl, hR⟩⟩
 ·refine ⟨_, _, rfl, ⟨_, Tryz.func134, by kernel_rfl, by kernel_rfl⟩, ?_⟩
  rintro l p u G hR hl W hm ⟨hX, hf⟩
  have q1 := hX _ _ _ _ h1; have q2 := hX _ _ _ _ h2
  refine wTopC_vc kc kn B FB ⟨#[]⟩ 0 p u G hm ⟨_, q1.1, q1.2, rfl, _, q2.1, q2.2, rfl, ?_⟩
  exact CallH.effW0 (wTopics_e hv hR hl) (fun W' hm' => hf.old hm' fun x hx => hx) fun _ F' ⟨p', v', G', hu, hL, hR⟩ => ⟨p', v', G', hu, hL, dkFin ⟨_, _, _, rfl, rfl, hR⟩⟩
 ·refine ⟨_, _, rfl, ⟨_, Tryz.func136, by kernel_rfl, by kernel_rfl⟩, ?_⟩
  rintro l p u G hR hl W hm ⟨hX, hf⟩
  have q1 := hX _ _ _ _ h1; have q2 := hX _ _ _ _ h2
  refine wBlkC_vc kc kn B FB ⟨#[]⟩ 0 p u G hm ⟨_, q1.1, q1.2, rfl, _, q2.1, q2.2, rfl, ?_⟩
  exact CallH.effW0 (wBlocks_e hv hR hl) (fun W' hm' => hf.old hm' fun x hx => hx) fun _ F' ⟨p', v', G', hu, hL, hR⟩ => ⟨p', v', G', hu, hL, dkFin ⟨_, _, _, rfl, rfl, hR⟩⟩
 ·refine ⟨_, _, rfl, ⟨_, Tryz.func138, by kernel_rfl, by kernel_rfl⟩, ?_⟩
  rintro l p u G hR hl W hm ⟨hX, hf⟩
  have q1 := hX _ _ _ _ h1; have q2 := hX _ _ _ _ h2
  refine wLabC_vc kc kn B FB ⟨#[]⟩ 0 p u G hm ⟨_, q1.1, q1.2, rfl, _, q2.1, q2.2, rfl, ?_⟩
  exact CallH.effW0 (wLabel_e hv hR hl) (fun W' hm' => hf.old hm' fun x hx => hx) fun _ F' ⟨p', v', G', hu, hL, hR⟩ => ⟨p', v', G', hu, hL, dkFin ⟨_, _, _, rfl, rfl, hR⟩⟩
theorem put_len {f : Fct} {x : Fld} (h : vOk x.ty (f.get x)) : (f.put x).length ≤ 400000 := by
 cases hx : x.ty with
 | int =>
  obtain ⟨n, e1, _, _⟩ := fld_int (f := f) hx
  rw [e1]; have := enc_len n; omega
 | str =>
  obtain ⟨s, e1, _, e3⟩ := fld_str (f := f) hx
  have := e3 h
  rw [e1]; have h2 := encS_len (bts s); rw [bts_len] at h2; omega
 | topics =>
  have hx : x = .topics := by cases x <;> first | rfl | exact absurd hx (by decide)
  subst hx
  have h : vOk .topics f.topics := h
  have h1 := h.1
  have h2 := flat_len (e := fun s : BA => encS (bts s)) (m := 65546) f.topics (fun x hx => by
   have := h.2 x hx; have h2 := encS_len (bts x); rw [bts_len] at h2; omega)
  have h3 : 65546 * f.topics.length ≤ 65546 * 4 := Nat.mul_le_mul_left _ h1
  have h4 := enc_len (f.topics.length : Int)
  show (Wire.enc (f.topics.length : Int) ++ f.topics.flatMap fun s : BA => encS (bts s)).length ≤ _
  rw [List.length_append]; omega
 | blocks =>
  have hx : x = .blocks := by cases x <;> first | rfl | exact absurd hx (by decide)
  subst hx
  have h : listOk f.blocks = true := h
  have h1 := encL_le h
  have h2 := encS_len (encL f.blocks)
  show (encS (encL f.blocks)).length ≤ _
  omega
 | label =>
  have hx : x = .label := by cases x <;> first | rfl | exact absurd hx (by decide)
  subst hx
  have h : vOk .label f.lab := h
  obtain ⟨v1, v2, v3, v4, v5⟩ := h
  have h2 := flat_len (e := Wire.enc) (m := 10) f.lab.after (fun x _ => enc_len x)
  have h3 := enc_len f.lab.unt; have h4 := enc_len (f.lab.after.length : Int); have h5 := enc_len f.lab.appr; have h6 := enc_len f.lab.den
  show (Wire.enc f.lab.unt ++ (Wire.enc (f.lab.after.length : Int) ++ (f.lab.after.flatMap Wire.enc ++ (Wire.enc f.lab.appr ++ Wire.enc f.lab.den)))).length ≤ _
  simp only [List.length_append]; omega
theorem kfields_len (k : Int) : (kfields k).length ≤ 9 := by
 unfold kfields
 repeat' split
 all_goals decide
theorem encF_len {f : Fct} (h : f.Good) : (encF f).length ≤ 4000000 := by
 have h1 := flat_len (e := f.put) (m := 400000) (kfields f.kind) (fun x hx => put_len (h.fields x hx))
 have h2 : 400000 * (kfields f.kind).length ≤ 400000 * 9 := Nat.mul_le_mul_left _ (kfields_len _)
 have h3 := enc_len f.n; have h4 := enc_len f.time; have h5 := enc_len f.kind
 rw [encF, Fct.head]; simp only [List.length_append]; omega
def FOut (B : Nat) (s : List UInt8) (v : Value) (L' : SHeap) : Prop := ∃ p' v' G' X, v = .tuple #[] ∧ L' = kH B p' v' :: (G' ++ X) ∧ KRep B s p' v' G'
theorem xpre_of {X L0 : SHeap} (hm : Mem (L0 ++ X) S w0 W) : XPre (L0.map (·.1)) X W :=
 fun b c t fz h => lkX_in (told := X) (F := L0) (hm.perm List.perm_append_comm) h
theorem wFact_loop {B FB Bs : Nat} {f : Fct} {X : SHeap} {vs : List Value} (hf : FPre S f FB w0) (hg : f.Good) (hrow : (Bs, .cells ⟨vs⟩ 1) ∈ X) (hc : Clos X B FB (kfields f.kind) vs) {l : List UInt8} (hl : l.length ≤ 1000) :
  ∀ (g i : Nat) (p v : Value) (G : SHeap), g + i = (kfields f.kind).length → KRep B (l ++ ((kfields f.kind).take i).flatMap f.put) p v G →
   wFact_c0 B (SO Bs) (kfields f.kind).length (kfields f.kind).length ((kfields f.kind).length : Int) (i : Int) false ⟨#[]⟩ 0 p v (G ++ X) S w0 (DK (FOut B (l ++ (kfields f.kind).flatMap f.put)) S w0)
 | 0, i, p, v, G, hi, h => by
  apply wFact_c0_vc
  rw [List.take_of_length_le (by omega)] at h
  exact no (by omega) (dkFin ⟨_, _, _, _, rfl, rfl, h⟩)
 | g + 1, i, p, v, G, hi, h => by
  apply wFact_c0_vc
  have hlt : i < (kfields f.kind).length := by omega
  obtain ⟨u, hu1, hu2⟩ := hc.get i hlt
  have hvk := hg.fields _ (List.getElem_mem hlt)
  obtain ⟨gf, caps, e1, e2, e3⟩ := wClo hu2 (f := f) hvk
  have hlen := flat_len (e := f.put) (m := 400000) ((kfields f.kind).take i) (fun x hx => put_len (hg.fields x (List.mem_of_mem_take hx)))
  have h9 := kfields_len f.kind
  rw [List.length_take] at hlen
  have hmin : 400000 * min i (kfields f.kind).length ≤ 400000 * 9 := Nat.mul_le_mul_left _ (by omega)
  refine yes (by omega) ⟨Bs, 0, rfl, by omega, vs, u, ⟨_, _, List.mem_cons_of_mem _ (List.mem_append_right _ hrow)⟩, by simpa using hu1, gf, caps, e1, e2, ?_⟩
  refine CallP.of ?_
  refine CallH.effW (L0 := kH B p v :: G) (L1 := X) (e3 h (by rw [List.length_append]; omega)) (fun W' hm' => ⟨xpre_of hm', hf.old hm' fun x hx => List.mem_append_left _ hx⟩) (List.Perm.refl _) fun _ F' ⟨p', v', G', hu, hL, hR⟩ => ⟨kH B p' v' :: (G' ++ X), by rw [hL]; exact List.Perm.refl _, p', v', G' ++ X, hu, rfl, ?_⟩
  rw [wi64 (by omega), show (i : Int) + 1 = ((i + 1 : Nat) : Int) by omega]
  refine wFact_loop hf hg hrow hc hl g (i + 1) p' v' G' (by omega) ?_
  rw [flat_take hlt, ← List.append_assoc]
  exact hR
theorem wFact_e {B FB : Nat} {f : Fct} {p v : Value} {G : SHeap} (hg : f.Good) (h : KRep B [] p v G) :
  EffW TP 59 ⟨[.pointer (SO B), .pointer (SO FB)]⟩ (kH B p v :: G) (FPre (nm B p v G) f FB) (FOut B (encF f)) := by
 intro W hm hf
 have hf' := hf
 obtain ⟨cs, hcs, tp, tc, bp, bc, ap, ac, rfl, hF⟩ := hf
 have i1 := hg.n; have i2 := hg.time; have i3 := hg.kind
 have h3 := enc_len f.n; have h4 := enc_len f.time; have h5 := enc_len f.kind
 refine wFact_vc B FB ⟨#[]⟩ 0 p v G hm ?_
 refine CallH.effW0 (wNum_e (n := f.n) (okI (by omega)) h (by simp)) (fun W' hm' => ⟨_, lkX_old hm' (fun x hx => hx) _ _ hcs, rfl⟩) fun u F' ⟨p1, v1, G1, hu, hL, hR⟩ => ⟨p1, v1, G1, hu, hL, ?_⟩
 refine CallH.effW0 (wNum_e (n := f.time) (okI (by omega)) hR (by rw [List.length_append, List.length_nil]; omega)) (fun W' hm' => ⟨_, lkX_old hm' (fun x hx => hx) _ _ hcs, rfl⟩) fun u F' ⟨p2, v2, G2, hu, hL, hR⟩ => ⟨p2, v2, G2, hu, hL, ?_⟩
 refine CallH.effW0 (wNum_e (n := f.kind) (okI (by omega)) hR (by simp only [List.length_append, List.length_nil]; omega)) (fun W' hm' => ⟨_, lkX_old hm' (fun x hx => hx) _ _ hcs, rfl⟩) fun u F' ⟨p3, v3, G3, hu, hL, hR⟩ => ⟨p3, v3, G3, hu, hL, ?_⟩
 refine CallH.effW (L0 := []) (L1 := kH B p3 v3 :: G3) (fields_e (k := f.kind)) (fun W' hm' => ⟨_, (lkX_old hm' (F := []) (by simp) _ _ hcs).2, rfl⟩) (by simp) fun u X hX => ?_
 rcases hX with ⟨h0, _⟩ | ⟨Bs, vs, rfl, hrow, hc⟩
 ·exact absurd h0 (kfields_pos hg.kind)
 refine ⟨kH B p3 v3 :: (G3 ++ X), List.perm_append_comm, _, _, _, G3 ++ X, rfl, rfl, fun h0 => ?_, fun h0 => ?_⟩
 ·have := List.length_pos_iff.2 (kfields_pos hg.kind)
  omega
 have := wFact_loop (B := B) (FB := FB) hf' hg hrow hc (l := f.head) (by rw [Fct.head]; simp only [List.length_append]; omega) (kfields f.kind).length 0 p3 v3 G3 (by omega) (by simpa [Fct.head] using hR)
 exact this
def encFAns (f : Fct) : Value := if f.ok = true then .tuple #[.string (ba (encF f)), .int .i64 0] else .tuple #[.string ⟨#[]⟩, .int .i64 50]
theorem fEncode_c {f : Fct} (h : FAt (lkW W) f tp tc bp bc ap ac) : PW TP 20 ⟨[.agg ⟨f.cells tp tc bp bc ap ac⟩]⟩ W (encFAns f) := by
 refine fEncode_vc f tp tc bp bc ap ac (Mem.start [] W) fun B => ?_
 refine CallH.pw (fun W' hm' => fValid_c (h.mono (lkW_kept hm'))) ⟨_, rfl, rfl, fun hv => fun B1 => ?_, fun hv => finPW (by rw [encFAns, hv]; rfl)⟩
 have hg := Fct.good hv
 have hlen := encF_len hg
 refine CallH.effWT [(B, Obj.cells ⟨f.cells tp tc bp bc ap ac⟩ 38)] (wFact_e hg (KRep.new B1)) (fun W' hm' => ⟨_, lkX_in hm' (List.mem_singleton.2 rfl), _, _, _, _, _, _, rfl, h.mono fun b c hb => lkX_of hm' b c (.inr hb)⟩) fun u F' ⟨p', v', G', X, hu, hL, hR⟩ => ⟨p', v', G' ++ X, hu, by rw [hL]; rfl, ?_⟩
 refine CallH.eff (L0 := kH B1 p' v' :: G') (L1 := X ++ [(B, Obj.cells ⟨f.cells tp tc bp bc ap ac⟩ 38)]) (kstring_e hR (by omega)) ?_ fun u F' hu => ⟨(B, Obj.cells ⟨f.cells tp tc bp bc ap ac⟩ 38) :: (F' ++ X), ?_, _, F' ++ X, hu, rfl, finPW ?_⟩
 ·show (kH B1 p' v' :: G' ++ (X ++ [(B, Obj.cells ⟨f.cells tp tc bp bc ap ac⟩ 38)])).Perm ([(B, Obj.cells ⟨f.cells tp tc bp bc ap ac⟩ 38)] ++ (kH B1 p' v' :: (G' ++ X)))
  rw [← List.append_assoc]
  exact List.perm_append_comm
 ·rw [← List.append_assoc]
  exact List.perm_append_comm (l₁ := F' ++ X) (l₂ := [(B, Obj.cells ⟨f.cells tp tc bp bc ap ac⟩ 38)])
 ·rw [encFAns, hv]; rfl
set_option maxRecDepth 100000
abbrev zF12aa (x0 : BA) (x1 : Int) : Array Value := #[.bool true, .string x0, IV x1, .pointer none, .slice none 0 0]
theorem rNum_vc (B NB no : Nat) (tx : BA) (ca : Int) (tn : Nat) (cs : List Value) (hm : Mem [(B, .cells (zF12aa tx ca) 105), (NB, .cells ⟨cs⟩ tn)] S w0 W)
 (H :
 ∃ (r1 : Int) (r21 : Int) (r31 : Int), (QCall TP 83 ⟨[.string tx, IV ca]⟩ [(B, .cells (zF12aa tx ca) 105), (NB, .cells ⟨cs⟩ tn)] S w0 (.tuple #[IV r1, IV r21, IV r31])) ∧
 Bn (r31 = 0)
 (FinP R [(B, .cells (zF12aa tx ca) 105), (NB, .cells ⟨cs⟩ tn)] S w0 [{ v := .iface 25 (IV 10), recovered := false }])
 ((no < (cs).length) ∧
 Fin R [(B, .cells (zF12aa tx r21) 105), (NB, .cells ⟨((cs).set no (IV r1))⟩ tn)] S w0 (.tuple #[]))) :
 Calls TP 98 ⟨[PP B, .pointer (some ⟨NB, no, none⟩)]⟩ W R:= by
 refine AtE.cs 49 Tryz.func98 hm (.ru 6 (.load 0 0 (T := 4) (v := .bool true) (by kernel_rfl) (.ru 5 (.nm (KC Tryz.f98 6) [(0, PP B), (1, .pointer (some ⟨NB, no, none⟩))] [(B, .cells (zF12aa tx ca) 105), (NB, .cells ⟨cs⟩ tn)] (.dr 16 (.pu (.pu (.pu (.load 0 1 (T := 9) (v := .string tx) (by kernel_rfl) (.pu (.pu (.pu (.load 0 2 (T := 3) (v := IV ca) (by kernel_rfl) ?_)))))))))))))
 obtain ⟨r1, r21, r31, hq, H⟩ := H
 refine .cl hq (.pu (.pu (.pu (.pu (.pu (.pu (.pu (.dn (.ru 7 (.sN 40 H (fun H => ?_) fun H => ?_))))))))))
 ·refine .ru 3 (.panic (t := 25) (v := IV 10) (by kernel_rfl) ?_)
  exact RaiseE.nrm Tryz.func98 H
 ·refine .ru 8 (.storeS 1 (off := no) (lo := 0) (hi := 0) (T := 3) (v := IV r1) (c := cs) (by kernel_rfl) H.1 (.inr (Nat.zero_le _)) ?_)
  replace H := H.2
  refine .ru 2 (.store 0 2 (T := 3) (v := IV r21) (by kernel_rfl) (.ru 1 (.rt Tryz.func98 H)))
theorem rWord_vc (B NB no : Nat) (tx : BA) (ca : Int) (tn : Nat) (cs : List Value) (hm : Mem [(B, .cells (zF12aa tx ca) 105), (NB, .cells ⟨cs⟩ tn)] S w0 W)
 (H :
 ∃ (r1 : BA) (r21 : Int) (r31 : Int), (QCall TP 122 ⟨[.string tx, IV ca]⟩ [(B, .cells (zF12aa tx ca) 105), (NB, .cells ⟨cs⟩ tn)] S w0 (.tuple #[.string r1, IV r21, IV r31])) ∧
 Bn (r31 = 0)
 (FinP R [(B, .cells (zF12aa tx ca) 105), (NB, .cells ⟨cs⟩ tn)] S w0 [{ v := .iface 25 (IV 10), recovered := false }])
 ((no < (cs).length) ∧
 Fin R [(B, .cells (zF12aa tx r21) 105), (NB, .cells ⟨((cs).set no (.string r1))⟩ tn)] S w0 (.tuple #[]))) :
 Calls TP 133 ⟨[PP B, .pointer (some ⟨NB, no, none⟩)]⟩ W R:= by
 refine AtE.cs 49 Tryz.func133 hm (.ru 6 (.load 0 0 (T := 4) (v := .bool true) (by kernel_rfl) (.ru 5 (.nm (KC Tryz.f133 6) [(0, PP B), (1, .pointer (some ⟨NB, no, none⟩))] [(B, .cells (zF12aa tx ca) 105), (NB, .cells ⟨cs⟩ tn)] (.dr 16 (.pu (.pu (.pu (.load 0 1 (T := 9) (v := .string tx) (by kernel_rfl) (.pu (.pu (.pu (.load 0 2 (T := 3) (v := IV ca) (by kernel_rfl) ?_)))))))))))))
 obtain ⟨r1, r21, r31, hq, H⟩ := H
 refine .cl hq (.pu (.pu (.pu (.pu (.pu (.pu (.pu (.dn (.ru 7 (.sN 40 H (fun H => ?_) fun H => ?_))))))))))
 ·refine .ru 3 (.panic (t := 25) (v := IV 10) (by kernel_rfl) ?_)
  exact RaiseE.nrm Tryz.func133 H
 ·refine .ru 8 (.storeS 1 (off := no) (lo := 0) (hi := 0) (T := 9) (v := .string r1) (c := cs) (by kernel_rfl) H.1 (.inr (Nat.zero_le _)) ?_)
  replace H := H.2
  refine .ru 2 (.store 0 2 (T := 3) (v := IV r21) (by kernel_rfl) (.ru 1 (.rt Tryz.func133 H)))
abbrev rCountH0 (B : Nat) (tx : BA) (ca1 : Int) (B1 : Nat) (m : Int) : SHeap := [(B, .cells (zF12aa tx ca1) 105), (B1, .cells #[IV m] 3)]
theorem rCount_vc (B : Nat) (size most : Int) (tx : BA) (ca : Int) (hm : Mem [(B, .cells (zF12aa tx ca) 105)] S w0 W)
 (H :
 ∀ B1 : Nat,
 CallP TP 98 ⟨[PP B, PP B1]⟩ [(B, .cells (zF12aa tx ca) 105), (B1, .cells #[IV size] 3)] S w0 (fun v L' => ∃ (ca1 : Int) (m : Int), v = .tuple #[] ∧ L' = (rCountH0 B tx ca1 B1 m) ∧
 Br ((0 : Int) ≤ m)
 (Bn (m ≤ most)
 (FinP R (rCountH0 B tx ca1 B1 m) S w0 [{ v := .iface 25 (IV 50), recovered := false }])
 (Fin R (rCountH0 B tx ca1 B1 m) S w0 (IV m)))
 (FinP R (rCountH0 B tx ca1 B1 m) S w0 [{ v := .iface 25 (IV 50), recovered := false }])) (fun ch L' => FinP R L' S w0 ch)) :
 Calls TP 168 ⟨[PP B, IV size, IV most]⟩ W R:= by
 refine AtE.cs 21 Tryz.func168 hm (.ru 2 (.nH (.cells #[IV size] 3) H fun B1 H => (.ru 5 (.callP 98 ⟨[PP B, PP B1]⟩ (fun W => by kernel_rfl) (by kernel_rfl) H ?_ (fun ch L' h => RaiseE.nrm Tryz.func168 h)))))
 rintro _ _ ⟨ca1, m, rfl, rfl, H⟩
 refine .ru 7 (.load 0 0 (T := 4) (v := .bool true) (by kernel_rfl) (.ru 1 (.load 1 0 (T := 3) (v := IV m) (by kernel_rfl) (.ru 1 (.nm (KR Tryz.f168 28 [7,8,9]) [(4, PP B1), (13, .bool true), (14, IV m), (15, IV most)] (rCountH0 B tx ca1 B1 m) (.il 64 [IV m, IV 0, IV most] 15 Tryz.func64 (.ru 10 (.sP 10 H (fun H => ?_) fun H => ?_))))))))
 ·refine .ru 6 (.rk Tryz.func64 (.ru 3 (.sN 18 H (fun H => ?_) fun H => ?_)))
  ·refine .ru 3 (.panic (t := 25) (v := IV 50) (by kernel_rfl) ?_)
   exact RaiseE.nrm Tryz.func168 H
  ·refine .ru 4 (.load 1 0 (T := 3) (v := IV m) (by kernel_rfl) (.ru 2 (.rt Tryz.func168 H)))
 ·refine .ru 6 (.rk Tryz.func64 (.ru 6 (.panic (t := 25) (v := IV 50) (by kernel_rfl) ?_)))
  exact RaiseE.nrm Tryz.func168 H
set_option maxRecDepth 100000
abbrev zF13aa (x0 : BA) (x1 : Int) : Array Value := #[.bool true, .string x0, IV x1, .pointer none, .slice none 0 0]
abbrev zF13ab (x0 : Fct) (x1 x2 x3 x4 x5 : Nat) (x6 x7 : OA) : Array Value := #[IV x0.n, IV x0.time, IV x0.kind, IV x0.story, .string x0.lang, IV x0.rev, IV x0.base, .string x0.title, .string x0.author, .slice (SO x1) x2 x3, .slice x6 x0.blocks.length x4, IV x0.lab.unt, .slice x7 x0.lab.after.length x5, IV x0.lab.appr, IV x0.lab.den, IV x0.editor, IV x0.block, IV x0.sentence, .string x0.text, .string x0.name, IV x0.partner, IV x0.cls, IV x0.unt]
abbrev rTopicsH0 (B2 : Nat) (tx : BA) (m2 : Int) (B3 : Nat) (x : Fct) (B4 m9_l m9_c : Nat) (xbp : OA) (xbc : Nat) (xap : OA) (xac : Nat) (cs : List Value) : SHeap := [(B2, .cells (zF13aa tx m2) 105), (B3, .cells (zF13ab x B4 m9_l m9_c xbc xac xbp xap) 38), (B4, .cells ⟨cs⟩ 9)]
abbrev rTopicsH1 (B : Nat) (tx : BA) (ca : Int) (FB : Nat) (x : Fct) (xtp : OA) (xtc : Nat) (xbp : OA) (xbc : Nat) (xap : OA) (xac : Nat) : SHeap := [(B, .cells (zF13aa tx ca) 105), (FB, .cells ⟨x.cells xtp xtc xbp xbc xap xac⟩ 38)]
def rTopics_c0 (x : Fct) (xtp : OA) (xtc : Nat) (xbp : OA) (xbc : Nat) (xap : OA) (xac : Nat) (tx : BA) (B2 B3 B4 : Nat) (t23 t24 m2 : Int) (m9_l m9_c : Nat) (cs : List Value) (S : List Nat) (w0 : World) (R : Ending → World → Prop) : Prop :=
 AtE TP 135 35 (KC Tryz.f135 60) [(0, PP B2), (1, .pointer (some ⟨B3, 9, none⟩)), (23, IV t23), (24, IV t24)] (rTopicsH0 B2 tx m2 B3 x B4 m9_l m9_c xbp xbc xap xac cs) S w0 (nrm R)
theorem rTopics_c0_vc (x : Fct) (xtp : OA) (xtc : Nat) (xbp : OA) (xbc : Nat) (xap : OA) (xac : Nat) (tx : BA) (B2 B3 B4 : Nat) (t23 t24 m2 : Int) (m9_l m9_c : Nat) (cs : List Value)
 (H :
 Br (t24 < t23)
 ((0 ≤ t24 ∧ t24 < m9_l) ∧
 CallP TP 133 ⟨[PP B2, .pointer (some ⟨B4, (Int.toNat t24), none⟩)]⟩ (rTopicsH0 B2 tx m2 B3 x B4 m9_l m9_c xbp xbc xap xac cs) S w0 (fun v L' => ∃ (ca2 : Int) (cs1 : List Value), v = .tuple #[] ∧ L' = [(B2, .cells (zF13aa tx ca2) 105), (B3, .cells (zF13ab x B4 m9_l m9_c xbc xac xbp xap) 38), (B4, .cells ⟨cs1⟩ 9)] ∧
 rTopics_c0 x xtp xtc xbp xbc xap xac tx B2 B3 B4 t23 (IntKind.i64.wrap (t24 + (1 : Int))) ca2 m9_l m9_c cs1 S w0 R) (fun ch L' => FinP R L' S w0 ch))
 (Fin R (rTopicsH0 B2 tx m2 B3 x B4 m9_l m9_c xbp xbc xap xac cs) S w0 (.tuple #[]))) :
 rTopics_c0 x xtp xtc xbp xbc xap xac tx B2 B3 B4 t23 t24 m2 m9_l m9_c cs S w0 R:= by
 unfold rTopics_c0
 refine .ru 5 (.sP 25 H (fun H => ?_) fun H => ?_)
 ·refine .ru 13 (.load 1 9 (T := 32) (v := .slice (SO B4) m9_l m9_c) (by kernel_rfl) (.ru 1 (.indexAddrL (E := 9) (b := B4) (o := 0) (len := m9_l) (cap := m9_c) (sz := 1) (o' := (Int.toNat t24)) (kd := .i64) (i := t24) (by kernel_rfl) H.1 (by omega) ?_)))
  replace H := H.2
  refine .callP 133 ⟨[PP B2, .pointer (some ⟨B4, (Int.toNat t24), none⟩)]⟩ (fun W => by kernel_rfl) (by kernel_rfl) H ?_ (fun ch L' h => RaiseE.nrm Tryz.func135 h)
  rintro _ _ ⟨ca2, cs1, rfl, rfl, H⟩
  refine .ru 7 (.ct [0,1,2] H)
 ·refine .ru 2 (.rt Tryz.func135 H)
theorem rTopics_vc (B FB : Nat) (tx : BA) (ca : Int) (x : Fct) (xtp : OA) (xtc : Nat) (xbp : OA) (xbc : Nat) (xap : OA) (xac : Nat) (hm : Mem (rTopicsH1 B tx ca FB x xtp xtc xbp xbc xap xac) S w0 W)
 (H :
 CallP TP 168 ⟨[PP B, IV (x.topics.length : Int), IV 4]⟩ (rTopicsH1 B tx ca FB x xtp xtc xbp xbc xap xac) S w0 (fun v L' => ∃ r1, ∃ (ca1 : Int), v = IV r1 ∧ L' = [(B, .cells (zF13aa tx ca1) 105), (FB, .cells ⟨x.cells xtp xtc xbp xbc xap xac⟩ 38)] ∧
 (0 ≤ r1 ∧ r1 ≤ r1 ∧ 16 * r1 ≤ 281474976710656 ∧ r1 ≤ 9223372036854775807) ∧
 ∀ B1 : Nat,
 rTopics_c0 x xtp xtc xbp xbc xap xac tx B FB B1 ((Int.toNat r1) : Int) (0 : Int) ca1 (Int.toNat r1) (Int.toNat r1) (List.replicate (Int.toNat r1) (.string (⟨#[]⟩))) S w0 R) (fun ch L' => FinP R L' S w0 ch)) :
 Calls TP 135 ⟨[PP B, .pointer (some ⟨FB, 9, none⟩)]⟩ W R:= by
 refine AtE.cs 35 Tryz.func135 hm (.ru 5 (.load 1 9 (T := 32) (v := .slice xtp x.topics.length xtc) (by kernel_rfl) (.ru 1 (.callP 168 ⟨[PP B, IV (x.topics.length : Int), IV 4]⟩ (fun W => by kernel_rfl) (by kernel_rfl) H ?_ (fun ch L' h => RaiseE.nrm Tryz.func135 h)))))
 rintro _ _ ⟨r1, ca1, rfl, rfl, H⟩
 refine .ru 8 (.load 0 0 (T := 4) (v := .bool true) (by kernel_rfl) (.ru 5 (.make (E := 9) (kl := .i64) (kc := .i64) (n := r1) (m := r1) (z := .string (⟨#[]⟩)) (bytes := 16) (by kernel_rfl) H.1 (fun B1 => ?_))))
 replace H := H.2 B1
 refine .ru 1 (.store 1 9 (T := 32) (v := .slice (SO B1) (Int.toNat r1) (Int.toNat r1)) (by kernel_rfl) (.ru 5 (.load 1 9 (T := 32) (v := .slice (SO B1) (Int.toNat r1) (Int.toNat r1)) (by kernel_rfl) (.ru 5 (.ct [0,1,2] H)))))
abbrev rBlocksH0 (B : Nat) (tx : BA) (ca1 : Int) (FB : Nat) (x : Fct) (xtp : OA) (xtc : Nat) (xbp : OA) (xbc : Nat) (xap : OA) (xac B1 : Nat) (m : BA) (F : SHeap) : SHeap := ((B, .cells (zF13aa tx ca1) 105) :: (FB, .cells ⟨x.cells xtp xtc xbp xbc xap xac⟩ 38) :: (B1, .cells #[.string m] 9) :: F)
abbrev rBlocksH1 (B : Nat) (tx : BA) (ca1 : Int) (FB : Nat) (x : Fct) (xtp : OA) (xtc : Nat) (xbp : OA) (xbc : Nat) (xap : OA) (xac B1 : Nat) (m : BA) : SHeap := [(B, .cells (zF13aa tx ca1) 105), (FB, .cells ⟨x.cells xtp xtc xbp xbc xap xac⟩ 38), (B1, .cells #[.string m] 9)]
abbrev rBlocksA0 (x : Fct) (xtp : OA) (xtc : Nat) (xbp : OA) (xbc : Nat) (xap : OA) (xac : Nat) : Array Value := ⟨x.cells xtp xtc xbp xbc xap xac⟩
theorem rBlocks_vc (B FB : Nat) (tx : BA) (ca : Int) (x : Fct) (xtp : OA) (xtc : Nat) (xbp : OA) (xbc : Nat) (xap : OA) (xac : Nat) (hm : Mem [(B, .cells (zF13aa tx ca) 105), (FB, .cells (rBlocksA0 x xtp xtc xbp xbc xap xac) 38)] S w0 W)
 (H :
 ∀ B1 : Nat,
 CallP TP 133 ⟨[PP B, PP B1]⟩ [(B, .cells (zF13aa tx ca) 105), (FB, .cells (rBlocksA0 x xtp xtc xbp xbc xap xac) 38), (B1, .cells #[.string (⟨#[]⟩)] 9)] S w0 (fun v L' => ∃ (ca1 : Int) (m : BA), v = .tuple #[] ∧ L' = (rBlocksH1 B tx ca1 FB x xtp xtc xbp xbc xap xac B1 m) ∧
 CallH TP 170 ⟨[.string m]⟩ (rBlocksH1 B tx ca1 FB x xtp xtc xbp xbc xap xac B1 m) S w0 (fun v L' => ∃ (r1_p : OA) (r1_l : Nat) (r1_c : Nat), ∃ r21 F, v = (.tuple #[.slice r1_p r1_l r1_c, IV r21]) ∧ L' = (rBlocksH0 B tx ca1 FB x xtp xtc xbp xbc xap xac B1 m F) ∧
 Bn (r21 = 0)
 (FinP R (rBlocksH0 B tx ca1 FB x xtp xtc xbp xbc xap xac B1 m F) S w0 [{ v := .iface 25 (IV 50), recovered := false }])
 (Fin R ((B, .cells (zF13aa tx ca1) 105) :: (FB, .cells #[IV x.n, IV x.time, IV x.kind, IV x.story, .string x.lang, IV x.rev, IV x.base, .string x.title, .string x.author, .slice xtp x.topics.length xtc, .slice r1_p r1_l r1_c, IV x.lab.unt, .slice xap x.lab.after.length xac, IV x.lab.appr, IV x.lab.den, IV x.editor, IV x.block, IV x.sentence, .string x.text, .string x.name, IV x.partner, IV x.cls, IV x.unt] 38) :: (B1, .cells #[.string m] 9) :: F) S w0 (.tuple #[])))) (fun ch L' => FinP R L' S w0 ch)) :
 Calls TP 137 ⟨[PP B, .pointer (some ⟨FB, 10, none⟩)]⟩ W R:= by
 refine AtE.cs 36 Tryz.func137 hm (.ru 2 (.nH (.cells #[.string (⟨#[]⟩)] 9) H fun B1 H => (.store 2 0 (T := 9) (v := .string (⟨#[]⟩)) (by kernel_rfl) (.ru 7 (.load 0 0 (T := 4) (v := .bool true) (by kernel_rfl) (.ru 7 (.callP 133 ⟨[PP B, PP B1]⟩ (fun W => by kernel_rfl) (by kernel_rfl) H ?_ (fun ch L' h => RaiseE.nrm Tryz.func137 h))))))))
 rintro _ _ ⟨ca1, m, rfl, rfl, H⟩
 refine .ru 6 (.load 0 0 (T := 4) (v := .bool true) (by kernel_rfl) (.ru 4 (.load 2 0 (T := 9) (v := .string m) (by kernel_rfl) (.cl H ?_))))
 rintro _ _ ⟨r1_p, r1_l, r1_c, r21, F, rfl, rfl, H⟩
 refine .ru 12 (.sN 31 H (fun H => ?_) fun H => ?_)
 ·refine .ru 3 (.panic (t := 25) (v := IV 50) (by kernel_rfl) ?_)
  exact RaiseE.nrm Tryz.func137 H
 ·refine .ru 6 (.store 1 10 (T := 33) (v := .slice r1_p r1_l r1_c) (by kernel_rfl) (.ru 1 (.rt Tryz.func137 H)))
set_option maxRecDepth 100000
abbrev zF14aa (x0 : BA) (x1 : Int) : Array Value := #[.bool true, .string x0, IV x1, .pointer none, .slice none 0 0]
abbrev zF14ab (x0 : Fct) (x1 : Int) (x2 x3 x4 : Nat) (x5 x6 x7 : OA) : Array Value := #[IV x0.n, IV x0.time, IV x0.kind, IV x0.story, .string x0.lang, IV x0.rev, IV x0.base, .string x0.title, .string x0.author, .slice x5 x0.topics.length x2, .slice x6 x0.blocks.length x3, IV x1, .slice x7 x0.lab.after.length x4, IV x0.lab.appr, IV x0.lab.den, IV x0.editor, IV x0.block, IV x0.sentence, .string x0.text, .string x0.name, IV x0.partner, IV x0.cls, IV x0.unt]
abbrev rLabelH0 (B2 : Nat) (tx : BA) (m2 : Int) (B3 : Nat) (x : Fct) (xtp : OA) (xtc : Nat) (xbp : OA) (xbc : Nat) (m11 : Int) (B4 m12_l m12_c : Nat) (cs : List Value) : SHeap := [(B2, .cells (zF14aa tx m2) 105), (B3, .cells #[IV x.n, IV x.time, IV x.kind, IV x.story, .string x.lang, IV x.rev, IV x.base, .string x.title, .string x.author, .slice xtp x.topics.length xtc, .slice xbp x.blocks.length xbc, IV m11, .slice (SO B4) m12_l m12_c, IV x.lab.appr, IV x.lab.den, IV x.editor, IV x.block, IV x.sentence, .string x.text, .string x.name, IV x.partner, IV x.cls, IV x.unt] 38), (B4, .cells ⟨cs⟩ 3)]
abbrev rLabelH1 (B : Nat) (tx : BA) (ca : Int) (FB : Nat) (x : Fct) (xtp : OA) (xtc : Nat) (xbp : OA) (xbc : Nat) (xap : OA) (xac : Nat) : SHeap := [(B, .cells (zF14aa tx ca) 105), (FB, .cells ⟨x.cells xtp xtc xbp xbc xap xac⟩ 38)]
abbrev rLabelH2 (B : Nat) (tx : BA) (ca1 : Int) (FB : Nat) (x : Fct) (xtp : OA) (xtc : Nat) (xbp : OA) (xbc : Nat) (m : Int) (xap : OA) (xac : Nat) : SHeap := [(B, .cells (zF14aa tx ca1) 105), (FB, .cells (zF14ab x m xtc xbc xac xtp xbp xap) 38)]
abbrev rLabelH3 (B2 : Nat) (tx : BA) (ca4 : Int) (B3 : Nat) (x : Fct) (xtp : OA) (xtc : Nat) (xbp : OA) (xbc : Nat) (m11 : Int) (B4 m12_l m12_c : Nat) (m1 : Int) (cs : List Value) : SHeap := [(B2, .cells (zF14aa tx ca4) 105), (B3, .cells #[IV x.n, IV x.time, IV x.kind, IV x.story, .string x.lang, IV x.rev, IV x.base, .string x.title, .string x.author, .slice xtp x.topics.length xtc, .slice xbp x.blocks.length xbc, IV m11, .slice (SO B4) m12_l m12_c, IV m1, IV x.lab.den, IV x.editor, IV x.block, IV x.sentence, .string x.text, .string x.name, IV x.partner, IV x.cls, IV x.unt] 38), (B4, .cells ⟨cs⟩ 3)]
abbrev rLabelH4 (B2 : Nat) (tx : BA) (ca5 : Int) (B3 : Nat) (x : Fct) (xtp : OA) (xtc : Nat) (xbp : OA) (xbc : Nat) (m11 : Int) (B4 m12_l m12_c : Nat) (m1 m3 : Int) (cs : List Value) : SHeap := [(B2, .cells (zF14aa tx ca5) 105), (B3, .cells #[IV x.n, IV x.time, IV x.kind, IV x.story, .string x.lang, IV x.rev, IV x.base, .string x.title, .string x.author, .slice xtp x.topics.length xtc, .slice xbp x.blocks.length xbc, IV m11, .slice (SO B4) m12_l m12_c, IV m1, IV m3, IV x.editor, IV x.block, IV x.sentence, .string x.text, .string x.name, IV x.partner, IV x.cls, IV x.unt] 38), (B4, .cells ⟨cs⟩ 3)]
def rLabel_c0 (x : Fct) (xtp : OA) (xtc : Nat) (xbp : OA) (xbc : Nat) (xap : OA) (xac : Nat) (tx : BA) (B2 B3 B4 : Nat) (t31 t32 m2 m11 : Int) (m12_l m12_c : Nat) (cs : List Value) (S : List Nat) (w0 : World) (R : Ending → World → Prop) : Prop :=
 AtE TP 139 54 (KC Tryz.f139 244) [(0, PP B2), (1, .pointer (some ⟨B3, 11, none⟩)), (31, IV t31), (32, IV t32)] (rLabelH0 B2 tx m2 B3 x xtp xtc xbp xbc m11 B4 m12_l m12_c cs) S w0 (nrm R)
theorem rLabel_c0_vc (x : Fct) (xtp : OA) (xtc : Nat) (xbp : OA) (xbc : Nat) (xap : OA) (xac : Nat) (tx : BA) (B2 B3 B4 : Nat) (t31 t32 m2 m11 : Int) (m12_l m12_c : Nat) (cs : List Value)
 (H :
 Br (t32 < t31)
 ((0 ≤ t32 ∧ t32 < m12_l) ∧
 CallP TP 98 ⟨[PP B2, .pointer (some ⟨B4, (Int.toNat t32), none⟩)]⟩ (rLabelH0 B2 tx m2 B3 x xtp xtc xbp xbc m11 B4 m12_l m12_c cs) S w0 (fun v L' => ∃ (ca3 : Int) (cs1 : List Value), v = .tuple #[] ∧ L' = [(B2, .cells (zF14aa tx ca3) 105), (B3, .cells #[IV x.n, IV x.time, IV x.kind, IV x.story, .string x.lang, IV x.rev, IV x.base, .string x.title, .string x.author, .slice xtp x.topics.length xtc, .slice xbp x.blocks.length xbc, IV m11, .slice (SO B4) m12_l m12_c, IV x.lab.appr, IV x.lab.den, IV x.editor, IV x.block, IV x.sentence, .string x.text, .string x.name, IV x.partner, IV x.cls, IV x.unt] 38), (B4, .cells ⟨cs1⟩ 3)] ∧
 rLabel_c0 x xtp xtc xbp xbc xap xac tx B2 B3 B4 t31 (IntKind.i64.wrap (t32 + (1 : Int))) ca3 m11 m12_l m12_c cs1 S w0 R) (fun ch L' => FinP R L' S w0 ch))
 (CallP TP 98 ⟨[PP B2, .pointer (some ⟨B3, 13, none⟩)]⟩ (rLabelH0 B2 tx m2 B3 x xtp xtc xbp xbc m11 B4 m12_l m12_c cs) S w0 (fun v L' => ∃ (ca4 : Int) (m1 : Int), v = .tuple #[] ∧ L' = (rLabelH3 B2 tx ca4 B3 x xtp xtc xbp xbc m11 B4 m12_l m12_c m1 cs) ∧
 CallP TP 98 ⟨[PP B2, .pointer (some ⟨B3, 14, none⟩)]⟩ (rLabelH3 B2 tx ca4 B3 x xtp xtc xbp xbc m11 B4 m12_l m12_c m1 cs) S w0 (fun v L' => ∃ (ca5 : Int) (m3 : Int), v = .tuple #[] ∧ L' = (rLabelH4 B2 tx ca5 B3 x xtp xtc xbp xbc m11 B4 m12_l m12_c m1 m3 cs) ∧
 Fin R (rLabelH4 B2 tx ca5 B3 x xtp xtc xbp xbc m11 B4 m12_l m12_c m1 m3 cs) S w0 (.tuple #[])) (fun ch L' => FinP R L' S w0 ch)) (fun ch L' => FinP R L' S w0 ch))) :
 rLabel_c0 x xtp xtc xbp xbc xap xac tx B2 B3 B4 t31 t32 m2 m11 m12_l m12_c cs S w0 R:= by
 unfold rLabel_c0
 refine .ru 5 (.sP 33 H (fun H => ?_) fun H => ?_)
 ·refine .ru 14 (.load 1 12 (T := 34) (v := .slice (SO B4) m12_l m12_c) (by kernel_rfl) (.ru 1 (.indexAddrL (E := 3) (b := B4) (o := 0) (len := m12_l) (cap := m12_c) (sz := 1) (o' := (Int.toNat t32)) (kd := .i64) (i := t32) (by kernel_rfl) H.1 (by omega) ?_)))
  replace H := H.2
  refine .callP 98 ⟨[PP B2, .pointer (some ⟨B4, (Int.toNat t32), none⟩)]⟩ (fun W => by kernel_rfl) (by kernel_rfl) H ?_ (fun ch L' h => RaiseE.nrm Tryz.func139 h)
  rintro _ _ ⟨ca3, cs1, rfl, rfl, H⟩
  refine .ru 7 (.ct [0,1,2] H)
 ·refine .ru 8 (.callP 98 ⟨[PP B2, .pointer (some ⟨B3, 13, none⟩)]⟩ (fun W => by kernel_rfl) (by kernel_rfl) H ?_ (fun ch L' h => RaiseE.nrm Tryz.func139 h))
  rintro _ _ ⟨ca4, m1, rfl, rfl, H⟩
  refine .ru 6 (.callP 98 ⟨[PP B2, .pointer (some ⟨B3, 14, none⟩)]⟩ (fun W => by kernel_rfl) (by kernel_rfl) H ?_ (fun ch L' h => RaiseE.nrm Tryz.func139 h))
  rintro _ _ ⟨ca5, m3, rfl, rfl, H⟩
  refine .ru 1 (.rt Tryz.func139 H)
theorem rLabel_vc (B FB : Nat) (tx : BA) (ca : Int) (x : Fct) (xtp : OA) (xtc : Nat) (xbp : OA) (xbc : Nat) (xap : OA) (xac : Nat) (hm : Mem (rLabelH1 B tx ca FB x xtp xtc xbp xbc xap xac) S w0 W)
 (H :
 CallP TP 98 ⟨[PP B, .pointer (some ⟨FB, 11, none⟩)]⟩ (rLabelH1 B tx ca FB x xtp xtc xbp xbc xap xac) S w0 (fun v L' => ∃ (ca1 : Int) (m : Int), v = .tuple #[] ∧ L' = (rLabelH2 B tx ca1 FB x xtp xtc xbp xbc m xap xac) ∧
 CallP TP 168 ⟨[PP B, IV (x.lab.after.length : Int), IV 64]⟩ (rLabelH2 B tx ca1 FB x xtp xtc xbp xbc m xap xac) S w0 (fun v L' => ∃ r1, ∃ (ca2 : Int), v = IV r1 ∧ L' = [(B, .cells (zF14aa tx ca2) 105), (FB, .cells (zF14ab x m xtc xbc xac xtp xbp xap) 38)] ∧
 (0 ≤ r1 ∧ r1 ≤ r1 ∧ 8 * r1 ≤ 281474976710656 ∧ r1 ≤ 9223372036854775807) ∧
 ∀ B1 : Nat,
 rLabel_c0 x xtp xtc xbp xbc xap xac tx B FB B1 ((Int.toNat r1) : Int) (0 : Int) ca2 m (Int.toNat r1) (Int.toNat r1) (List.replicate (Int.toNat r1) (IV 0)) S w0 R) (fun ch L' => FinP R L' S w0 ch)) (fun ch L' => FinP R L' S w0 ch)) :
 Calls TP 139 ⟨[PP B, .pointer (some ⟨FB, 11, none⟩)]⟩ W R:= by
 refine AtE.cs 54 Tryz.func139 hm (.ru 6 (.callP 98 ⟨[PP B, .pointer (some ⟨FB, 11, none⟩)]⟩ (fun W => by kernel_rfl) (by kernel_rfl) H ?_ (fun ch L' h => RaiseE.nrm Tryz.func139 h)))
 rintro _ _ ⟨ca1, m, rfl, rfl, H⟩
 refine .ru 7 (.load 1 12 (T := 34) (v := .slice xap x.lab.after.length xac) (by kernel_rfl) (.ru 1 (.callP 168 ⟨[PP B, IV (x.lab.after.length : Int), IV 64]⟩ (fun W => by kernel_rfl) (by kernel_rfl) H ?_ (fun ch L' h => RaiseE.nrm Tryz.func139 h))))
 rintro _ _ ⟨r1, ca2, rfl, rfl, H⟩
 refine .ru 8 (.load 0 0 (T := 4) (v := .bool true) (by kernel_rfl) (.ru 5 (.make (E := 3) (kl := .i64) (kc := .i64) (n := r1) (m := r1) (z := IV 0) (bytes := 8) (by kernel_rfl) H.1 (fun B1 => ?_))))
 replace H := H.2 B1
 refine .ru 2 (.store 1 12 (T := 34) (v := .slice (SO B1) (Int.toNat r1) (Int.toNat r1)) (by kernel_rfl) (.ru 7 (.load 1 12 (T := 34) (v := .slice (SO B1) (Int.toNat r1) (Int.toNat r1)) (by kernel_rfl) (.ru 5 (.ct [0,1,2] H)))))
abbrev PK (K : Value → SHeap → Prop) (K' : List PanicEntry → SHeap → Prop) (S : List Nat) (w0 : World) : Ending → World → Prop :=
 fun e W' => (∃ v L', e = .returned v ∧ Mem L' S w0 W' ∧ K v L') ∨ ∃ ch L', e = .panicked ch ∧ Mem L' S w0 W' ∧ K' ch L'
theorem finK {K' : List PanicEntry → SHeap → Prop} {L : SHeap} {v : Value} (h : K v L) : Fin (PK K K' S w0) L S w0 v := fun _ hm => .inl ⟨v, L, rfl, hm, h⟩
theorem finX {K' : List PanicEntry → SHeap → Prop} {L : SHeap} {ch : List PanicEntry} (h : K' ch L) : FinP (PK K K' S w0) L S w0 ch := fun _ hm => .inr ⟨ch, L, rfl, hm, h⟩
theorem finKs (is : List Nat) {K' : List PanicEntry → SHeap → Prop} {L L' : SHeap} {v : Value} (hs : (selL L is, nodupB is) = (L', true)) (h : K v L') : Fin (PK K K' S w0) L S w0 v := by
 simp only [Prod.mk.injEq] at hs
 obtain ⟨rfl, h2⟩ := hs
 exact fun _ hm => .inl ⟨v, _, rfl, hm.sel (nodupB_spec h2), h⟩
theorem finXs (is : List Nat) {K' : List PanicEntry → SHeap → Prop} {L L' : SHeap} {ch : List PanicEntry} (hs : (selL L is, nodupB is) = (L', true)) (h : K' ch L') : FinP (PK K K' S w0) L S w0 ch := by
 simp only [Prod.mk.injEq] at hs
 obtain ⟨rfl, h2⟩ := hs
 exact fun _ hm => .inr ⟨ch, _, rfl, hm.sel (nodupB_spec h2), h⟩
theorem finKst (A : SHeap) (is : List Nat) {T : SHeap} {K' : List PanicEntry → SHeap → Prop} {L' : SHeap} {v : Value} (hs : (selL A is, nodupB is) = (L', true)) (h : K v (L' ++ T)) : Fin (PK K K' S w0) (A ++ T) S w0 v := by
 simp only [Prod.mk.injEq] at hs
 obtain ⟨rfl, h2⟩ := hs
 exact fun _ hm => .inl ⟨v, _, rfl, hm.selT (nodupB_spec h2), h⟩
abbrev pan (e : Int) : List PanicEntry := [{ v := .iface 25 (.int .i64 e), recovered := false }]
theorem CallP.eff0 {L0 L1 : SHeap} {Pre : World → Prop} {K k1 : Value → SHeap → Prop} {K' k1' : List PanicEntry → SHeap → Prop} (h : EffP P g args L0 Pre K K') (hpre : ∀ W, Mem (L0 ++ L1) S w0 W → Pre W)
  (hK : ∀ v L', K v L' → k1 v (L' ++ L1)) (hK' : ∀ ch L', K' ch L' → k1' ch (L' ++ L1)) : CallP P g args (L0 ++ L1) S w0 k1 k1' :=
 CallP.eff h hpre (List.Perm.refl _) (fun v L' hk => ⟨L' ++ L1, List.Perm.refl _, hK v L' hk⟩) (fun ch L' hk => ⟨L' ++ L1, List.Perm.refl _, hK' ch L' hk⟩)
theorem CallP.st {L0 L M N M' N' : SHeap} {u : Value} {c : List PanicEntry} {A A' : Prop} {Pre : World → Prop} {k1 : Value → SHeap → Prop} {k1' : List PanicEntry → SHeap → Prop} (L1 : SHeap)
  (h : EffP P g args L0 Pre (fun v L' => A ∧ v = u ∧ L' = M) (fun ch L' => A' ∧ ch = c ∧ L' = M')) (hpre : ∀ W, Mem L S w0 W → Pre W) (p1 : (L0 ++ L1).Perm L) (p2 : (M ++ L1).Perm N) (p3 : (M' ++ L1).Perm N') (hK : A → k1 u N) (hK' : A' → k1' c N') : CallP P g args L S w0 k1 k1' :=
 CallP.eff h hpre p1 (fun v L' ⟨h0, hv, hL⟩ => ⟨N, hL ▸ p2, hv ▸ hK h0⟩) (fun ch L' ⟨h0, hc, hL⟩ => ⟨N', hL ▸ p3, hc ▸ hK' h0⟩)
theorem perm3 {a b c : Nat × Obj} : ([a, b] ++ [c] : SHeap).Perm [a, c, b] := List.Perm.cons _ (List.Perm.swap _ _ _)
theorem perm2 {a b : Nat × Obj} : ([a, b] ++ [] : SHeap).Perm [a, b] := List.Perm.refl _
theorem perm1 {a b : Nat × Obj} : ([a] ++ [b] : SHeap).Perm [a, b] := List.Perm.refl _
abbrev rK (B : Nat) (tx : BA) (a : Nat) : Nat × Obj := (B, .cells #[.bool true, .string tx, .int .i64 (a : Int), .pointer none, .slice none 0 0] 105)
theorem rNum_e {B NB no tn a : Nat} {tx : BA} {cs : List Value} (hs : tx.size < 4611686018427387904) (ha : a ≤ (bts tx).length) (hno : no < cs.length) :
  EffP TP 98 ⟨[pt B 0, pt NB no]⟩ [rK B tx a, (NB, .cells ⟨cs⟩ tn)] (fun _ => True)
   (fun v L' => (rdI (bts tx) (a, 0)).2.2 = 0 ∧ v = .tuple #[] ∧ L' = [rK B tx (rdI (bts tx) (a, 0)).2.1, (NB, .cells ⟨cs.set no (.int .i64 (rdI (bts tx) (a, 0)).1)⟩ tn)])
   (fun ch L' => (rdI (bts tx) (a, 0)).2.2 = 10 ∧ ch = pan 10 ∧ L' = [rK B tx a, (NB, .cells ⟨cs⟩ tn)]) := by
 intro W hm _
 refine rNum_vc B NB no tx a tn cs hm ?_
 have hq : QCall TP 83 ⟨[.string tx, .int .i64 (a : Int)]⟩ [rK B tx a, (NB, .cells ⟨cs⟩ tn)] (([rK B tx a, (NB, .cells ⟨cs⟩ tn)] : SHeap).map (·.1)) W (intAns tx (a : Int)) := QCall.of (Int_c tx _ hs)
 rw [int_ans (st := (a, 0)) ha rfl] at hq
 rw [rdI, if_pos rfl]
 cases hr : rdInt ((bts tx).drop a) with
 | none =>
  rw [hr] at hq
  exact ⟨_, _, _, hq, fun _ => finX ⟨rfl, rfl, rfl⟩, fun h0 => absurd h0 (by decide)⟩
 | some p =>
  rw [hr] at hq
  exact ⟨_, _, _, hq, fun h0 => absurd rfl h0, fun _ => ⟨hno, finK ⟨rfl, rfl, rfl⟩⟩⟩
theorem rWord_e {B NB no tn a : Nat} {tx : BA} {cs : List Value} (hs : tx.size < 4611686018427387904) (ha : a ≤ (bts tx).length) (hno : no < cs.length) :
  EffP TP 133 ⟨[pt B 0, pt NB no]⟩ [rK B tx a, (NB, .cells ⟨cs⟩ tn)] (fun _ => True)
   (fun v L' => (rdT (bts tx) (a, 0)).2.2 = 0 ∧ v = .tuple #[] ∧ L' = [rK B tx (rdT (bts tx) (a, 0)).2.1, (NB, .cells ⟨cs.set no (.string (rdT (bts tx) (a, 0)).1)⟩ tn)])
   (fun ch L' => (rdT (bts tx) (a, 0)).2.2 = 10 ∧ ch = pan 10 ∧ L' = [rK B tx a, (NB, .cells ⟨cs⟩ tn)]) := by
 intro W hm _
 refine rWord_vc B NB no tx a tn cs hm ?_
 have hq : QCall TP 122 ⟨[.string tx, .int .i64 (a : Int)]⟩ [rK B tx a, (NB, .cells ⟨cs⟩ tn)] (([rK B tx a, (NB, .cells ⟨cs⟩ tn)] : SHeap).map (·.1)) W (strAns tx (a : Int)) := QCall.of (String_c tx _ hs)
 rw [str_ans (st := (a, 0)) ha rfl] at hq
 rw [rdT, if_pos rfl]
 cases hr : rdStr ((bts tx).drop a) with
 | none =>
  rw [hr] at hq
  exact ⟨_, _, _, hq, fun _ => finX ⟨rfl, rfl, rfl⟩, fun h0 => absurd h0 (by decide)⟩
 | some p =>
  rw [hr] at hq
  exact ⟨_, _, _, hq, fun h0 => absurd rfl h0, fun _ => ⟨hno, finK ⟨rfl, rfl, rfl⟩⟩⟩
theorem fcnt_bad {s : List UInt8} {m : Int} {st : RS} (h : (rdI s st).2.2 = 0) (h2 : (rdI s st).1 < 0 ∨ m < (rdI s st).1) : fcnt s m st = ((rdI s st).1, ((rdI s st).2.1, 50)) := by rw [fcnt, if_pos ⟨h, h2⟩]
theorem fcnt_good {s : List UInt8} {m : Int} {st : RS} (h : ¬ ((rdI s st).2.2 = 0 ∧ ((rdI s st).1 < 0 ∨ m < (rdI s st).1))) : fcnt s m st = rdI s st := by rw [fcnt, if_neg h]
theorem rdI_bad {s : List UInt8} {a : Nat} (h : (rdI s (a, 0)).2.2 = 10) : (rdI s (a, 0)).2.1 = a := by
 rw [rdI, if_pos rfl] at *
 split at h
 ·rfl
 ·simp at h
theorem rCount_e {B a : Nat} {n most : Int} {tx : BA} (hs : tx.size < 4611686018427387904) (ha : a ≤ (bts tx).length) :
  EffP TP 168 ⟨[pt B 0, .int .i64 n, .int .i64 most]⟩ [rK B tx a] (fun _ => True)
   (fun v L' => (fcnt (bts tx) most (a, 0)).2.2 = 0 ∧ v = .int .i64 (fcnt (bts tx) most (a, 0)).1 ∧ L' = [rK B tx (fcnt (bts tx) most (a, 0)).2.1])
   (fun ch L' => (fcnt (bts tx) most (a, 0)).2.2 ≠ 0 ∧ ch = pan (fcnt (bts tx) most (a, 0)).2.2 ∧ L' = [rK B tx (rdI (bts tx) (a, 0)).2.1]) := by
 intro W hm _
 refine rCount_vc B n most tx a hm fun B1 => ?_
 refine CallP.st [] (rNum_e (tn := 3) (cs := [.int .i64 n]) hs ha (by simp)) (fun _ _ => trivial) perm2 perm2 perm2 (fun h0 => ⟨_, _, rfl, rfl, ?_⟩) (fun h0 => ?_)
 ·refine ⟨fun h1 => ⟨fun h2 => ?_, fun h2 => ?_⟩, fun h1 => ?_⟩
  ·refine finXs [0] rfl ?_
   rw [fcnt_bad h0 (.inr (by omega))]
   exact ⟨show (50 : Int) ≠ 0 by decide, rfl, rfl⟩
  ·refine finKs [0] rfl ?_
   rw [fcnt_good (fun hh => by rcases hh.2 with h | h <;> omega)]
   exact ⟨h0, rfl, rfl⟩
  ·refine finXs [0] rfl ?_
   rw [fcnt_bad h0 (.inl (by omega))]
   exact ⟨show (50 : Int) ≠ 0 by decide, rfl, rfl⟩
 ·refine finXs [0] rfl ?_
  rw [fcnt_good (fun hh => by rw [h0] at hh; exact absurd hh.1 (by decide)), h0, rdI_bad h0]
  exact ⟨by decide, rfl, rfl⟩
abbrev fH (FB : Nat) (cs : List Value) : Nat × Obj := (FB, .cells ⟨cs⟩ 38)
theorem set_next {z v : Value} (l : List Value) (g : Nat) : (l ++ List.replicate (g + 1) z).set l.length v = l ++ [v] ++ List.replicate g z := by
 rw [List.set_append_right _ _ (Nat.le_refl _), Nat.sub_self, List.replicate_succ, List.set_cons_zero, List.append_assoc]; rfl
def TopK (B FB : Nat) (tx : BA) (x : Fct) (bp : OA) (bc : Nat) (ap : OA) (ac : Nat) (r : List BA × RS) (v : Value) (L' : SHeap) : Prop :=
 r.2.2 = 0 ∧ v = .tuple #[] ∧ ∃ Bn, L' = [rK B tx r.2.1, fH FB (({ x with topics := r.1 } : Fct).cells (SO Bn) r.1.length bp bc ap ac), (Bn, .cells ⟨r.1.map .string⟩ 9)]
def BadK (B FB : Nat) (tx : BA) (e : Int) (ch : List PanicEntry) (L' : SHeap) : Prop :=
 e ≠ 0 ∧ ch = pan e ∧ ∃ a cs N, L' = rK B tx a :: fH FB cs :: N ∧ cs.length = 23
theorem rTopics_loop {B FB Bn : Nat} {tx : BA} (hs : tx.size < 4611686018427387904) {x : Fct} {tp bp ap : OA} {tc bc ac n : Nat} {S : List Nat} {w0 : World} {r : List BA × RS} (hn : n ≤ 4) :
  ∀ (g : Nat) (l : List BA) (a : Nat), l.length + g = n → a ≤ (bts tx).length → r = (l ++ (rdMany (rdT (bts tx)) g (a, 0)).1, (rdMany (rdT (bts tx)) g (a, 0)).2) →
   rTopics_c0 x tp tc bp bc ap ac tx B FB Bn (n : Int) (l.length : Int) (a : Int) n n (l.map .string ++ List.replicate g (.string ⟨#[]⟩)) S w0 (PK (TopK B FB tx x bp bc ap ac r) (BadK B FB tx r.2.2) S w0)
 | 0, l, a, hg, ha, hr => by
  apply rTopics_c0_vc
  have hr : r = (l, (a, 0)) := by rw [hr]; simp [rdMany]
  have hl : l.length = n := by omega
  refine no (by omega) (finK ?_)
  rw [hr]
  refine ⟨rfl, rfl, Bn, ?_⟩
  rw [← hl]; simp
 | g + 1, l, a, hg, ha, hr => by
  apply rTopics_c0_vc
  rw [rdMany, if_pos rfl] at hr
  refine yes (by omega) ⟨by omega, ?_⟩
  refine CallP.st [fH FB _] (rWord_e hs ha (by simp)) (fun _ _ => trivial) perm3 perm3 perm3 (fun h0 => ⟨_, _, rfl, rfl, ?_⟩) (fun h0 => ?_)
  ·have e1 : Int.toNat (l.length : Int) = (l.map Value.string).length := by simp
   rw [e1, set_next, wi64 (by omega), show (l.length : Int) + 1 = ((l ++ [(rdT (bts tx) (a, 0)).1]).length : Int) by simp]
   have h2 : (rdT (bts tx) (a, 0)).2 = ((rdT (bts tx) (a, 0)).2.1, 0) := Prod.ext rfl h0
   have := rTopics_loop (B := B) (FB := FB) (Bn := Bn) hs (x := x) (tp := tp) (tc := tc) (bp := bp) (bc := bc) (ap := ap) (ac := ac) (S := S) (w0 := w0) (r := r) hn g (l ++ [(rdT (bts tx) (a, 0)).1]) (rdT (bts tx) (a, 0)).2.1 (by simp; omega) (rdT_le (st := (a, 0)) ha).1 (by rw [hr, h2]; simp)
   simpa using this
  ·have h2 : r.2.2 = 10 := by rw [hr]; simp only; rw [rdMany_err (by rw [h0]; decide)]; exact h0
   refine finX ?_
   rw [h2]
   exact ⟨by decide, rfl, _, _, _, rfl, rfl⟩
theorem rTopics_e {B FB a : Nat} {tx : BA} (hs : tx.size < 4611686018427387904) (ha : a ≤ (bts tx).length) {x : Fct} :
  EffP TP 135 ⟨[pt B 0, pt FB 9]⟩ [rK B tx a, fH FB (x.cells tp tc bp bc ap ac)] (fun _ => True) (TopK B FB tx x bp bc ap ac (rdV (bts tx) .topics (a, 0))) (BadK B FB tx (rdV (bts tx) .topics (a, 0)).2.2) := by
 intro W hm _
 refine rTopics_vc B FB tx a x tp tc bp bc ap ac hm ?_
 refine CallP.st [fH FB _] (rCount_e hs ha) (fun _ _ => trivial) perm1 perm1 perm1 (fun h0 => ⟨_, _, rfl, rfl, ?_⟩) (fun h0 => ?_)
 ·have hc := fcnt_ok h0
  refine ⟨by omega, fun B1 => ?_⟩
  generalize hq : (fcnt (bts tx) 4 (a, 0)) = q at *
  have h2 : q.2 = (q.2.1, 0) := Prod.ext rfl h0
  have hle : q.2.1 ≤ (bts tx).length := by rw [← hq]; exact fcnt_le ha
  have := rTopics_loop (B := B) (FB := FB) (Bn := B1) hs (x := x) (tp := tp) (tc := tc) (bp := bp) (bc := bc) (ap := ap) (ac := ac) (S := [rK B tx a, fH FB (x.cells tp tc bp bc ap ac)].map (·.1)) (w0 := W) (n := q.1.toNat) (r := rdV (bts tx) .topics (a, 0)) (by omega) q.1.toNat [] q.2.1 (by simp) hle
   (by show flist (rdT (bts tx)) (bts tx) 4 (a, 0) = _; rw [flist, hq, h2]; simp)
  exact this
 ·refine finX ?_
  have e : (rdV (bts tx) .topics (a, 0)).2 = (fcnt (bts tx) 4 (a, 0)).2 := by show (flist _ _ _ _).2 = _; rw [flist, rdMany_err h0]
  rw [e]
  exact ⟨h0, rfl, _, _, [], rfl, rfl⟩
def BlkK (B FB : Nat) (tx : BA) (x : Fct) (tp : OA) (tc : Nat) (ap : OA) (ac : Nat) (r : List Blk × RS) (v : Value) (L' : SHeap) : Prop :=
 r.2.2 = 0 ∧ v = .tuple #[] ∧ ∃ bp bc N, L' = rK B tx r.2.1 :: fH FB (({ x with blocks := r.1 } : Fct).cells tp tc bp bc ap ac) :: N ∧ BlksL (lkF N) bp r.1 ∧ r.1.length ≤ bc ∧ r.1.length ≤ 24
theorem rBlocks_e {B FB a : Nat} {tx : BA} (hs : tx.size < 4611686018427387904) (ha : a ≤ (bts tx).length) {x : Fct} :
  EffP TP 137 ⟨[pt B 0, pt FB 10]⟩ [rK B tx a, fH FB (x.cells tp tc bp bc ap ac)] (fun _ => True) (BlkK B FB tx x tp tc ap ac (rdV (bts tx) .blocks (a, 0))) (BadK B FB tx (rdV (bts tx) .blocks (a, 0)).2.2) := by
 intro W hm _
 refine rBlocks_vc B FB tx a x tp tc bp bc ap ac hm fun B1 => ?_
 refine CallP.st [fH FB (x.cells tp tc bp bc ap ac)] (rWord_e (tn := 9) (cs := [.string ⟨#[]⟩]) hs ha (by simp)) (fun _ _ => trivial) perm3 perm3 perm3 (fun h0 => ⟨_, (rdT (bts tx) (a, 0)).1, rfl, rfl, ?_⟩) (fun h0 => ?_)
 ·have hsz := (rdT_le (s := bts tx) (st := (a, 0)) ha).2
  refine CallH.more (decode_e (rdT (bts tx) (a, 0)).1 (by omega)) fun v F ⟨p, c, hv, hc, hb⟩ => ⟨p, _, c, _, F, hv, rfl, fun h1 => ?_, fun h1 => ?_⟩
  ·have e : rdV (bts tx) .blocks (a, 0) = ([], ((rdT (bts tx) (a, 0)).2.1, 50)) := by show rdBlks _ _ = _; rw [rdBlks, if_pos h0, if_neg h1]
   rw [e]
   exact finX ⟨show (50 : Int) ≠ 0 by decide, rfl, _, _, _, rfl, rfl⟩
  ·have e : rdV (bts tx) .blocks (a, 0) = ((decSpec (bts (rdT (bts tx) (a, 0)).1)).1, (rdT (bts tx) (a, 0)).2) := by show rdBlks _ _ = _; rw [rdBlks, if_pos h0, if_pos h1]
   rw [e]
   refine finKst [_, _, _] [0, 1] rfl ⟨h0, rfl, p, c, F, rfl, hb, hc, decode_len _⟩
 ·have e : (rdV (bts tx) .blocks (a, 0)).2 = (rdT (bts tx) (a, 0)).2 := by show (rdBlks _ _).2 = _; rw [rdBlks, if_neg (by rw [h0]; decide)]
  rw [e, h0]
  exact finX ⟨by decide, rfl, _, _, _, rfl, rfl⟩
def LabK (B FB : Nat) (tx : BA) (x : Fct) (tp : OA) (tc : Nat) (bp : OA) (bc : Nat) (r : Lab × RS) (v : Value) (L' : SHeap) : Prop :=
 r.2.2 = 0 ∧ v = .tuple #[] ∧ ∃ Bn, L' = [rK B tx r.2.1, fH FB (({ x with lab := r.1 } : Fct).cells tp tc bp bc (SO Bn) r.1.after.length), (Bn, .cells ⟨r.1.after.map (.int .i64)⟩ 3)] ∧ r.1.after.length ≤ 64
def labEnd (s : List UInt8) (u : Int) (r : List Int × RS) : Lab × RS := (⟨u, r.1, (rdI s r.2).1, (rdI s (rdI s r.2).2).1⟩, (rdI s (rdI s r.2).2).2)
theorem labEnd_err {s : List UInt8} {u : Int} {r : List Int × RS} (h : ¬ r.2.2 = 0) : (labEnd s u r).2 = r.2 := by
 show (rdI s (rdI s r.2).2).2 = _
 have h1 := rdI_err (s := s) h
 rw [h1, h1]
theorem rLabel_loop {B FB Bn : Nat} {tx : BA} (hs : tx.size < 4611686018427387904) {x : Fct} {tp bp ap : OA} {tc bc ac n : Nat} {u : Int} {S : List Nat} {w0 : World} {r : List Int × RS} (hn : n ≤ 64) :
  ∀ (g : Nat) (l : List Int) (a : Nat), l.length + g = n → a ≤ (bts tx).length → r = (l ++ (rdMany (rdI (bts tx)) g (a, 0)).1, (rdMany (rdI (bts tx)) g (a, 0)).2) →
   rLabel_c0 x tp tc bp bc ap ac tx B FB Bn (n : Int) (l.length : Int) (a : Int) u n n (l.map (.int .i64) ++ List.replicate g (.int .i64 0)) S w0 (PK (LabK B FB tx x tp tc bp bc (labEnd (bts tx) u r)) (BadK B FB tx (labEnd (bts tx) u r).2.2) S w0)
 | 0, l, a, hg, ha, hr => by
  apply rLabel_c0_vc
  have hr : r = (l, (a, 0)) := by rw [hr]; simp [rdMany]
  have hl : l.length = n := by omega
  subst hr
  refine no (by omega) ?_
  refine CallP.st [(Bn, _)] (rNum_e hs ha (by simp)) (fun _ _ => trivial) (List.Perm.refl _) (List.Perm.refl _) (List.Perm.refl _) (fun h0 => ⟨_, (rdI (bts tx) (a, 0)).1, rfl, rfl, ?_⟩) (fun h0 => ?_)
  ·have h2 : (rdI (bts tx) (a, 0)).2 = ((rdI (bts tx) (a, 0)).2.1, 0) := Prod.ext rfl h0
   refine CallP.st [(Bn, _)] (rNum_e hs (rdI_le (st := (a, 0)) ha) (by simp)) (fun _ _ => trivial) (List.Perm.refl _) (List.Perm.refl _) (List.Perm.refl _) (fun h1 => ⟨_, (rdI (bts tx) ((rdI (bts tx) (a, 0)).2.1, 0)).1, rfl, rfl, finK ?_⟩) (fun h1 => finX ?_)
   ·rw [← h2] at h1 ⊢
    refine ⟨h1, rfl, Bn, ?_, by show l.length ≤ 64; omega⟩
    rw [← hl]; simp [labEnd]
   ·rw [← h2] at h1
    have e : (labEnd (bts tx) u (l, (a, 0))).2.2 = 10 := h1
    rw [e]
    exact ⟨by decide, rfl, _, _, _, rfl, rfl⟩
  ·have e : (labEnd (bts tx) u (l, (a, 0))).2.2 = 10 := by
    show (rdI (bts tx) (rdI (bts tx) (a, 0)).2).2.2 = 10
    rw [rdI_err (by rw [h0]; decide)]; exact h0
   refine finX ?_
   rw [e]
   exact ⟨by decide, rfl, _, _, _, rfl, rfl⟩
 | g + 1, l, a, hg, ha, hr => by
  apply rLabel_c0_vc
  rw [rdMany, if_pos rfl] at hr
  refine yes (by omega) ⟨by omega, ?_⟩
  refine CallP.st [fH FB _] (rNum_e hs ha (by simp)) (fun _ _ => trivial) perm3 perm3 perm3 (fun h0 => ⟨_, _, rfl, rfl, ?_⟩) (fun h0 => ?_)
  ·have e1 : Int.toNat (l.length : Int) = (l.map (Value.int .i64)).length := by simp
   rw [e1, set_next, wi64 (by omega), show (l.length : Int) + 1 = ((l ++ [(rdI (bts tx) (a, 0)).1]).length : Int) by simp]
   have h2 : (rdI (bts tx) (a, 0)).2 = ((rdI (bts tx) (a, 0)).2.1, 0) := Prod.ext rfl h0
   have := rLabel_loop (B := B) (FB := FB) (Bn := Bn) hs (x := x) (tp := tp) (tc := tc) (bp := bp) (bc := bc) (ap := ap) (ac := ac) (u := u) (S := S) (w0 := w0) (r := r) hn g (l ++ [(rdI (bts tx) (a, 0)).1]) (rdI (bts tx) (a, 0)).2.1 (by simp; omega) (rdI_le (st := (a, 0)) ha) (by rw [hr, h2]; simp)
   simpa using this
  ·have h2 : r.2.2 = 10 := by rw [hr]; simp only; rw [rdMany_err (by rw [h0]; decide)]; exact h0
   refine finX ?_
   rw [labEnd_err (by rw [h2]; decide), h2]
   exact ⟨by decide, rfl, _, _, _, rfl, rfl⟩
theorem rLabel_e {B FB a : Nat} {tx : BA} (hs : tx.size < 4611686018427387904) (ha : a ≤ (bts tx).length) {x : Fct} :
  EffP TP 139 ⟨[pt B 0, pt FB 11]⟩ [rK B tx a, fH FB (x.cells tp tc bp bc ap ac)] (fun _ => True) (LabK B FB tx x tp tc bp bc (rdV (bts tx) .label (a, 0))) (BadK B FB tx (rdV (bts tx) .label (a, 0)).2.2) := by
 intro W hm _
 refine rLabel_vc B FB tx a x tp tc bp bc ap ac hm ?_
 have ev : rdV (bts tx) .label (a, 0) = labEnd (bts tx) (rdI (bts tx) (a, 0)).1 (flist (rdI (bts tx)) (bts tx) 64 (rdI (bts tx) (a, 0)).2) := rfl
 rw [ev]
 refine CallP.st [] (rNum_e hs ha (by simp)) (fun _ _ => trivial) perm2 perm2 perm2 (fun h0 => ⟨_, (rdI (bts tx) (a, 0)).1, rfl, rfl, ?_⟩) (fun h0 => ?_)
 ·have h2 : (rdI (bts tx) (a, 0)).2 = ((rdI (bts tx) (a, 0)).2.1, 0) := Prod.ext rfl h0
  rw [h2]
  have ha2 := rdI_le (s := bts tx) (st := (a, 0)) ha
  generalize (rdI (bts tx) (a, 0)).2.1 = a2 at *
  generalize (rdI (bts tx) (a, 0)).1 = u at *
  refine CallP.st [fH FB _] (rCount_e hs ha2) (fun _ _ => trivial) perm1 perm1 perm1 (fun h3 => ⟨_, _, rfl, rfl, ?_⟩) (fun h3 => ?_)
  ·have hc := fcnt_ok h3
   refine ⟨by omega, fun B1 => ?_⟩
   have hle := fcnt_le (s := bts tx) (m := 64) (st := (a2, 0)) ha2
   have hr : flist (rdI (bts tx)) (bts tx) 64 (a2, 0) = rdMany (rdI (bts tx)) (fcnt (bts tx) 64 (a2, 0)).1.toNat (fcnt (bts tx) 64 (a2, 0)).2 := rfl
   generalize hq : (fcnt (bts tx) 64 (a2, 0)) = q at *
   have h4 : q.2 = (q.2.1, 0) := Prod.ext rfl h3
   rw [hr, h4]
   exact rLabel_loop (B := B) (FB := FB) (Bn := B1) hs (x := x) (tp := tp) (tc := tc) (bp := bp) (bc := bc) (ap := ap) (ac := ac) (u := u) (S := [rK B tx a, fH FB (x.cells tp tc bp bc ap ac)].map (·.1)) (w0 := W) (n := q.1.toNat) (r := rdMany (rdI (bts tx)) q.1.toNat (q.2.1, 0)) (by omega) q.1.toNat [] q.2.1 (by simp) hle (by simp)
  ·refine finX ?_
   have e : (flist (rdI (bts tx)) (bts tx) 64 (a2, 0)).2 = (fcnt (bts tx) 64 (a2, 0)).2 := by rw [flist, rdMany_err h3]
   rw [labEnd_err (by rw [e]; exact h3), e]
   exact ⟨h3, rfl, _, _, [], rfl, rfl⟩
 ·refine finX ?_
  have e : (flist (rdI (bts tx)) (bts tx) 64 (rdI (bts tx) (a, 0)).2).2 = (rdI (bts tx) (a, 0)).2 := flist_err (by rw [h0]; decide)
  rw [labEnd_err (by rw [e, h0]; decide), e, h0]
  exact ⟨by decide, rfl, _, _, [], rfl, rfl⟩
set_option maxRecDepth 100000
abbrev zF15aa (x0 : BA) (x1 : Int) : Array Value := #[.bool true, .string x0, IV x1, .pointer none, .slice none 0 0]
abbrev yF15aa (x0 : BA) (x1 : Int) (x2 : List Value) (x3 x4 : Nat) (x5 : SHeap) : SHeap := (x3, .cells (zF15aa x0 x1) 105) :: (x4, .cells ⟨x2⟩ 38) :: x5
theorem rNumC_vc (kc kn B FB no : Nat) (tx : BA) (ca : Int) (cs : List Value) (F : SHeap) (hm : Mem (yF15aa tx ca cs B FB F) S w0 W)
 (H :
 ∃ (cw : List Value), kc ∉ S ∧ blkW w0 kc = some cw ∧ cw[0]? = some (PP B) ∧
 ∃ (cw1 : List Value), kn ∉ S ∧ blkW w0 kn = some cw1 ∧ cw1[0]? = some (.pointer (some ⟨FB, no, none⟩)) ∧
 CallP TP 98 ⟨[PP B, .pointer (some ⟨FB, no, none⟩)]⟩ (yF15aa tx ca cs B FB F) S w0 (fun v L' => ∃ (ca1 : Int) (cs1 : List Value), v = .tuple #[] ∧ L' = (yF15aa tx ca1 cs1 B FB F) ∧
 Fin R (yF15aa tx ca1 cs1 B FB F) S w0 (.tuple #[])) (fun ch L' => FinP R L' S w0 ch)) :
 Calls TP 130 ⟨[PP kc, PP kn]⟩ W R:= by
 refine AtE.cs 5 Tryz.func130 hm (.ru 1 ?_)
 obtain ⟨cw, hs, hw, hx, H⟩ := H
 refine .loadW (b := kc) (off := 0) (T := 100) (v := PP B) (by kernel_rfl) hs hw (valAt_one hx (by kernel_rfl)) ?_
 obtain ⟨cw1, hs, hw, hx, H⟩ := H
 refine .loadW (b := kn) (off := 0) (T := 155) (v := .pointer (some ⟨FB, no, none⟩)) (by kernel_rfl) hs hw (valAt_one hx (by kernel_rfl)) (.callP 98 ⟨[PP B, .pointer (some ⟨FB, no, none⟩)]⟩ (fun W => by kernel_rfl) (by kernel_rfl) H ?_ (fun ch L' h => RaiseE.nrm Tryz.func130 h))
 rintro _ _ ⟨ca1, cs1, rfl, rfl, H⟩
 refine .ru 1 (.rt Tryz.func130 H)
theorem rWordC_vc (kc kn B FB no : Nat) (tx : BA) (ca : Int) (cs : List Value) (F : SHeap) (hm : Mem (yF15aa tx ca cs B FB F) S w0 W)
 (H :
 ∃ (cw : List Value), kc ∉ S ∧ blkW w0 kc = some cw ∧ cw[0]? = some (PP B) ∧
 ∃ (cw1 : List Value), kn ∉ S ∧ blkW w0 kn = some cw1 ∧ cw1[0]? = some (.pointer (some ⟨FB, no, none⟩)) ∧
 CallP TP 133 ⟨[PP B, .pointer (some ⟨FB, no, none⟩)]⟩ (yF15aa tx ca cs B FB F) S w0 (fun v L' => ∃ (ca1 : Int) (cs1 : List Value), v = .tuple #[] ∧ L' = (yF15aa tx ca1 cs1 B FB F) ∧
 Fin R (yF15aa tx ca1 cs1 B FB F) S w0 (.tuple #[])) (fun ch L' => FinP R L' S w0 ch)) :
 Calls TP 132 ⟨[PP kc, PP kn]⟩ W R:= by
 refine AtE.cs 5 Tryz.func132 hm (.ru 1 ?_)
 obtain ⟨cw, hs, hw, hx, H⟩ := H
 refine .loadW (b := kc) (off := 0) (T := 100) (v := PP B) (by kernel_rfl) hs hw (valAt_one hx (by kernel_rfl)) ?_
 obtain ⟨cw1, hs, hw, hx, H⟩ := H
 refine .loadW (b := kn) (off := 0) (T := 192) (v := .pointer (some ⟨FB, no, none⟩)) (by kernel_rfl) hs hw (valAt_one hx (by kernel_rfl)) (.callP 133 ⟨[PP B, .pointer (some ⟨FB, no, none⟩)]⟩ (fun W => by kernel_rfl) (by kernel_rfl) H ?_ (fun ch L' h => RaiseE.nrm Tryz.func132 h))
 rintro _ _ ⟨ca1, cs1, rfl, rfl, H⟩
 refine .ru 1 (.rt Tryz.func132 H)
theorem rTopC_vc (kc kf B FB : Nat) (tx : BA) (ca : Int) (cs : List Value) (F : SHeap) (hm : Mem (yF15aa tx ca cs B FB F) S w0 W)
 (H :
 ∃ (cw : List Value), kc ∉ S ∧ blkW w0 kc = some cw ∧ cw[0]? = some (PP B) ∧
 ∃ (cw1 : List Value), kf ∉ S ∧ blkW w0 kf = some cw1 ∧ cw1[0]? = some (PP FB) ∧
 CallP TP 135 ⟨[PP B, .pointer (some ⟨FB, 9, none⟩)]⟩ (yF15aa tx ca cs B FB F) S w0 (fun v L' => ∃ (ca1 : Int) (cs1 : List Value), ∃ F1, v = .tuple #[] ∧ L' = (yF15aa tx ca1 cs1 B FB F1) ∧
 Fin R (yF15aa tx ca1 cs1 B FB F1) S w0 (.tuple #[])) (fun ch L' => FinP R L' S w0 ch)) :
 Calls TP 134 ⟨[PP kc, PP kf]⟩ W R:= by
 refine AtE.cs 7 Tryz.func134 hm (.nm (KC Tryz.f134 1) [(0, PP kc), (1, PP kf)] (yF15aa tx ca cs B FB F) (.dr 4 ?_))
 obtain ⟨cw, hs, hw, hx, H⟩ := H
 refine .loadW (b := kc) (off := 0) (T := 100) (v := PP B) (by kernel_rfl) hs hw (valAt_one hx (by kernel_rfl)) ?_
 obtain ⟨cw1, hs, hw, hx, H⟩ := H
 refine .loadW (b := kf) (off := 0) (T := 107) (v := PP FB) (by kernel_rfl) hs hw (valAt_one hx (by kernel_rfl)) (.pu (.pu (.dn (.callP 135 ⟨[PP B, .pointer (some ⟨FB, 9, none⟩)]⟩ (fun W => by kernel_rfl) (by kernel_rfl) H ?_ (fun ch L' h => RaiseE.nrm Tryz.func134 h)))))
 rintro _ _ ⟨ca1, cs1, F1, rfl, rfl, H⟩
 refine .ru 1 (.rt Tryz.func134 H)
theorem rBlkC_vc (kc kf B FB : Nat) (tx : BA) (ca : Int) (cs : List Value) (F : SHeap) (hm : Mem (yF15aa tx ca cs B FB F) S w0 W)
 (H :
 ∃ (cw : List Value), kc ∉ S ∧ blkW w0 kc = some cw ∧ cw[0]? = some (PP B) ∧
 ∃ (cw1 : List Value), kf ∉ S ∧ blkW w0 kf = some cw1 ∧ cw1[0]? = some (PP FB) ∧
 CallP TP 137 ⟨[PP B, .pointer (some ⟨FB, 10, none⟩)]⟩ (yF15aa tx ca cs B FB F) S w0 (fun v L' => ∃ (ca1 : Int) (cs1 : List Value), ∃ F1, v = .tuple #[] ∧ L' = (yF15aa tx ca1 cs1 B FB F1) ∧
 Fin R (yF15aa tx ca1 cs1 B FB F1) S w0 (.tuple #[])) (fun ch L' => FinP R L' S w0 ch)) :
 Calls TP 136 ⟨[PP kc, PP kf]⟩ W R:= by
 refine AtE.cs 7 Tryz.func136 hm (.nm (KC Tryz.f136 1) [(0, PP kc), (1, PP kf)] (yF15aa tx ca cs B FB F) (.dr 4 ?_))
 obtain ⟨cw, hs, hw, hx, H⟩ := H
 refine .loadW (b := kc) (off := 0) (T := 100) (v := PP B) (by kernel_rfl) hs hw (valAt_one hx (by kernel_rfl)) ?_
 obtain ⟨cw1, hs, hw, hx, H⟩ := H
 refine .loadW (b := kf) (off := 0) (T := 107) (v := PP FB) (by kernel_rfl) hs hw (valAt_one hx (by kernel_rfl)) (.pu (.pu (.dn (.callP 137 ⟨[PP B, .pointer (some ⟨FB, 10, none⟩)]⟩ (fun W => by kernel_rfl) (by kernel_rfl) H ?_ (fun ch L' h => RaiseE.nrm Tryz.func136 h)))))
 rintro _ _ ⟨ca1, cs1, F1, rfl, rfl, H⟩
 refine .ru 1 (.rt Tryz.func136 H)
theorem rLabC_vc (kc kf B FB : Nat) (tx : BA) (ca : Int) (cs : List Value) (F : SHeap) (hm : Mem (yF15aa tx ca cs B FB F) S w0 W)
 (H :
 ∃ (cw : List Value), kc ∉ S ∧ blkW w0 kc = some cw ∧ cw[0]? = some (PP B) ∧
 ∃ (cw1 : List Value), kf ∉ S ∧ blkW w0 kf = some cw1 ∧ cw1[0]? = some (PP FB) ∧
 CallP TP 139 ⟨[PP B, .pointer (some ⟨FB, 11, none⟩)]⟩ (yF15aa tx ca cs B FB F) S w0 (fun v L' => ∃ (ca1 : Int) (cs1 : List Value), ∃ F1, v = .tuple #[] ∧ L' = (yF15aa tx ca1 cs1 B FB F1) ∧
 Fin R (yF15aa tx ca1 cs1 B FB F1) S w0 (.tuple #[])) (fun ch L' => FinP R L' S w0 ch)) :
 Calls TP 138 ⟨[PP kc, PP kf]⟩ W R:= by
 refine AtE.cs 7 Tryz.func138 hm (.nm (KC Tryz.f138 1) [(0, PP kc), (1, PP kf)] (yF15aa tx ca cs B FB F) (.dr 4 ?_))
 obtain ⟨cw, hs, hw, hx, H⟩ := H
 refine .loadW (b := kc) (off := 0) (T := 100) (v := PP B) (by kernel_rfl) hs hw (valAt_one hx (by kernel_rfl)) ?_
 obtain ⟨cw1, hs, hw, hx, H⟩ := H
 refine .loadW (b := kf) (off := 0) (T := 107) (v := PP FB) (by kernel_rfl) hs hw (valAt_one hx (by kernel_rfl)) (.pu (.pu (.dn (.callP 139 ⟨[PP B, .pointer (some ⟨FB, 11, none⟩)]⟩ (fun W => by kernel_rfl) (by kernel_rfl) H ?_ (fun ch L' h => RaiseE.nrm Tryz.func138 h)))))
 rintro _ _ ⟨ca1, cs1, F1, rfl, rfl, H⟩
 refine .ru 1 (.rt Tryz.func138 H)
set_option maxRecDepth 100000
abbrev zF16aa (x0 : BA) (x1 : Int) : Array Value := #[.bool true, .string x0, IV x1, .pointer none, .slice none 0 0]
abbrev yF16aa (x0 : BA) (x1 : Int) (x2 : List Value) (x3 x4 : Nat) (x5 : SHeap) : SHeap := (x3, .cells (zF16aa x0 x1) 105) :: (x4, .cells ⟨x2⟩ 38) :: x5
abbrev rFactH0 (B1 : Nat) (tx : BA) (m2 : Int) (B2 : Nat) (cs4 : List Value) (F2 : SHeap) : SHeap := (yF16aa tx m2 cs4 B1 B2 F2)
def rFact_c0 (tx : BA) (B1 B2 : Nat) (t29_p : OA) (t29_l t29_c : Nat) (t30 t31 m2 : Int) (cs4 : List Value) (F2 : SHeap) (S : List Nat) (w0 : World) (R : Ending → World → Prop) : Prop :=
 AtE TP 59 38 (KC Tryz.f59 508) [(29, .slice t29_p t29_l t29_c), (30, IV t30), (31, IV t31)] (rFactH0 B1 tx m2 B2 cs4 F2) S w0 (nrm R)
theorem rFact_c0_vc (tx : BA) (B1 B2 : Nat) (t29_p : OA) (t29_l t29_c : Nat) (t30 t31 m2 : Int) (cs4 : List Value) (F2 : SHeap)
 (H :
 Br (t31 < t30)
 (∃ t29_pb t29_po : Nat, t29_p = some ⟨t29_pb, t29_po, none⟩ ∧ (0 ≤ t31 ∧ t31 < t29_l) ∧
 ∃ (cw : List Value) (m1 : Value), (∃ t fz, (t29_pb, Obj.cells ⟨cw⟩ t fz) ∈ (rFactH0 B1 tx m2 B2 cs4 F2)) ∧ cw[(t29_po + (Int.toNat t31))]? = some (m1) ∧
 ∃ (g : Nat) (caps : List Value), m1 = .func (.func g) ⟨[]⟩ ⟨caps⟩ ∧ FnReady TP g ∧
 CallP TP g ⟨[] ++ caps⟩ (rFactH0 B1 tx m2 B2 cs4 F2) S w0 (fun v L' => ∃ (ca4 : Int) (cs5 : List Value), ∃ F3, v = .tuple #[] ∧ L' = (yF16aa tx ca4 cs5 B1 B2 F3) ∧
 rFact_c0 tx B1 B2 t29_p t29_l t29_c t30 (IntKind.i64.wrap (t31 + (1 : Int))) ca4 cs5 F3 S w0 R) (fun ch L' => FinP R L' S w0 ch))
 (Fin R (rFactH0 B1 tx m2 B2 cs4 F2) S w0 (.tuple #[]))) :
 rFact_c0 tx B1 B2 t29_p t29_l t29_c t30 t31 m2 cs4 F2 S w0 R:= by
 unfold rFact_c0
 refine .ru 5 (.sP 32 H ?_ ?_) <;> clear H <;> intro H
 ·refine .ru 6 ?_
  obtain ⟨t29_pb, t29_po, hp, H⟩ := H
  refine .indexAddrP (E := 1) (p := t29_p) (b := t29_pb) (o := t29_po) (len := t29_l) (cap := t29_c) (sz := 1) (o' := (t29_po + (Int.toNat t31))) (kd := .i64) (i := t31) hp (by kernel_rfl) H.1 (by omega) ?_
  replace H := H.2
  obtain ⟨cw, m1, hw, hx, H⟩ := H
  refine .loadT (b := t29_pb) (off := (t29_po + (Int.toNat t31))) (T := 1) (v := m1) (by kernel_rfl) hw (valAt_one hx (by kernel_rfl)) (.ru 4 ?_)
  obtain ⟨g, caps, rfl, hr, H⟩ := H
  refine .callV g [] caps [] (by kernel_rfl) hr H ?_ (fun ch L' h => RaiseE.nrm Tryz.func59 h)
  clear H
  rintro _ _ ⟨ca4, cs5, F3, rfl, rfl, H⟩
  refine .ru 7 (.tT [0,1] 2 H)
 ·refine .ru 2 (.rt Tryz.func59 H)
theorem rFact_vc (B FB : Nat) (tx : BA) (ca : Int) (cs : List Value) (F : SHeap) (hm : Mem (yF16aa tx ca cs B FB F) S w0 W)
 (H :
 CallP TP 98 ⟨[PP B, PP FB]⟩ (yF16aa tx ca cs B FB F) S w0 (fun v L' => ∃ (ca1 : Int) (cs1 : List Value), v = .tuple #[] ∧ L' = (yF16aa tx ca1 cs1 B FB F) ∧
 CallP TP 98 ⟨[PP B, .pointer (some ⟨FB, 1, none⟩)]⟩ (yF16aa tx ca1 cs1 B FB F) S w0 (fun v L' => ∃ (ca2 : Int) (cs2 : List Value), v = .tuple #[] ∧ L' = (yF16aa tx ca2 cs2 B FB F) ∧
 CallP TP 98 ⟨[PP B, .pointer (some ⟨FB, 2, none⟩)]⟩ (yF16aa tx ca2 cs2 B FB F) S w0 (fun v L' => ∃ (ca3 : Int) (cs3 : List Value), v = .tuple #[] ∧ L' = (yF16aa tx ca3 cs3 B FB F) ∧
 CallH TP 99 ⟨[PP B, PP FB]⟩ (yF16aa tx ca3 cs3 B FB F) S w0 (fun v L' => ∃ (r1_p : OA) (r1_l : Nat) (r1_c : Nat), ∃ F1, v = (.slice r1_p r1_l r1_c) ∧ L' = (yF16aa tx ca3 cs3 B FB F1) ∧
 Br ((r1_l : Int) = (0 : Int))
 (FinP R (yF16aa tx ca3 cs3 B FB F1) S w0 [{ v := .iface 25 (IV 50), recovered := false }])
 (rFact_c0 tx B FB r1_p r1_l r1_c (r1_l : Int) (0 : Int) ca3 cs3 F1 S w0 R))) (fun ch L' => FinP R L' S w0 ch)) (fun ch L' => FinP R L' S w0 ch)) (fun ch L' => FinP R L' S w0 ch)) :
 Calls TP 59 ⟨[PP B, PP FB]⟩ W R:= by
 refine AtE.cs 38 Tryz.func59 hm (.ru 6 (.callP 98 ⟨[PP B, PP FB]⟩ (fun W => by kernel_rfl) (by kernel_rfl) H ?_ (fun ch L' h => RaiseE.nrm Tryz.func59 h)))
 rintro _ _ ⟨ca1, cs1, rfl, rfl, H⟩
 refine .ru 7 (.callP 98 ⟨[PP B, .pointer (some ⟨FB, 1, none⟩)]⟩ (fun W => by kernel_rfl) (by kernel_rfl) H ?_ (fun ch L' h => RaiseE.nrm Tryz.func59 h))
 rintro _ _ ⟨ca2, cs2, rfl, rfl, H⟩
 refine .ru 7 (.callP 98 ⟨[PP B, .pointer (some ⟨FB, 2, none⟩)]⟩ (fun W => by kernel_rfl) (by kernel_rfl) H ?_ (fun ch L' h => RaiseE.nrm Tryz.func59 h))
 rintro _ _ ⟨ca3, cs3, rfl, rfl, H⟩
 refine .ru 5 (.cl H ?_)
 rintro _ _ ⟨r1_p, r1_l, r1_c, F1, rfl, rfl, H⟩
 refine .ru 9 (.sP 27 H (fun H => ?_) fun H => ?_)
 ·refine .ru 3 (.panic (t := 25) (v := IV 50) (by kernel_rfl) ?_)
  exact RaiseE.nrm Tryz.func59 H
 ·refine .ru 10 (.tT [0,1] 2 H)
end Go.Eng
