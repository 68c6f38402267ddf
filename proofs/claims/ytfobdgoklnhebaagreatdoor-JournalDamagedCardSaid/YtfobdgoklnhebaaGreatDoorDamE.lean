/- A part of the proof. -/
import Derived.Test.YtfobdgoklnhebaaGreatDoorChecked
import Derived.Test.YtfobdgoklnhebaaGreatDoorDamD
set_option linter.unusedVariables false
set_option linter.unusedSimpArgs false
set_option maxRecDepth 100000
namespace Go.Eng
open Go Go.RowKit Go.Proofs
variable {P : Program} {R : Ending → World → Prop} {S : List Nat} {w0 W : World} {lk : Lk} {tp bp ap : OA} {tc bc ac : Nat} {K K' : Value → SHeap → Prop} {args : Array Value} {g : FuncId}
abbrev zD1aa (a : Bool) (b : Int) (x2 x3 x4 : Nat) : Array Value := #[.bool a, IV b, .slice (SO x2) x3 x3, .slice (SO x4) x3 x3, .slice none 0 0]
abbrev zD1ab (a : Bool) (b : Int) (x2 x3 x4 x5 c d : Nat) : Array Value := #[.bool a, IV b, .slice (SO x2) x3 x3, .slice (SO x4) x3 x3, .slice (SO x5) c d]
abbrev yD1aa (b : Bool) (c : Int) (x2 x3 : List Value) (x4 x5 d a : Nat) : SHeap := [(x4, .cells (zD1aa b c x5 d a) 82), (x5, .cells ⟨x2⟩ 5), (a, .cells ⟨x3⟩ 5)]
abbrev yD1ab (d : Bool) (e : Int) (x2 x3 x4 : List Value) (x5 a h b c f g : Nat) : SHeap := [(x5, .cells (zD1ab d e a h b c f g) 82), (a, .cells ⟨x2⟩ 5), (b, .cells ⟨x3⟩ 5), (c, .cells ⟨x4⟩ 111)]
theorem SizeN_vc (a : Nat) (f : Bool) (cut : Int) (c b d : Nat) (e g : List Value) (hm : Mem (yD1aa f cut e g a c b d) S w0 W) (H : VP S w0 R (.ru [17,200] <| .li 2 2 (b : Int) fun h => .re 1 (IV h) (yD1aa f cut e g a c b d))) : Calls TP 42 ⟨[PP a]⟩ W R := VC.cs Tryz.func42 hm _ H
theorem SizeR_vc (a : Nat) (g : Bool) (cut : Int) (c b e : Nat) (f k : List Value) (d j h : Nat) (i : List Value) (hm : Mem (yD1ab g cut f k i a c b e d j h) S w0 W) (H : VP S w0 R (.ru [17,200] <| .li 2 2 (b : Int) fun l => .re 1 (IV l) (yD1ab g cut f k i a c b e d j h))) : Calls TP 42 ⟨[PP a]⟩ W R := VC.cs Tryz.func42 hm _ H
theorem ReadN_vc (b : Nat) (e : Bool) (cut : Int) (g a d : Nat) (i f : List Value) (off n1 : Int) (hm : Mem (yD1aa e cut i f b g a d) S w0 W) (H : VP S w0 R (.hp (yD1aa e cut i f b g a d) fun c => .il 9 Tryz.func61 [PP b] <| .il 8 Tryz.func42 [PP b] <| .ru [17,200] <| .li 2 2 (a : Int) fun k => .rk 1 <| .P 2 5 (k = 0) (.rk 5 <| .re 14 (.tuple #[sZ, IV 1]) c) <| .ru [9,200] <| .B 0 10 e (.rk 8 <| .il 15 Tryz.func62 [PP b, IV off, IV n1] <| .P 9 9 (0 ≤ off) (.P 4 13 (0 ≤ n1) (.il 2 Tryz.func42 [PP b] <| .ru [17,200] <| .li 2 2 (a : Int) fun l => .rk 1 <| .P 3 19 (n1 ≤ l) (.il 2 Tryz.func42 [PP b] <| .ru [17,200] <| .li 2 2 (a : Int) fun m => .rk 1 <| .rk 6 <| .I 2 18 (off ≤ (IntKind.i64.wrap (m - n1))) (.re 6 (.tuple #[sZ, IV 230]) c) <| .ru [7,200] <| .r 4 <| .sO d 0 a a 1 ((Int.toNat (IntKind.i64.wrap (off + n1))) - (Int.toNat off)) (a - (Int.toNat off)) (some (IV off)) (some (IV (IntKind.i64.wrap (off + n1)))) off (IntKind.i64.wrap (off + n1)) fun (j : Nat) => .ex fun (h : List UInt8) => .tG 2 d 5 j ((Int.toNat (IntKind.i64.wrap (off + n1))) - (Int.toNat off)) (a - (Int.toNat off)) f h <| .ls 1 6 (⟨h.toArray⟩) fun n => .re 2 (.tuple #[.string n, IV 0]) c) <| .rk 9 <| .re 8 (.tuple #[sZ, IV 230]) c) <| .rk 15 <| .re 8 (.tuple #[sZ, IV 230]) c) <| .rk 19 <| .re 8 (.tuple #[sZ, IV 230]) c) <| .rk 7 <| .re 14 (.tuple #[sZ, IV 231]) c)) : Calls TP 43 ⟨[PP b, IV off, IV n1]⟩ W R := VC.cs Tryz.func43 hm _ H
theorem ReadR_vc (b : Nat) (e : Bool) (cut : Int) (g a d : Nat) (j f : List Value) (h m k : Nat) (l : List Value) (off n1 : Int) (hm : Mem (yD1ab e cut j f l b g a d h m k) S w0 W) (H : VP S w0 R (.hp (yD1ab e cut j f l b g a d h m k) fun c => .il 9 Tryz.func61 [PP b] <| .il 8 Tryz.func42 [PP b] <| .ru [17,200] <| .li 2 2 (a : Int) fun o => .rk 1 <| .P 2 5 (o = 0) (.rk 5 <| .re 14 (.tuple #[sZ, IV 1]) c) <| .ru [9,200] <| .B 0 10 e (.rk 8 <| .il 15 Tryz.func62 [PP b, IV off, IV n1] <| .P 9 9 (0 ≤ off) (.P 4 13 (0 ≤ n1) (.il 2 Tryz.func42 [PP b] <| .ru [17,200] <| .li 2 2 (a : Int) fun p => .rk 1 <| .P 3 19 (n1 ≤ p) (.il 2 Tryz.func42 [PP b] <| .ru [17,200] <| .li 2 2 (a : Int) fun q => .rk 1 <| .rk 6 <| .I 2 18 (off ≤ (IntKind.i64.wrap (q - n1))) (.re 6 (.tuple #[sZ, IV 230]) c) <| .ru [7,200] <| .r 4 <| .sO d 0 a a 1 ((Int.toNat (IntKind.i64.wrap (off + n1))) - (Int.toNat off)) (a - (Int.toNat off)) (some (IV off)) (some (IV (IntKind.i64.wrap (off + n1)))) off (IntKind.i64.wrap (off + n1)) fun (n : Nat) => .ex fun (i : List UInt8) => .tG 2 d 5 n ((Int.toNat (IntKind.i64.wrap (off + n1))) - (Int.toNat off)) (a - (Int.toNat off)) f i <| .ls 1 6 (⟨i.toArray⟩) fun s => .re 2 (.tuple #[.string s, IV 0]) c) <| .rk 9 <| .re 8 (.tuple #[sZ, IV 230]) c) <| .rk 15 <| .re 8 (.tuple #[sZ, IV 230]) c) <| .rk 19 <| .re 8 (.tuple #[sZ, IV 230]) c) <| .rk 7 <| .re 14 (.tuple #[sZ, IV 231]) c)) : Calls TP 43 ⟨[PP b, IV off, IV n1]⟩ W R := VC.cs Tryz.func43 hm _ H
theorem SyncN_vc (b : Nat) (g : Bool) (cut : Int) (c a d : Nat) (f e : List Value) (hm : Mem (yD1aa g cut f e b c a d) S w0 W) (H : VP S w0 R (.hp (yD1aa g cut f e b c a d) fun h => .il 8 Tryz.func61 [PP b] <| .il 8 Tryz.func42 [PP b] <| .ru [17,200] <| .li 2 2 (a : Int) fun i => .rk 1 <| .P 2 5 (i = 0) (.rk 5 <| .re 13 (IV 1) h) <| .ru [9,200] <| .B 0 10 g (.rk 8 <| .r 10 <| .dr 8 <| .qu [3,100,3,100] <| .dn <| .cO 1 c 0 a a 2 d 0 a a 47 5 f (((e).drop 0).take (min a a)) <| .il 4 Tryz.func77 [PP b] <| .ru [5,200,7,200,3,200] <| .rk 1 <| .re 5 (IV 0) [(b, .cells (zD1aa g cut c a d) 82), (c, .cells ⟨(over (f) 0 (((e).drop 0).take (min a a)))⟩ 5), (d, .cells ⟨e⟩ 5)]) <| .rk 7 <| .re 13 (IV 231) h)) : Calls TP 68 ⟨[PP b]⟩ W R := VC.cs Tryz.func68 hm _ H
theorem SyncR_vc (b : Nat) (j : Bool) (cut : Int) (e a f : Nat) (i h : List Value) (c g d : Nat) (k : List Value) (hm : Mem (yD1ab j cut i h k b e a f c g d) S w0 W) (H : VP S w0 R (.hp (yD1ab j cut i h k b e a f c g d) fun l => .il 8 Tryz.func61 [PP b] <| .il 8 Tryz.func42 [PP b] <| .ru [17,200] <| .li 2 2 (a : Int) fun m => .rk 1 <| .P 2 5 (m = 0) (.rk 5 <| .re 13 (IV 1) l) <| .ru [9,200] <| .B 0 10 j (.rk 8 <| .r 10 <| .dr 8 <| .qu [3,100,3,100] <| .dn <| .cO 1 e 0 a a 2 f 0 a a 47 5 i (((h).drop 0).take (min a a)) <| .il 4 Tryz.func77 [PP b] <| .ru [5,200] <| .cR 3 c 0 g d 80 111 (.agg #[IV 0, sZ]) 2 24 k <| .ru [6,200] <| .sL c 0 g d 2 0 (Int.toNat 0) d none (some (IV 0)) 0 0 <| .ru [2,200] <| .rk 1 <| .re 5 (IV 0) [(b, .cells #[.bool j, IV cut, .slice (SO e) a a, .slice (SO f) a a, .slice (SO c) (Int.toNat 0) d] 82), (e, .cells ⟨(over (i) 0 (((h).drop 0).take (min a a)))⟩ 5), (f, .cells ⟨h⟩ 5), (c, .cells ⟨(over (k) 0 (noughtL #[IV 0, sZ] g))⟩ 111)]) <| .rk 7 <| .re 13 (IV 231) l)) : Calls TP 68 ⟨[PP b]⟩ W R := VC.cs Tryz.func68 hm _ H
theorem WriteN_vc (c : Nat) (j : Bool) (cut : Int) (e a d : Nat) (i h : List Value) (off : Int) (b : BA) (hm : Mem (yD1aa j cut i h c e a d) S w0 W) (H : VP S w0 R (.hp (yD1aa j cut i h c e a d) fun g => .il 8 Tryz.func61 [PP c] <| .il 8 Tryz.func42 [PP c] <| .ru [17,200] <| .li 2 2 (a : Int) fun n => .rk 1 <| .P 2 5 (n = 0) (.rk 5 <| .re 13 (IV 1) g) <| .ru [9,200] <| .B 0 10 j (.rk 8 <| .il 16 Tryz.func62 [PP c, IV off, IV (b.size : Int)] <| .P 9 9 (0 ≤ off) (.P 4 13 (0 ≤ (b.size : Int)) (.il 2 Tryz.func42 [PP c] <| .ru [17,200] <| .li 2 2 (a : Int) fun o => .rk 1 <| .P 3 19 ((b.size : Int) ≤ o) (.il 2 Tryz.func42 [PP c] <| .ru [17,200] <| .li 2 2 (a : Int) fun p => .rk 1 <| .rk 6 <| .I 2 18 (off ≤ (IntKind.i64.wrap (p - (b.size : Int)))) (.re 5 (IV 230) g) <| .ru [8,200] <| .r 3 <| .ns false 1 (.cells #[IV off, .string b] 111) fun B => .aN false 3 B 0 1 1 80 111 2 24 [IV off, .string b] fun (f l : Nat) (m : List Value) => .ru [2,200,6,200] <| .r 1 <| .sO d 0 a a 1 (a - (Int.toNat off)) (a - (Int.toNat off)) (some (IV off)) none off (a : Int) fun (k : Nat) => .r 1 <| .cS 2 d k (a - (Int.toNat off)) (a - (Int.toNat off)) 47 5 9 b h <| .il 6 Tryz.func63 [PP c] <| .ru [6,200] <| .P 2 6 (cut = 0) (.rk 1 <| .re 5 (IV 0) [(c, .cells #[.bool j, IV cut, .slice (SO e) a a, .slice (SO d) a a, .slice (SO f) 1 l] 82), (e, .cells ⟨i⟩ 5), (d, .cells ⟨(over (h) k (bytesL (b.data.toList.take (a - (Int.toNat off)))))⟩ 5), (B, .cells #[IV off, .string b] 111), (f, .cells ⟨(([IV off, .string b] : List Value) ++ m)⟩ 111)]) <| .ru [7,200,3,200,6,200] <| .P 2 18 ((IntKind.i64.wrap (cut - 1)) = 0) (.il 3 Tryz.func71 [PP c] <| .ru [5,200,2,200] <| .rk 1 <| .rk 1 <| .re 5 (IV 0) [(c, .cells #[.bool false, IV 0, .slice (SO e) a a, .slice (SO d) a a, .slice (SO f) 1 l] 82), (e, .cells ⟨i⟩ 5), (d, .cells ⟨(over (h) k (bytesL (b.data.toList.take (a - (Int.toNat off)))))⟩ 5), (B, .cells #[IV off, .string b] 111), (f, .cells ⟨(([IV off, .string b] : List Value) ++ m)⟩ 111)]) <| .rk 2 <| .re 5 (IV 0) [(c, .cells #[.bool j, IV (IntKind.i64.wrap (cut - 1)), .slice (SO e) a a, .slice (SO d) a a, .slice (SO f) 1 l] 82), (e, .cells ⟨i⟩ 5), (d, .cells ⟨(over (h) k (bytesL (b.data.toList.take (a - (Int.toNat off)))))⟩ 5), (B, .cells #[IV off, .string b] 111), (f, .cells ⟨(([IV off, .string b] : List Value) ++ m)⟩ 111)]) <| .rk 9 <| .re 7 (IV 230) g) <| .rk 15 <| .re 7 (IV 230) g) <| .rk 19 <| .re 7 (IV 230) g) <| .rk 7 <| .re 13 (IV 231) g)) : Calls TP 22 ⟨[PP c, IV off, .string b]⟩ W R := VC.cs Tryz.func22 hm _ H
theorem WriteR_vc (c : Nat) (l : Bool) (cut : Int) (f a d : Nat) (k j : List Value) (n e p : Nat) (i : List Value) (off : Int) (b : BA) (hm : Mem (yD1ab l cut k j i c f a d n e p) S w0 W) (H : VP S w0 R (.hp (yD1ab l cut k j i c f a d n e p) fun h => .il 8 Tryz.func61 [PP c] <| .il 8 Tryz.func42 [PP c] <| .ru [17,200] <| .li 2 2 (a : Int) fun s => .rk 1 <| .P 2 5 (s = 0) (.rk 5 <| .re 13 (IV 1) h) <| .ru [9,200] <| .B 0 10 l (.rk 8 <| .il 16 Tryz.func62 [PP c, IV off, IV (b.size : Int)] <| .P 9 9 (0 ≤ off) (.P 4 13 (0 ≤ (b.size : Int)) (.il 2 Tryz.func42 [PP c] <| .ru [17,200] <| .li 2 2 (a : Int) fun t => .rk 1 <| .P 3 19 ((b.size : Int) ≤ t) (.il 2 Tryz.func42 [PP c] <| .ru [17,200] <| .li 2 2 (a : Int) fun u => .rk 1 <| .rk 6 <| .I 2 18 (off ≤ (IntKind.i64.wrap (u - (b.size : Int)))) (.re 5 (IV 230) h) <| .ru [8,200] <| .r 3 <| .ns false 1 (.cells #[IV off, .string b] 111) fun B => .aO false 3 n e p i 4 B 0 1 1 80 111 2 24 [IV off, .string b] fun (g o : Nat) (q : List Value) => .ru [2,200,6,200] <| .r 1 <| .sO d 0 a a 1 (a - (Int.toNat off)) (a - (Int.toNat off)) (some (IV off)) none off (a : Int) fun (m : Nat) => .r 1 <| .cS 2 d m (a - (Int.toNat off)) (a - (Int.toNat off)) 47 5 9 b j <| .il 6 Tryz.func63 [PP c] <| .ru [6,200] <| .P 2 6 (cut = 0) (.rk 1 <| .re 5 (IV 0) [(c, .cells #[.bool l, IV cut, .slice (SO f) a a, .slice (SO d) a a, .slice (SO g) (e + 1) o] 82), (f, .cells ⟨k⟩ 5), (d, .cells ⟨(over (j) m (bytesL (b.data.toList.take (a - (Int.toNat off)))))⟩ 5), (B, .cells #[IV off, .string b] 111), (g, .cells ⟨((i).take (e * 2) ++ ([IV off, .string b] : List Value) ++ q)⟩ 111)]) <| .ru [7,200,3,200,6,200] <| .P 2 18 ((IntKind.i64.wrap (cut - 1)) = 0) (.il 3 Tryz.func71 [PP c] <| .ru [5,200,2,200] <| .rk 1 <| .rk 1 <| .re 5 (IV 0) [(c, .cells #[.bool false, IV 0, .slice (SO f) a a, .slice (SO d) a a, .slice (SO g) (e + 1) o] 82), (f, .cells ⟨k⟩ 5), (d, .cells ⟨(over (j) m (bytesL (b.data.toList.take (a - (Int.toNat off)))))⟩ 5), (B, .cells #[IV off, .string b] 111), (g, .cells ⟨((i).take (e * 2) ++ ([IV off, .string b] : List Value) ++ q)⟩ 111)]) <| .rk 2 <| .re 5 (IV 0) [(c, .cells #[.bool l, IV (IntKind.i64.wrap (cut - 1)), .slice (SO f) a a, .slice (SO d) a a, .slice (SO g) (e + 1) o] 82), (f, .cells ⟨k⟩ 5), (d, .cells ⟨(over (j) m (bytesL (b.data.toList.take (a - (Int.toNat off)))))⟩ 5), (B, .cells #[IV off, .string b] 111), (g, .cells ⟨((i).take (e * 2) ++ ([IV off, .string b] : List Value) ++ q)⟩ 111)]) <| .rk 9 <| .re 7 (IV 230) h) <| .rk 15 <| .re 7 (IV 230) h) <| .rk 19 <| .re 7 (IV 230) h) <| .rk 7 <| .re 13 (IV 231) h)) : Calls TP 22 ⟨[PP c, IV off, .string b]⟩ W R := VC.cs Tryz.func22 hm _ H
open Wire
abbrev DRep (D : Nat) (d : DS) (F : SHeap) : Prop := DRepT 82 5 111 D d F
abbrev DP (D : Nat) : Value := .pointer (SO D)
def DRes (D : Nat) (v : Value) (d : DS) : Value → SHeap → Prop := fun u F => u = v ∧ DRep D d F
theorem Size_e {D : Nat} {d : DS} {F : SHeap} (h : DRep D d F) : EffC TP 42 ⟨[DP D]⟩ F (DRes D (.int .i64 d.vis.length) d) := by
 obtain ⟨Z, M, O, ⟨hp, rfl⟩ | ⟨V, a0, r, a1, a2, rfl⟩⟩ := h <;> intro W hm
 ·refine SizeN_vc D _ _ M _ O _ _ hm ?_
  rintro _ rfl
  exact DK.fin ⟨rfl, Z, M, O, .inl ⟨hp, rfl⟩⟩
 ·refine SizeR_vc D _ _ M _ O _ _ V _ a0 _ hm ?_
  rintro _ rfl
  exact DK.fin ⟨rfl, Z, M, O, .inr ⟨V, a0, r, a1, a2, rfl⟩⟩
theorem read_bytes {d : DS} {off n : Int} (h : 0 ≤ off ∧ 0 ≤ n ∧ off + n ≤ d.vis.length) {o : Nat} (M : o = (if off.toNat = d.vis.length then 0 else 0 + off.toNat * 1)) :
  (((bytesL d.vis).drop o).take ((off + n).toNat - off.toNat) = bytesL ((d.vis.drop off.toNat).take n.toNat) ∧ ((d.vis.drop off.toNat).take n.toNat).length = (off + n).toNat - off.toNat) := by
 have e : (off + n).toNat - off.toNat = n.toNat := by omega
 rw [e]
 constructor
 ·by_cases hc : off.toNat = d.vis.length
  ·have : n.toNat = 0 := by omega
   simp [this, bytesL]
  ·rw [if_neg hc] at M
   rw [M]; simp [bytesL]
 ·simp; omega
theorem Read_e {D : Nat} {d : DS} {F : SHeap} (h : DRep D d F) {off n : Int} (b3 : -9223372036854775808 ≤ off ∧ off ≤ 9223372036854775807) :
  EffC TP 43 ⟨[DP D, .int .i64 off, .int .i64 n]⟩ F (DRes D (.tuple #[.string (d.read off n).1, .int .i64 (d.read off n).2]) d) := by
 unfold DS.read
 have b4 := h.1.pos
 have a4 := h.1.le
 have key : ∀ L, DRep D d L → ∀ S W, ((d.on = true) → ¬ (0 ≤ off ∧ 0 ≤ n ∧ off + n ≤ d.vis.length) → Fin (fun e a5 => ∃ v L', e = .returned v ∧ Mem L' S W a5 ∧ DRes D (.tuple #[.string (if d.on = false then (⟨#[]⟩, 231) else if 0 ≤ off ∧ 0 ≤ n ∧ off + n ≤ d.vis.length then (⟨((d.vis.drop off.toNat).take n.toNat).toArray⟩, 0) else (⟨#[]⟩, 230) : BA × Int).1, .int .i64 (if d.on = false then (⟨#[]⟩, 231) else if 0 ≤ off ∧ 0 ≤ n ∧ off + n ≤ d.vis.length then (⟨((d.vis.drop off.toNat).take n.toNat).toArray⟩, 0) else (⟨#[]⟩, 230) : BA × Int).2]) d v L') L S W (.tuple #[.string (⟨#[]⟩), .int .i64 (230 : Int)])) ∧
   ((d.on = false) → Fin (fun e a5 => ∃ v L', e = .returned v ∧ Mem L' S W a5 ∧ DRes D (.tuple #[.string (if d.on = false then (⟨#[]⟩, 231) else if 0 ≤ off ∧ 0 ≤ n ∧ off + n ≤ d.vis.length then (⟨((d.vis.drop off.toNat).take n.toNat).toArray⟩, 0) else (⟨#[]⟩, 230) : BA × Int).1, .int .i64 (if d.on = false then (⟨#[]⟩, 231) else if 0 ≤ off ∧ 0 ≤ n ∧ off + n ≤ d.vis.length then (⟨((d.vis.drop off.toNat).take n.toNat).toArray⟩, 0) else (⟨#[]⟩, 230) : BA × Int).2]) d v L') L S W (.tuple #[.string (⟨#[]⟩), .int .i64 (231 : Int)])) := by
  intro L a8 S W
  refine ⟨fun M a2 => DK.fin ?_, fun M => DK.fin ?_⟩
  ·rw [if_neg (by simp [M]), if_neg a2]; exact ⟨rfl, a8⟩
  ·rw [if_pos M]; exact ⟨rfl, a8⟩
 obtain ⟨a9, V, Z, ⟨hp, rfl⟩ | ⟨a3, a7, r, b0, b1, rfl⟩⟩ := h <;> intro W hm
 ·have a1 : DRep D d _ := ⟨a9, V, Z, .inl ⟨hp, rfl⟩⟩
  have O := key _ a1 (List.map (·.1) [hdr 82 D V Z d.vis.length d.on d.cut (.slice none 0 0), (V, .cells ⟨bytesL d.dur⟩ 5), (Z, .cells ⟨bytesL d.vis⟩ 5)]) W
  refine ReadN_vc D _ _ V _ Z _ _ off n hm ?_
  rintro _ rfl
  refine ⟨fun h => absurd h (by omega), fun _ => ⟨fun M => ⟨fun a0 => ⟨fun hn => ?_, fun hn => O.1 M (by omega)⟩, fun a0 => O.1 M (by omega)⟩, fun M => O.2 M⟩⟩
  rintro _ rfl
  refine ⟨fun a4 => ?_, fun a4 => O.1 M (by omega)⟩
  rintro _ rfl
  try dsimp only
  rw [wi64 (by omega)]
  refine ⟨fun a2 => O.1 M (by omega), fun a2 => ?_⟩
  try dsimp only
  rw [wi64 (by omega)]
  refine ⟨by omega, ?_⟩
  intro o a6
  refine ⟨_, read_bytes ⟨a0, hn, by omega⟩ a6, ?_⟩
  rintro _ rfl
  refine DK.fin ?_
  rw [if_neg (by simp [M]), if_pos ⟨a0, hn, by omega⟩]
  exact ⟨rfl, a1⟩
 ·have a1 : DRep D d _ := ⟨a9, V, Z, .inr ⟨a3, a7, r, b0, b1, rfl⟩⟩
  have O := key _ a1 (List.map (·.1) [hdr 82 D V Z d.vis.length d.on d.cut (.slice (SO a3) d.pend.length a7), (V, .cells ⟨bytesL d.dur⟩ 5), (Z, .cells ⟨bytesL d.vis⟩ 5), (a3, .cells ⟨pendCells d.pend ++ r⟩ 111)]) W
  refine ReadR_vc D _ _ V _ Z _ _ a3 _ a7 _ off n hm ?_
  rintro _ rfl
  refine ⟨fun h => absurd h (by omega), fun _ => ⟨fun M => ⟨fun a0 => ⟨fun hn => ?_, fun hn => O.1 M (by omega)⟩, fun a0 => O.1 M (by omega)⟩, fun M => O.2 M⟩⟩
  rintro _ rfl
  refine ⟨fun a4 => ?_, fun a4 => O.1 M (by omega)⟩
  rintro _ rfl
  try dsimp only
  rw [wi64 (by omega)]
  refine ⟨fun a2 => O.1 M (by omega), fun a2 => ?_⟩
  try dsimp only
  rw [wi64 (by omega)]
  refine ⟨by omega, ?_⟩
  intro o a6
  refine ⟨_, read_bytes ⟨a0, hn, by omega⟩ a6, ?_⟩
  rintro _ rfl
  refine DK.fin ?_
  rw [if_neg (by simp [M]), if_pos ⟨a0, hn, by omega⟩]
  exact ⟨rfl, a1⟩
theorem sync_dur {d : DS} (M : DOk d) : over (bytesL d.dur) 0 (((bytesL d.vis).drop 0).take (min d.vis.length d.vis.length)) = bytesL d.vis := by
 rw [Nat.min_self, List.drop_zero, List.take_of_length_le (by rw [bytesL_length]; exact Nat.le_refl _), bytesL_ovr, ovr_all M.len]
theorem forget_len {l : List (Nat × BA)} {r : List Value} {M : Nat} (h : (pendCells l ++ r).length = M * 2) :
  (pendCells [] ++ over (pendCells l ++ r) 0 (noughtL #[.int .i64 (0 : Int), .string (⟨#[]⟩)] l.length)).length = M * 2 := by
 have e : pendCells [] = [] := rfl
 have hn : (noughtL #[.int .i64 (0 : Int), .string (⟨#[]⟩)] l.length).length = l.length * 2 := noughtL_len _ _
 have hp := pendCells_len l
 rw [List.length_append] at h
 rw [e, List.nil_append, over_length (by rw [hn, List.length_append]; omega), List.length_append, h]
theorem Sync_e {D : Nat} {d : DS} {F : SHeap} (h : DRep D d F) : EffC TP 68 ⟨[DP D]⟩ F (DRes D (.int .i64 d.sync.1) d.sync.2) := by
 have Z := DOk.sync h.1
 unfold DS.sync at Z ⊢
 have a9 := h.1.pos
 have a2 : (((bytesL d.vis).drop 0).take (min d.vis.length d.vis.length)).length = min d.vis.length d.vis.length := by
  rw [List.length_take, List.drop_zero, bytesL_length]; omega
 have a6 : ∀ u ∈ (((bytesL d.vis).drop 0).take (min d.vis.length d.vis.length)), u.oneCell' = true := fun u a8 => bytesL_one _ u (List.mem_of_mem_drop (List.mem_of_mem_take a8))
 have a5 : 0 + (((bytesL d.vis).drop 0).take (min d.vis.length d.vis.length)).length ≤ (bytesL d.dur).length := by rw [a2, bytesL_length, h.1.len]; omega
 obtain ⟨a0, O, V, ⟨hp, rfl⟩ | ⟨a1, a3, r, a7, a4, rfl⟩⟩ := h <;> intro W hm
 ·refine SyncN_vc D _ _ O _ V _ _ hm ?_
  rintro _ rfl
  refine ⟨fun h => absurd h (by omega), fun _ => ⟨fun M => ⟨a2, a6, a5, ?_⟩, fun M => ?_⟩⟩
  ·rw [if_neg (by simp [M])] at Z ⊢
   rw [sync_dur a0]
   exact DK.fin ⟨rfl, Z, O, V, .inl ⟨rfl, rfl⟩⟩
  ·rw [if_pos M]; exact DK.fin ⟨rfl, a0, O, V, .inl ⟨hp, rfl⟩⟩
 ·refine SyncR_vc D _ _ O _ V _ _ a1 _ a3 _ hm ?_
  rintro _ rfl
  refine ⟨fun h => absurd h (by omega), fun _ => ⟨fun M => ⟨a2, a6, a5, by rw [List.length_append, pendCells_len]; omega, by omega, ?_⟩, fun M => ?_⟩⟩
  ·rw [if_neg (by simp [M])] at Z ⊢
   rw [sync_dur a0]
   refine DK.fin ⟨rfl, Z, O, V, .inr ⟨a1, a3, _, Nat.zero_le _, ?_, rfl⟩⟩
   exact forget_len a4
  ·rw [if_pos M]; exact DK.fin ⟨rfl, a0, O, V, .inr ⟨a1, a3, r, a7, a4, rfl⟩⟩
theorem write_vis {d : DS} {off : Int} {s : BA} (h : 0 ≤ off ∧ off + s.size ≤ d.vis.length) {o : Nat} (M : o = (if off.toNat = d.vis.length then 0 else 0 + off.toNat * 1)) :
  o + (d.vis.length - off.toNat) ≤ (bytesL d.vis).length ∧ over (bytesL d.vis) o (bytesL (s.data.toList.take (d.vis.length - off.toNat))) = bytesL (ovr d.vis off.toNat (bts s)) := by
 have Z : (bts s).length = s.size := bts_len s
 have O : s.data.toList.take (d.vis.length - off.toNat) = bts s := List.take_of_length_le (by show (bts s).length ≤ _; omega)
 rw [O, bytesL_length]
 by_cases hc : off.toNat = d.vis.length
 ·rw [if_pos hc] at M
  have V : s.size = 0 := by omega
  have hn : bts s = [] := List.eq_nil_of_length_eq_zero (by omega)
  subst M
  refine ⟨by omega, ?_⟩
  rw [hn, ovr_nil, bytesL_ovr, ovr_nil]
 ·rw [if_neg hc] at M
  rw [show o = off.toNat by omega]
  exact ⟨by omega, bytesL_ovr _ _ _⟩
theorem Write_e {D : Nat} {d : DS} {F : SHeap} (h : DRep D d F) (d4 : d.pend.length < 1000000) {off : Int} {s : BA} :
  EffC TP 22 ⟨[DP D, .int .i64 off, .string s]⟩ F (DRes D (.int .i64 (d.write off s).1) (d.write off s).2) := by
 have M := DOk.write h.1 off s
 unfold DS.write at M ⊢
 have d5 := h.1.pos
 have d3 := h.1.le
 have d2 := h.1.cut
 have bad : ∀ L, DRep D d L → ∀ S W, d.on = true → ¬ (0 ≤ off ∧ off + s.size ≤ d.vis.length) → Fin (fun e c9 => ∃ v L', e = .returned v ∧ Mem L' S W c9 ∧ DRes D (.int .i64 (if d.on = false then (231, d) else if 0 ≤ off ∧ off + s.size ≤ d.vis.length then (0, (d.put off.toNat s).spend) else (230, d) : Int × DS).1) (if d.on = false then (231, d) else if 0 ≤ off ∧ off + s.size ≤ d.vis.length then (0, (d.put off.toNat s).spend) else (230, d) : Int × DS).2 v L') L S W (.int .i64 (230 : Int)) := by
  intro L d0 S W O b1
  refine DK.fin ?_
  rw [if_neg (by simp [O]), if_neg b1]; exact ⟨rfl, d0⟩
 obtain ⟨c8, V, Z, ⟨hp, rfl⟩ | ⟨b4, c3, r, c6, c7, rfl⟩⟩ := h <;> intro W hm
 ·have b0 : DRep D d _ := ⟨c8, V, Z, .inl ⟨hp, rfl⟩⟩
  have a7 := bad _ b0 (List.map (·.1) [hdr 82 D V Z d.vis.length d.on d.cut (.slice none 0 0), (V, .cells ⟨bytesL d.dur⟩ 5), (Z, .cells ⟨bytesL d.vis⟩ 5)]) W
  refine WriteN_vc D _ _ V _ Z _ _ off s hm ?_
  rintro _ rfl
  try dsimp only
  refine ⟨fun h => absurd h (by omega), fun _ => ⟨fun O => ⟨fun a9 => ⟨fun _ => ?_, fun h => absurd (by omega) h⟩, fun a9 => a7 O (by omega)⟩, fun O => ?_⟩⟩
  ·rintro _ rfl
   refine ⟨fun c2 => ?_, fun c2 => a7 O (by omega)⟩
   rintro _ rfl
   try dsimp only
   rw [wi64 (by omega)]
   refine ⟨fun b1 => a7 O (by omega), fun b1 => ?_⟩
   have b3 : 0 ≤ off ∧ off + s.size ≤ d.vis.length := by omega
   have b5 : (if d.on = false then (231, d) else if 0 ≤ off ∧ off + s.size ≤ d.vis.length then (0, (d.put off.toNat s).spend) else (230, d) : Int × DS) = (0, (d.put off.toNat s).spend) := by
    rw [if_neg (by simp [O]), if_pos b3]
   rw [b5] at M ⊢
   intro B a1 cap a8 a3 a0
   refine ⟨by omega, ?_⟩
   intro o b7
   obtain ⟨c4, c5⟩ := write_vis b3 b7
   rw [c5]
   refine ⟨c4, ?_⟩
   have a6 : (ovr d.vis off.toNat (bts s)).length = d.vis.length := ovr_len (by rw [bts_len]; omega)
   have b9 : ((off.toNat : Nat) : Int) = off := Int.toNat_of_nonneg a9
   have a4 : pendCells (d.pend ++ [(off.toNat, s)]) = [.int .i64 off, .string s] := by rw [hp]; simp [pendCells, b9]
   have a5 : (d.pend ++ [(off.toNat, s)]).length = 1 := by rw [hp]; rfl
   unfold DS.spend DS.put at M ⊢
   simp only at M ⊢
   refine ⟨fun b6 => ?_, fun b6 => ⟨fun a2 => ?_, fun a2 => ?_⟩⟩
   ·rw [if_pos (by omega)] at M ⊢
    refine DK.fin' [0, 1, 2, 4] rfl ⟨rfl, M, V, Z, .inr ⟨a1, cap, a8, ?_, ?_, ?_⟩⟩ <;> simp only [a4, a5, a6]
    ·exact a3
    ·exact a0
    ·rfl
   ·rw [wi64 (by omega)] at a2
    rw [if_neg (by omega), if_pos (by omega)] at M ⊢
    refine DK.fin' [0, 1, 2, 4] rfl ⟨rfl, M, V, Z, .inr ⟨a1, cap, a8, ?_, ?_, ?_⟩⟩ <;> simp only [a4, a5, a6]
    ·exact a3
    ·exact a0
    ·rfl
   ·rw [wi64 (by omega)] at a2
    rw [wi64 (by omega)]
    rw [if_neg (by omega), if_neg (by omega)] at M ⊢
    refine DK.fin' [0, 1, 2, 4] rfl ⟨rfl, M, V, Z, .inr ⟨a1, cap, a8, ?_, ?_, ?_⟩⟩ <;> simp only [a4, a5, a6]
    ·exact a3
    ·exact a0
    ·rw [show ((d.cut : Int) - 1) = ((d.cut - 1 : Nat) : Int) by omega]; rfl
  ·refine DK.fin ?_
   rw [if_pos O]; exact ⟨rfl, b0⟩
 ·have b0 : DRep D d _ := ⟨c8, V, Z, .inr ⟨b4, c3, r, c6, c7, rfl⟩⟩
  have a7 := bad _ b0 (List.map (·.1) [hdr 82 D V Z d.vis.length d.on d.cut (.slice (SO b4) d.pend.length c3), (V, .cells ⟨bytesL d.dur⟩ 5), (Z, .cells ⟨bytesL d.vis⟩ 5), (b4, .cells ⟨pendCells d.pend ++ r⟩ 111)]) W
  refine WriteR_vc D _ _ V _ Z _ _ b4 _ c3 _ off s hm ?_
  rintro _ rfl
  try dsimp only
  refine ⟨fun h => absurd h (by omega), fun _ => ⟨fun O => ⟨fun a9 => ⟨fun _ => ?_, fun h => absurd (by omega) h⟩, fun a9 => a7 O (by omega)⟩, fun O => ?_⟩⟩
  ·rintro _ rfl
   refine ⟨fun c2 => ?_, fun c2 => a7 O (by omega)⟩
   rintro _ rfl
   try dsimp only
   rw [wi64 (by omega)]
   refine ⟨fun b1 => a7 O (by omega), fun b1 => ?_⟩
   have b3 : 0 ≤ off ∧ off + s.size ≤ d.vis.length := by omega
   have b5 : (if d.on = false then (231, d) else if 0 ≤ off ∧ off + s.size ≤ d.vis.length then (0, (d.put off.toNat s).spend) else (230, d) : Int × DS) = (0, (d.put off.toNat s).spend) := by
    rw [if_neg (by simp [O]), if_pos b3]
   rw [b5] at M ⊢
   intro B
   refine ⟨⟨c6, c7⟩, ⟨by omega, by omega⟩, ?_⟩
   intro a1 cap a8 a3 a0
   refine ⟨by omega, ?_⟩
   intro o b7
   obtain ⟨c4, c5⟩ := write_vis b3 b7
   rw [c5]
   refine ⟨c4, ?_⟩
   have a6 : (ovr d.vis off.toNat (bts s)).length = d.vis.length := ovr_len (by rw [bts_len]; omega)
   have b9 : ((off.toNat : Nat) : Int) = off := Int.toNat_of_nonneg a9
   have d1 : (pendCells d.pend ++ r).take (d.pend.length * 2) = pendCells d.pend := List.take_left' (pendCells_len _)
   rw [d1] at a0 ⊢
   have a4 : pendCells (d.pend ++ [(off.toNat, s)]) = pendCells d.pend ++ [.int .i64 off, .string s] := by rw [pendCells_append]; simp [pendCells, b9]
   have a5 : (d.pend ++ [(off.toNat, s)]).length = d.pend.length + 1 := by simp
   unfold DS.spend DS.put at M ⊢
   simp only at M ⊢
   refine ⟨fun b6 => ?_, fun b6 => ⟨fun a2 => ?_, fun a2 => ?_⟩⟩
   ·rw [if_pos (by omega)] at M ⊢
    refine DK.fin' [0, 1, 2, 4] rfl ⟨rfl, M, V, Z, .inr ⟨a1, cap, a8, ?_, ?_, ?_⟩⟩ <;> simp only [a4, a5, a6]
    ·exact a3
    ·exact a0
    ·rfl
   ·rw [wi64 (by omega)] at a2
    rw [if_neg (by omega), if_pos (by omega)] at M ⊢
    refine DK.fin' [0, 1, 2, 4] rfl ⟨rfl, M, V, Z, .inr ⟨a1, cap, a8, ?_, ?_, ?_⟩⟩ <;> simp only [a4, a5, a6]
    ·exact a3
    ·exact a0
    ·rfl
   ·rw [wi64 (by omega)] at a2
    rw [wi64 (by omega)]
    rw [if_neg (by omega), if_neg (by omega)] at M ⊢
    refine DK.fin' [0, 1, 2, 4] rfl ⟨rfl, M, V, Z, .inr ⟨a1, cap, a8, ?_, ?_, ?_⟩⟩ <;> simp only [a4, a5, a6]
    ·exact a3
    ·exact a0
    ·rw [show ((d.cut : Int) - 1) = ((d.cut - 1 : Nat) : Int) by omega]; rfl
  ·refine DK.fin ?_
   rw [if_pos O]; exact ⟨rfl, b0⟩
end Go.Eng
