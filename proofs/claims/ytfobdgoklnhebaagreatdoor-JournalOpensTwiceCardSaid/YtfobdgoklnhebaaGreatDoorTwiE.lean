/- A part of the proof. -/
import Derived.Test.YtfobdgoklnhebaaGreatDoorChecked
import Derived.Test.YtfobdgoklnhebaaGreatDoorTwiD
set_option linter.unusedVariables false
set_option linter.unusedSimpArgs false
set_option maxRecDepth 100000
namespace Go.Eng
open Go Go.RowKit Go.Proofs
variable {P : Program} {R : Ending → World → Prop} {S : List Nat} {w0 W : World} {lk : Lk} {tp bp ap : OA} {tc bc ac : Nat} {K K' : Value → SHeap → Prop} {args : Array Value} {g : FuncId}
abbrev zD1aa (a : Bool) (b : Int) (x2 x3 x4 : Nat) : Array Value := #[.bool a, IV b, .slice (SO x2) x3 x3, .slice (SO x4) x3 x3, .slice none 0 0]
abbrev zD1ab (a : Bool) (b : Int) (x2 x3 x4 x5 c d : Nat) : Array Value := #[.bool a, IV b, .slice (SO x2) x3 x3, .slice (SO x4) x3 x3, .slice (SO x5) c d]
abbrev yD1aa (b : Bool) (c : Int) (x2 x3 : List Value) (x4 x5 d a : Nat) : SHeap := [(x4, .cells (zD1aa b c x5 d a) 82), (x5, .cells ⟨x2⟩ 5), (a, .cells ⟨x3⟩ 5)]
abbrev yD1ab (d : Bool) (e : Int) (x2 x3 x4 : List Value) (x5 a h b c f g : Nat) : SHeap := [(x5, .cells (zD1ab d e a h b c f g) 82), (a, .cells ⟨x2⟩ 5), (b, .cells ⟨x3⟩ 5), (c, .cells ⟨x4⟩ 111)]
theorem SizeN_vc (a : Nat) (f : Bool) (cut : Int) (c b d : Nat) (e g : List Value) (hm : Mem (yD1aa f cut e g a c b d) S w0 W) (H : VP S w0 R (.ru [17,200] <| .li 2 2 (b : Int) fun h => .re 1 (IV h) (yD1aa f cut e g a c b d))) : Calls TP 42 ⟨[PP a]⟩ W R := VC.cs Tryz.func42 hm _ H
theorem SizeR_vc (a : Nat) (g : Bool) (cut : Int) (c b e : Nat) (f k : List Value) (d j h : Nat) (i : List Value) (hm : Mem (yD1ab g cut f k i a c b e d j h) S w0 W) (H : VP S w0 R (.ru [17,200] <| .li 2 2 (b : Int) fun l => .re 1 (IV l) (yD1ab g cut f k i a c b e d j h))) : Calls TP 42 ⟨[PP a]⟩ W R := VC.cs Tryz.func42 hm _ H
theorem ReadN_vc (a : Nat) (g : Bool) (cut : Int) (h d e : Nat) (i f : List Value) (off n1 : Int) (hm : Mem (yD1aa g cut i f a h d e) S w0 W)
 (H :
 ∀ n : Int, n = (d : Int) →
 Br (n = 0)
 (Fin R (yD1aa g cut i f a h d e) S w0 (.tuple #[sZ, IV 1]))
 (Bb (g)
 (Br ((0 : Int) ≤ off)
 (Br ((0 : Int) ≤ n1)
 (∀ o : Int, o = (d : Int) →
 Br (n1 ≤ o)
 (∀ p : Int, p = (d : Int) →
 Bn (off ≤ (IntKind.i64.wrap (p - n1)))
 (Fin R (yD1aa g cut i f a h d e) S w0 (.tuple #[sZ, IV 230]))
 ((0 ≤ off ∧ off ≤ (IntKind.i64.wrap (off + n1)) ∧ (IntKind.i64.wrap (off + n1)) ≤ (d : Int)) ∧
 ∀ j : Nat, j = (if (Int.toNat off) = d then 0 else 0 + (Int.toNat off) * 1) →
 ∃ k : List UInt8, (((f).drop j).take ((Int.toNat (IntKind.i64.wrap (off + n1))) - (Int.toNat off)) = bytesL k ∧ k.length = ((Int.toNat (IntKind.i64.wrap (off + n1))) - (Int.toNat off))) ∧
 ∀ m : BA, m = ⟨k.toArray⟩ →
 Fin R (yD1aa g cut i f a h d e) S w0 (.tuple #[.string m, IV 0])))
 (Fin R (yD1aa g cut i f a h d e) S w0 (.tuple #[sZ, IV 230])))
 (Fin R (yD1aa g cut i f a h d e) S w0 (.tuple #[sZ, IV 230])))
 (Fin R (yD1aa g cut i f a h d e) S w0 (.tuple #[sZ, IV 230])))
 (Fin R (yD1aa g cut i f a h d e) S w0 (.tuple #[sZ, IV 231])))) :
 Calls TP 43 ⟨[PP a, IV off, IV n1]⟩ W R:= by
 refine AtE.cs 29 Tryz.func43 hm (.ru 9 (.il 61 [PP a] 12 Tryz.func61 (.ru 8 (.nm (KR Tryz.f61 12 [1,2]) [(0, PP a), (3, PP a)] (yD1aa g cut i f a h d e) (.il 42 [PP a] 10 Tryz.func42 (.ru 17 (.ld 0 2 (.ru 2 (.lI 2 H fun n H => (.ru 1 (.rk Tryz.func42 (.ru 2 (.sP 5 H (fun H => ?_) fun H => ?_)))))))))))))
 ·refine .ru 5 (.rk Tryz.func61 (.ru 14 (.rt Tryz.func43 H)))
 ·refine .ru 9 (.ld 0 0 (.sB 10 H (fun H => ?_) fun H => ?_))
  ·refine .ru 8 (.rk Tryz.func61 (.nm (KR Tryz.f43 12 [2]) [(0, PP a), (1, IV off), (2, IV n1), (10, IV 0)] (yD1aa g cut i f a h d e) (.ru 15 (.il 62 [PP a, IV off, IV n1] 27 Tryz.func62 (.ru 9 (.sP 9 H (fun H => ?_) fun H => ?_))))))
   ·refine .ru 4 (.sP 13 H (fun H => ?_) fun H => ?_)
    ·refine .ru 2 (.nm (KR Tryz.f62 6 [9,10,11,12,13,14,15,16,17,18,19,20]) [(0, PP a), (1, IV off), (2, IV n1), (13, .bool true), (14, IV n1), (15, PP a)] (yD1aa g cut i f a h d e) (.il 42 [PP a] 10 Tryz.func42 (.ru 17 (.ld 0 2 (.ru 2 (.lI 2 H fun o H => (.ru 1 (.rk Tryz.func42 (.ru 3 (.sP 19 H (fun H => ?_) fun H => ?_))))))))))
     ·refine .ru 2 (.nm (KR Tryz.f62 6 [15,16,17,18,19,20]) [(2, IV n1), (19, .bool true), (20, IV off), (21, PP a)] (yD1aa g cut i f a h d e) (.il 42 [PP a] 10 Tryz.func42 (.ru 17 (.ld 0 2 (.ru 2 (.lI 2 H fun p H => (.ru 1 (.rk Tryz.func42 (.ru 6 (.rk Tryz.func62 (.ru 2 (.sN 18 H (fun H => ?_) fun H => ?_))))))))))))
      ·refine .ru 6 (.rt Tryz.func43 H)
      ·refine .ru 7 (.ld 0 3 (.ru 4 ?_))
       obtain ⟨j, q⟩ : ∃ u : Nat, u = (if (Int.toNat off) = d then 0 else 0 + (Int.toNat off) * 1) := ⟨_, rfl⟩
       refine .sliceL (E := 5) (b := e) (o := 0) (len := d) (cap := d) (sz := 1) (o' := j) (l' := ((Int.toNat (IntKind.i64.wrap (off + n1))) - (Int.toNat off))) (c' := (d - (Int.toNat off))) (lo := some (IV off)) (hi := some (IV (IntKind.i64.wrap (off + n1)))) (x := off) (y := (IntKind.i64.wrap (off + n1))) (by kernel_rfl) (.inl ⟨.i64, rfl⟩) (.inl ⟨.i64, rfl⟩) H.1 q rfl rfl ?_
       replace H := H.2 j q
       refine .nm (KR Tryz.f43 30 [9,10,11]) [(27, .slice (some ⟨e, j, none⟩) ((Int.toNat (IntKind.i64.wrap (off + n1))) - (Int.toNat off)) (d - (Int.toNat off)))] (yD1aa g cut i f a h d e) ?_
       obtain ⟨k, s, H⟩ := H
       refine .toString 2 (E := 5) (o := j) (len := ((Int.toNat (IntKind.i64.wrap (off + n1))) - (Int.toNat off))) (cap := (d - (Int.toNat off))) (c := f) (l := k) (by kernel_rfl) s (.ru 1 (.letS 6 (n := ⟨k.toArray⟩) (by kernel_rfl) (fun m t => ?_)))
       replace H := H m t
       refine .ru 2 (.rt Tryz.func43 H)
     ·refine .ru 9 (.rk Tryz.func62 (.ru 8 (.rt Tryz.func43 H)))
    ·refine .ru 15 (.rk Tryz.func62 (.ru 8 (.rt Tryz.func43 H)))
   ·refine .ru 19 (.rk Tryz.func62 (.ru 8 (.rt Tryz.func43 H)))
  ·refine .ru 7 (.rk Tryz.func61 (.nm (KR Tryz.f43 12 [2]) [(0, PP a), (1, IV off), (2, IV n1), (10, IV 231)] (yD1aa g cut i f a h d e) (.ru 14 (.rt Tryz.func43 H))))
theorem ReadR_vc (a : Nat) (g : Bool) (cut : Int) (h d e : Nat) (j f : List Value) (i n k : Nat) (m : List Value) (off n1 : Int) (hm : Mem (yD1ab g cut j f m a h d e i n k) S w0 W)
 (H :
 ∀ s : Int, s = (d : Int) →
 Br (s = 0)
 (Fin R (yD1ab g cut j f m a h d e i n k) S w0 (.tuple #[sZ, IV 1]))
 (Bb (g)
 (Br ((0 : Int) ≤ off)
 (Br ((0 : Int) ≤ n1)
 (∀ t : Int, t = (d : Int) →
 Br (n1 ≤ t)
 (∀ u : Int, u = (d : Int) →
 Bn (off ≤ (IntKind.i64.wrap (u - n1)))
 (Fin R (yD1ab g cut j f m a h d e i n k) S w0 (.tuple #[sZ, IV 230]))
 ((0 ≤ off ∧ off ≤ (IntKind.i64.wrap (off + n1)) ∧ (IntKind.i64.wrap (off + n1)) ≤ (d : Int)) ∧
 ∀ o : Nat, o = (if (Int.toNat off) = d then 0 else 0 + (Int.toNat off) * 1) →
 ∃ p : List UInt8, (((f).drop o).take ((Int.toNat (IntKind.i64.wrap (off + n1))) - (Int.toNat off)) = bytesL p ∧ p.length = ((Int.toNat (IntKind.i64.wrap (off + n1))) - (Int.toNat off))) ∧
 ∀ q : BA, q = ⟨p.toArray⟩ →
 Fin R (yD1ab g cut j f m a h d e i n k) S w0 (.tuple #[.string q, IV 0])))
 (Fin R (yD1ab g cut j f m a h d e i n k) S w0 (.tuple #[sZ, IV 230])))
 (Fin R (yD1ab g cut j f m a h d e i n k) S w0 (.tuple #[sZ, IV 230])))
 (Fin R (yD1ab g cut j f m a h d e i n k) S w0 (.tuple #[sZ, IV 230])))
 (Fin R (yD1ab g cut j f m a h d e i n k) S w0 (.tuple #[sZ, IV 231])))) :
 Calls TP 43 ⟨[PP a, IV off, IV n1]⟩ W R:= by
 refine AtE.cs 29 Tryz.func43 hm (.ru 9 (.il 61 [PP a] 12 Tryz.func61 (.ru 8 (.nm (KR Tryz.f61 12 [1,2]) [(0, PP a), (3, PP a)] (yD1ab g cut j f m a h d e i n k) (.il 42 [PP a] 10 Tryz.func42 (.ru 17 (.ld 0 2 (.ru 2 (.lI 2 H fun s H => (.ru 1 (.rk Tryz.func42 (.ru 2 (.sP 5 H (fun H => ?_) fun H => ?_)))))))))))))
 ·refine .ru 5 (.rk Tryz.func61 (.ru 14 (.rt Tryz.func43 H)))
 ·refine .ru 9 (.ld 0 0 (.sB 10 H (fun H => ?_) fun H => ?_))
  ·refine .ru 8 (.rk Tryz.func61 (.nm (KR Tryz.f43 12 [2]) [(0, PP a), (1, IV off), (2, IV n1), (10, IV 0)] (yD1ab g cut j f m a h d e i n k) (.ru 15 (.il 62 [PP a, IV off, IV n1] 27 Tryz.func62 (.ru 9 (.sP 9 H (fun H => ?_) fun H => ?_))))))
   ·refine .ru 4 (.sP 13 H (fun H => ?_) fun H => ?_)
    ·refine .ru 2 (.nm (KR Tryz.f62 6 [9,10,11,12,13,14,15,16,17,18,19,20]) [(0, PP a), (1, IV off), (2, IV n1), (13, .bool true), (14, IV n1), (15, PP a)] (yD1ab g cut j f m a h d e i n k) (.il 42 [PP a] 10 Tryz.func42 (.ru 17 (.ld 0 2 (.ru 2 (.lI 2 H fun t H => (.ru 1 (.rk Tryz.func42 (.ru 3 (.sP 19 H (fun H => ?_) fun H => ?_))))))))))
     ·refine .ru 2 (.nm (KR Tryz.f62 6 [15,16,17,18,19,20]) [(2, IV n1), (19, .bool true), (20, IV off), (21, PP a)] (yD1ab g cut j f m a h d e i n k) (.il 42 [PP a] 10 Tryz.func42 (.ru 17 (.ld 0 2 (.ru 2 (.lI 2 H fun u H => (.ru 1 (.rk Tryz.func42 (.ru 6 (.rk Tryz.func62 (.ru 2 (.sN 18 H (fun H => ?_) fun H => ?_))))))))))))
      ·refine .ru 6 (.rt Tryz.func43 H)
      ·refine .ru 7 (.ld 0 3 (.ru 4 ?_))
       obtain ⟨o, w⟩ : ∃ A : Nat, A = (if (Int.toNat off) = d then 0 else 0 + (Int.toNat off) * 1) := ⟨_, rfl⟩
       refine .sliceL (E := 5) (b := e) (o := 0) (len := d) (cap := d) (sz := 1) (o' := o) (l' := ((Int.toNat (IntKind.i64.wrap (off + n1))) - (Int.toNat off))) (c' := (d - (Int.toNat off))) (lo := some (IV off)) (hi := some (IV (IntKind.i64.wrap (off + n1)))) (x := off) (y := (IntKind.i64.wrap (off + n1))) (by kernel_rfl) (.inl ⟨.i64, rfl⟩) (.inl ⟨.i64, rfl⟩) H.1 w rfl rfl ?_
       replace H := H.2 o w
       refine .nm (KR Tryz.f43 30 [9,10,11]) [(27, .slice (some ⟨e, o, none⟩) ((Int.toNat (IntKind.i64.wrap (off + n1))) - (Int.toNat off)) (d - (Int.toNat off)))] (yD1ab g cut j f m a h d e i n k) ?_
       obtain ⟨p, x, H⟩ := H
       refine .toString 2 (E := 5) (o := o) (len := ((Int.toNat (IntKind.i64.wrap (off + n1))) - (Int.toNat off))) (cap := (d - (Int.toNat off))) (c := f) (l := p) (by kernel_rfl) x (.ru 1 (.letS 6 (n := ⟨p.toArray⟩) (by kernel_rfl) (fun q z => ?_)))
       replace H := H q z
       refine .ru 2 (.rt Tryz.func43 H)
     ·refine .ru 9 (.rk Tryz.func62 (.ru 8 (.rt Tryz.func43 H)))
    ·refine .ru 15 (.rk Tryz.func62 (.ru 8 (.rt Tryz.func43 H)))
   ·refine .ru 19 (.rk Tryz.func62 (.ru 8 (.rt Tryz.func43 H)))
  ·refine .ru 7 (.rk Tryz.func61 (.nm (KR Tryz.f43 12 [2]) [(0, PP a), (1, IV off), (2, IV n1), (10, IV 231)] (yD1ab g cut j f m a h d e i n k) (.ru 14 (.rt Tryz.func43 H))))
theorem SyncN_vc (d : Nat) (i : Bool) (cut : Int) (g b f : Nat) (h e : List Value) (hm : Mem (yD1aa i cut h e d g b f) S w0 W)
 (H :
 ∀ k : Int, k = (b : Int) →
 Br (k = 0)
 (Fin R (yD1aa i cut h e d g b f) S w0 (IV 1))
 (Bb (i)
 (((((e).drop 0).take (min b b)).length = min b b) ∧ (∀ u ∈ (((e).drop 0).take (min b b)), u.oneCell' = true) ∧ (0 + (((e).drop 0).take (min b b)).length ≤ (h).length) ∧
 Fin R [(d, .cells (zD1aa i cut g b f) 82), (g, .cells ⟨(over (h) 0 (((e).drop 0).take (min b b)))⟩ 5), (f, .cells ⟨e⟩ 5)] S w0 (IV 0))
 (Fin R (yD1aa i cut h e d g b f) S w0 (IV 231)))) :
 Calls TP 68 ⟨[PP d]⟩ W R:= by
 refine AtE.cs 20 Tryz.func68 hm (.ru 8 (.il 61 [PP d] 12 Tryz.func61 (.ru 8 (.nm (KR Tryz.f61 12 [1,2]) [(0, PP d), (3, PP d)] (yD1aa i cut h e d g b f) (.il 42 [PP d] 10 Tryz.func42 (.ru 17 (.ld 0 2 (.ru 2 (.lI 2 H fun k H => (.ru 1 (.rk Tryz.func42 (.ru 2 (.sP 5 H (fun H => ?_) fun H => ?_)))))))))))))
 ·refine .ru 5 (.rk Tryz.func61 (.ru 13 (.rt Tryz.func68 H)))
 ·refine .ru 9 (.ld 0 0 (.sB 10 H (fun H => ?_) fun H => ?_))
  ·refine .ru 8 (.rk Tryz.func61 (.nm (KR Tryz.f68 12 [2]) [(0, PP d), (5, IV 0)] (yD1aa i cut h e d g b f) (.ru 10 (.nm (KC Tryz.f68 14) [(0, PP d)] (yD1aa i cut h e d g b f) (.dr 8 (.pu (.pu (.pu (.ld 0 2 (.pu (.pu (.pu (.ld 0 3 (.dn (.copyO 1 (T := 47) (E := 5) (o := 0) (dl := b) (dc := b) (n := b) (m := b) (a := ⟨f, 0, none⟩) (c := h) (((e).drop 0).take (min b b)) (by kernel_rfl) (Src.own (j := 2) (o := 0) (n := (min b b)) (c := e) (by kernel_rfl)) H.1 H.2.1 H.2.2.1 ?_)))))))))))))))
   replace H := H.2.2.2
   refine .ru 4 (.nm (KR Tryz.f68 30 [1]) [(18, PP d)] [(d, .cells (zD1aa i cut g b f) 82), (g, .cells ⟨(over (h) 0 (((e).drop 0).take (min b b)))⟩ 5), (f, .cells ⟨e⟩ 5)] (.il 77 [PP d] 14 Tryz.func77 (.ru 5 (.ld 0 4 (.ru 7 (.ld 0 4 (.ru 3 (.st 0 4 (.ru 1 (.rk Tryz.func77 (.ru 5 (.rt Tryz.func68 H))))))))))))
  ·refine .ru 7 (.rk Tryz.func61 (.nm (KR Tryz.f68 12 [2]) [(0, PP d), (5, IV 231)] (yD1aa i cut h e d g b f) (.ru 13 (.rt Tryz.func68 H))))
theorem SyncR_vc (e : Nat) (q : Bool) (cut : Int) (l d i : Nat) (n f : List Value) (h k g : Nat) (p : List Value) (hm : Mem (yD1ab q cut n f p e l d i h k g) S w0 W)
 (H :
 ∀ s : Int, s = (d : Int) →
 Br (s = 0)
 (Fin R (yD1ab q cut n f p e l d i h k g) S w0 (IV 1))
 (Bb (q)
 (((((f).drop 0).take (min d d)).length = min d d) ∧ (∀ u ∈ (((f).drop 0).take (min d d)), u.oneCell' = true) ∧ (0 + (((f).drop 0).take (min d d)).length ≤ (n).length) ∧
 (0 + k * 2 ≤ (p).length) ∧
 (0 ≤ (0 : Int) ∧ (0 : Int) ≤ (0 : Int) ∧ (0 : Int) ≤ (g : Int)) ∧
 Fin R [(e, .cells #[.bool q, IV cut, .slice (SO l) d d, .slice (SO i) d d, .slice (SO h) (Int.toNat (0 : Int)) g] 82), (l, .cells ⟨(over (n) 0 (((f).drop 0).take (min d d)))⟩ 5), (i, .cells ⟨f⟩ 5), (h, .cells ⟨(over (p) 0 (noughtL #[IV 0, sZ] k))⟩ 111)] S w0 (IV 0))
 (Fin R (yD1ab q cut n f p e l d i h k g) S w0 (IV 231)))) :
 Calls TP 68 ⟨[PP e]⟩ W R:= by
 refine AtE.cs 20 Tryz.func68 hm (.ru 8 (.il 61 [PP e] 12 Tryz.func61 (.ru 8 (.nm (KR Tryz.f61 12 [1,2]) [(0, PP e), (3, PP e)] (yD1ab q cut n f p e l d i h k g) (.il 42 [PP e] 10 Tryz.func42 (.ru 17 (.ld 0 2 (.ru 2 (.lI 2 H fun s H => (.ru 1 (.rk Tryz.func42 (.ru 2 (.sP 5 H (fun H => ?_) fun H => ?_)))))))))))))
 ·refine .ru 5 (.rk Tryz.func61 (.ru 13 (.rt Tryz.func68 H)))
 ·refine .ru 9 (.ld 0 0 (.sB 10 H (fun H => ?_) fun H => ?_))
  ·refine .ru 8 (.rk Tryz.func61 (.nm (KR Tryz.f68 12 [2]) [(0, PP e), (5, IV 0)] (yD1ab q cut n f p e l d i h k g) (.ru 10 (.nm (KC Tryz.f68 14) [(0, PP e)] (yD1ab q cut n f p e l d i h k g) (.dr 8 (.pu (.pu (.pu (.ld 0 2 (.pu (.pu (.pu (.ld 0 3 (.dn (.copyO 1 (T := 47) (E := 5) (o := 0) (dl := d) (dc := d) (n := d) (m := d) (a := ⟨i, 0, none⟩) (c := n) (((f).drop 0).take (min d d)) (by kernel_rfl) (Src.own (j := 2) (o := 0) (n := (min d d)) (c := f) (by kernel_rfl)) H.1 H.2.1 H.2.2.1 ?_)))))))))))))))
   replace H := H.2.2.2
   refine .ru 4 (.nm (KR Tryz.f68 30 [1]) [(18, PP e)] [(e, .cells (zD1ab q cut l d i h k g) 82), (l, .cells ⟨(over (n) 0 (((f).drop 0).take (min d d)))⟩ 5), (i, .cells ⟨f⟩ 5), (h, .cells ⟨p⟩ 111)] (.il 77 [PP e] 14 Tryz.func77 (.ru 5 (.ld 0 4 (.clearO 3 (T := 80) (E := 111) (o := 0) (n := k) (cap := g) (z := .agg #[IV 0, sZ]) (sz := 2) (bytes := 24) (c := p) (by kernel_rfl) (by kernel_rfl) H.1 ?_)))))
   replace H := H.2
   refine .ru 6 (.ld 0 4 (.sliceL (E := 111) (b := h) (o := 0) (len := k) (cap := g) (sz := 2) (o' := 0) (l' := (Int.toNat (0 : Int))) (c' := g) (lo := none) (hi := some (IV 0)) (x := (0 : Int)) (y := (0 : Int)) (by kernel_rfl) (.inr ⟨rfl, rfl⟩) (.inl ⟨.i64, rfl⟩) H.1 (by simp) (by simp) (by simp) ?_))
   replace H := H.2
   refine .ru 2 (.st 0 4 (.ru 1 (.rk Tryz.func77 (.ru 5 (.rt Tryz.func68 H)))))
  ·refine .ru 7 (.rk Tryz.func61 (.nm (KR Tryz.f68 12 [2]) [(0, PP e), (5, IV 231)] (yD1ab q cut n f p e l d i h k g) (.ru 13 (.rt Tryz.func68 H))))
theorem CutN_vc (a : Nat) (f : Bool) (cut : Int) (c b d : Nat) (e g : List Value) (n1 : Int) (hm : Mem (yD1aa f cut e g a c b d) S w0 W) (H : VP S w0 R (.hp (yD1aa f cut e g a c b d) fun h => .il 8 Tryz.func61 [PP a] <| .il 8 Tryz.func42 [PP a] <| .ru [17,200] <| .li 2 2 (b : Int) fun i => .rk 1 <| .P 2 5 (i = 0) (.rk 5 <| .re 13 (IV 1) h) <| .ru [9,200] <| .B 0 10 f (.rk 8 <| .P 15 12 (n1 < 0) (.re 5 (IV 2) h) <| .P 8 14 (n1 = 0) (.il 6 Tryz.func71 [PP a] <| .ru [5,200,2,200] <| .rk 1 <| .re 5 (IV 0) [(a, .cells #[.bool false, IV 0, .slice (SO c) b b, .slice (SO d) b b, .slice none 0 0] 82), (c, .cells ⟨e⟩ 5), (d, .cells ⟨g⟩ 5)]) <| .ru [9,200] <| .re 5 (IV 0) (yD1aa f n1 e g a c b d)) <| .rk 7 <| .re 13 (IV 231) h)) : Calls TP 29 ⟨[PP a, IV n1]⟩ W R := VC.cs Tryz.func29 hm _ H
theorem CutR_vc (a : Nat) (g : Bool) (cut : Int) (c b e : Nat) (f k : List Value) (d j h : Nat) (i : List Value) (n1 : Int) (hm : Mem (yD1ab g cut f k i a c b e d j h) S w0 W) (H : VP S w0 R (.hp (yD1ab g cut f k i a c b e d j h) fun l => .il 8 Tryz.func61 [PP a] <| .il 8 Tryz.func42 [PP a] <| .ru [17,200] <| .li 2 2 (b : Int) fun m => .rk 1 <| .P 2 5 (m = 0) (.rk 5 <| .re 13 (IV 1) l) <| .ru [9,200] <| .B 0 10 g (.rk 8 <| .P 15 12 (n1 < 0) (.re 5 (IV 2) l) <| .P 8 14 (n1 = 0) (.il 6 Tryz.func71 [PP a] <| .ru [5,200,2,200] <| .rk 1 <| .re 5 (IV 0) [(a, .cells #[.bool false, IV 0, .slice (SO c) b b, .slice (SO e) b b, .slice (SO d) j h] 82), (c, .cells ⟨f⟩ 5), (e, .cells ⟨k⟩ 5), (d, .cells ⟨i⟩ 111)]) <| .ru [9,200] <| .re 5 (IV 0) (yD1ab g n1 f k i a c b e d j h)) <| .rk 7 <| .re 13 (IV 231) l)) : Calls TP 29 ⟨[PP a, IV n1]⟩ W R := VC.cs Tryz.func29 hm _ H
theorem WriteN_vc (e : Nat) (l : Bool) (cut : Int) (h d g : Nat) (k i : List Value) (off : Int) (f : BA) (hm : Mem (yD1aa l cut k i e h d g) S w0 W)
 (H :
 ∀ s : Int, s = (d : Int) →
 Br (s = 0)
 (Fin R (yD1aa l cut k i e h d g) S w0 (IV 1))
 (Bb (l)
 (Br ((0 : Int) ≤ off)
 (Br ((0 : Int) ≤ (f.size : Int))
 (∀ t : Int, t = (d : Int) →
 Br ((f.size : Int) ≤ t)
 (∀ u : Int, u = (d : Int) →
 Bn (off ≤ (IntKind.i64.wrap (u - (f.size : Int))))
 (Fin R (yD1aa l cut k i e h d g) S w0 (IV 230))
 (∀ B : Nat,
 ∀ (n p : Nat) (q : List Value), 1 ≤ p → (([IV off, .string f] : List Value) ++ q).length = p * 2 →
 (0 ≤ off ∧ off ≤ (d : Int) ∧ (d : Int) ≤ (d : Int)) ∧
 ∀ o : Nat, o = (if (Int.toNat off) = d then 0 else 0 + (Int.toNat off) * 1) →
 (o + (d - (Int.toNat off)) ≤ (i).length) ∧
 Br (cut = 0)
 (Fin R [(e, .cells #[.bool l, IV cut, .slice (SO h) d d, .slice (SO g) d d, .slice (SO n) 1 p] 82), (h, .cells ⟨k⟩ 5), (g, .cells ⟨(over (i) o (bytesL (f.data.toList.take (d - (Int.toNat off)))))⟩ 5), (B, .cells #[IV off, .string f] 111), (n, .cells ⟨(([IV off, .string f] : List Value) ++ q)⟩ 111)] S w0 (IV 0))
 (Br ((IntKind.i64.wrap (cut - (1 : Int))) = (0 : Int))
 (Fin R [(e, .cells #[.bool false, IV 0, .slice (SO h) d d, .slice (SO g) d d, .slice (SO n) 1 p] 82), (h, .cells ⟨k⟩ 5), (g, .cells ⟨(over (i) o (bytesL (f.data.toList.take (d - (Int.toNat off)))))⟩ 5), (B, .cells #[IV off, .string f] 111), (n, .cells ⟨(([IV off, .string f] : List Value) ++ q)⟩ 111)] S w0 (IV 0))
 (Fin R [(e, .cells #[.bool l, IV (IntKind.i64.wrap (cut - (1 : Int))), .slice (SO h) d d, .slice (SO g) d d, .slice (SO n) 1 p] 82), (h, .cells ⟨k⟩ 5), (g, .cells ⟨(over (i) o (bytesL (f.data.toList.take (d - (Int.toNat off)))))⟩ 5), (B, .cells #[IV off, .string f] 111), (n, .cells ⟨(([IV off, .string f] : List Value) ++ q)⟩ 111)] S w0 (IV 0)))))
 (Fin R (yD1aa l cut k i e h d g) S w0 (IV 230)))
 (Fin R (yD1aa l cut k i e h d g) S w0 (IV 230)))
 (Fin R (yD1aa l cut k i e h d g) S w0 (IV 230)))
 (Fin R (yD1aa l cut k i e h d g) S w0 (IV 231)))) :
 Calls TP 22 ⟨[PP e, IV off, .string f]⟩ W R:= by
 refine AtE.cs 43 Tryz.func22 hm (.ru 8 (.il 61 [PP e] 12 Tryz.func61 (.ru 8 (.nm (KR Tryz.f61 12 [1,2]) [(0, PP e), (3, PP e)] (yD1aa l cut k i e h d g) (.il 42 [PP e] 10 Tryz.func42 (.ru 17 (.ld 0 2 (.ru 2 (.lI 2 H fun s H => (.ru 1 (.rk Tryz.func42 (.ru 2 (.sP 5 H (fun H => ?_) fun H => ?_)))))))))))))
 ·refine .ru 5 (.rk Tryz.func61 (.ru 13 (.rt Tryz.func22 H)))
 ·refine .ru 9 (.ld 0 0 (.sB 10 H (fun H => ?_) fun H => ?_))
  ·refine .ru 8 (.rk Tryz.func61 (.nm (KR Tryz.f22 12 [2]) [(0, PP e), (1, IV off), (2, .string f), (9, IV 0)] (yD1aa l cut k i e h d g) (.ru 16 (.il 62 [PP e, IV off, IV (f.size : Int)] 27 Tryz.func62 (.ru 9 (.sP 9 H (fun H => ?_) fun H => ?_))))))
   ·refine .ru 4 (.sP 13 H (fun H => ?_) fun H => ?_)
    ·refine .ru 2 (.nm (KR Tryz.f62 6 [9,10,11,12,13,14,15,16,17,18,19,20]) [(0, PP e), (1, IV off), (2, IV (f.size : Int)), (13, .bool true), (14, IV (f.size : Int)), (15, PP e)] (yD1aa l cut k i e h d g) (.il 42 [PP e] 10 Tryz.func42 (.ru 17 (.ld 0 2 (.ru 2 (.lI 2 H fun t H => (.ru 1 (.rk Tryz.func42 (.ru 3 (.sP 19 H (fun H => ?_) fun H => ?_))))))))))
     ·refine .ru 2 (.nm (KR Tryz.f62 6 [15,16,17,18,19,20]) [(2, IV (f.size : Int)), (19, .bool true), (20, IV off), (21, PP e)] (yD1aa l cut k i e h d g) (.il 42 [PP e] 10 Tryz.func42 (.ru 17 (.ld 0 2 (.ru 2 (.lI 2 H fun u H => (.ru 1 (.rk Tryz.func42 (.ru 6 (.rk Tryz.func62 (.ru 2 (.sN 18 H (fun H => ?_) fun H => ?_))))))))))))
      ·refine .ru 5 (.rt Tryz.func22 H)
      ·refine .ru 8 (.ld 0 4 (.ru 3 (.nw (fun B => .slice (SO B) 1 1) (.cells #[IV off, .string f] 111) fun B => ?_)))
       replace H := H B
       refine .nm (KR Tryz.f22 30 [9,10,11,12]) [(0, PP e), (1, IV off), (2, .string f), (19, PP e), (23, .slice none 0 0), (27, .slice (SO B) 1 1)] [(e, .cells (zD1aa l cut h d g) 82), (h, .cells ⟨k⟩ 5), (g, .cells ⟨i⟩ 5), (B, .cells #[IV off, .string f] 111)] (.appendN (T := 80) (E := 111) (z := .agg #[IV 0, sZ]) (sz := 2) (bytes := 24) (a := ⟨B, 0, none⟩) (m := 1) (c := 1) ([IV off, .string f] : List Value) (by kernel_rfl) (show Src _ _ _ _ ([IV off, .string f] : List Value) from Src.own (j := 3) (o := 0) (n := 2) (c := ([IV off, .string f] : List Value)) (by kernel_rfl)) (by simp) (by omega) (by omega) (fun n p q x A => ?_))
       replace H := H n p q x A
       refine .ru 2 (.store 0 4 (T := 80) (v := .slice (SO n) 1 p) (by kernel_rfl) (.ru 6 (.ld 0 3 (.ru 1 ?_))))
       obtain ⟨o, w⟩ : ∃ C : Nat, C = (if (Int.toNat off) = d then 0 else 0 + (Int.toNat off) * 1) := ⟨_, rfl⟩
       refine .sliceL (E := 5) (b := g) (o := 0) (len := d) (cap := d) (sz := 1) (o' := o) (l' := (d - (Int.toNat off))) (c' := (d - (Int.toNat off))) (lo := some (IV off)) (hi := none) (x := off) (y := (d : Int)) (by kernel_rfl) (.inl ⟨.i64, rfl⟩) (.inr ⟨rfl, rfl, by omega⟩) H.1 w (by simp) rfl ?_
       replace H := H.2 o w
       refine .ru 1 (.copyS 2 (T := 47) (E := 5) (U := 9) (o := o) (dl := (d - (Int.toNat off))) (dc := (d - (Int.toNat off))) (s := f) (c := i) (by kernel_rfl) H.1 ?_)
       replace H := H.2
       refine .ru 6 (.nm (KR Tryz.f22 126 [3]) [(41, PP e)] [(e, .cells #[.bool l, IV cut, .slice (SO h) d d, .slice (SO g) d d, .slice (SO n) 1 p] 82), (h, .cells ⟨k⟩ 5), (g, .cells ⟨(over (i) o (bytesL (f.data.toList.take (d - (Int.toNat off)))))⟩ 5), (B, .cells #[IV off, .string f] 111), (n, .cells ⟨(([IV off, .string f] : List Value) ++ q)⟩ 111)] (.il 63 [PP e] 21 Tryz.func63 (.ru 6 (.ld 0 1 (.ru 2 (.sP 6 H (fun H => ?_) fun H => ?_))))))
       ·refine .ru 1 (.rk Tryz.func63 (.ru 5 (.rt Tryz.func22 H)))
       ·refine .ru 7 (.ld 0 1 (.ru 3 (.store 0 1 (T := 3) (v := IV (IntKind.i64.wrap (cut - (1 : Int)))) (by kernel_rfl) (.ru 6 (.ld 0 1 (.ru 2 (.sP 18 H (fun H => ?_) fun H => ?_)))))))
        ·refine .ru 3 (.nm (KR Tryz.f63 30 [1]) [(19, PP e)] [(e, .cells #[.bool l, IV (IntKind.i64.wrap (cut - (1 : Int))), .slice (SO h) d d, .slice (SO g) d d, .slice (SO n) 1 p] 82), (h, .cells ⟨k⟩ 5), (g, .cells ⟨(over (i) o (bytesL (f.data.toList.take (d - (Int.toNat off)))))⟩ 5), (B, .cells #[IV off, .string f] 111), (n, .cells ⟨(([IV off, .string f] : List Value) ++ q)⟩ 111)] (.il 71 [PP e] 8 Tryz.func71 (.ru 5 (.store 0 0 (T := 4) (v := .bool false) (by kernel_rfl) (.ru 2 (.store 0 1 (T := 3) (v := IV 0) (by kernel_rfl) (.ru 1 (.rk Tryz.func71 (.ru 1 (.rk Tryz.func63 (.ru 5 (.rt Tryz.func22 H))))))))))))
        ·refine .ru 2 (.rk Tryz.func63 (.nm (KR Tryz.f22 126 []) [] [(e, .cells #[.bool l, IV (IntKind.i64.wrap (cut - (1 : Int))), .slice (SO h) d d, .slice (SO g) d d, .slice (SO n) 1 p] 82), (h, .cells ⟨k⟩ 5), (g, .cells ⟨(over (i) o (bytesL (f.data.toList.take (d - (Int.toNat off)))))⟩ 5), (B, .cells #[IV off, .string f] 111), (n, .cells ⟨(([IV off, .string f] : List Value) ++ q)⟩ 111)] (.ru 5 (.rt Tryz.func22 H))))
     ·refine .ru 9 (.rk Tryz.func62 (.ru 7 (.rt Tryz.func22 H)))
    ·refine .ru 15 (.rk Tryz.func62 (.ru 7 (.rt Tryz.func22 H)))
   ·refine .ru 19 (.rk Tryz.func62 (.ru 7 (.rt Tryz.func22 H)))
  ·refine .ru 7 (.rk Tryz.func61 (.nm (KR Tryz.f22 12 [2]) [(0, PP e), (1, IV off), (2, .string f), (9, IV 231)] (yD1aa l cut k i e h d g) (.ru 13 (.rt Tryz.func22 H))))
theorem WriteR_vc (e : Nat) (o : Bool) (cut : Int) (i d h : Nat) (n l : List Value) (s g p : Nat) (k : List Value) (off : Int) (f : BA) (hm : Mem (yD1ab o cut n l k e i d h s g p) S w0 W)
 (H :
 ∀ x : Int, x = (d : Int) →
 Br (x = 0)
 (Fin R (yD1ab o cut n l k e i d h s g p) S w0 (IV 1))
 (Bb (o)
 (Br ((0 : Int) ≤ off)
 (Br ((0 : Int) ≤ (f.size : Int))
 (∀ A : Int, A = (d : Int) →
 Br ((f.size : Int) ≤ A)
 (∀ C : Int, C = (d : Int) →
 Bn (off ≤ (IntKind.i64.wrap (C - (f.size : Int))))
 (Fin R (yD1ab o cut n l k e i d h s g p) S w0 (IV 230))
 (∀ B : Nat,
 (g ≤ p ∧ (k).length = p * 2) ∧ ((g + 1) ≤ 9223372036854775807 ∧ (g + 1) * 24 ≤ 140737488355328) ∧
 ∀ (q u : Nat) (w : List Value), (g + 1) ≤ u → ((k).take (g * 2) ++ ([IV off, .string f] : List Value) ++ w).length = u * 2 →
 (0 ≤ off ∧ off ≤ (d : Int) ∧ (d : Int) ≤ (d : Int)) ∧
 ∀ t : Nat, t = (if (Int.toNat off) = d then 0 else 0 + (Int.toNat off) * 1) →
 (t + (d - (Int.toNat off)) ≤ (l).length) ∧
 Br (cut = 0)
 (Fin R [(e, .cells #[.bool o, IV cut, .slice (SO i) d d, .slice (SO h) d d, .slice (SO q) (g + 1) u] 82), (i, .cells ⟨n⟩ 5), (h, .cells ⟨(over (l) t (bytesL (f.data.toList.take (d - (Int.toNat off)))))⟩ 5), (B, .cells #[IV off, .string f] 111), (q, .cells ⟨((k).take (g * 2) ++ ([IV off, .string f] : List Value) ++ w)⟩ 111)] S w0 (IV 0))
 (Br ((IntKind.i64.wrap (cut - (1 : Int))) = (0 : Int))
 (Fin R [(e, .cells #[.bool false, IV 0, .slice (SO i) d d, .slice (SO h) d d, .slice (SO q) (g + 1) u] 82), (i, .cells ⟨n⟩ 5), (h, .cells ⟨(over (l) t (bytesL (f.data.toList.take (d - (Int.toNat off)))))⟩ 5), (B, .cells #[IV off, .string f] 111), (q, .cells ⟨((k).take (g * 2) ++ ([IV off, .string f] : List Value) ++ w)⟩ 111)] S w0 (IV 0))
 (Fin R [(e, .cells #[.bool o, IV (IntKind.i64.wrap (cut - (1 : Int))), .slice (SO i) d d, .slice (SO h) d d, .slice (SO q) (g + 1) u] 82), (i, .cells ⟨n⟩ 5), (h, .cells ⟨(over (l) t (bytesL (f.data.toList.take (d - (Int.toNat off)))))⟩ 5), (B, .cells #[IV off, .string f] 111), (q, .cells ⟨((k).take (g * 2) ++ ([IV off, .string f] : List Value) ++ w)⟩ 111)] S w0 (IV 0)))))
 (Fin R (yD1ab o cut n l k e i d h s g p) S w0 (IV 230)))
 (Fin R (yD1ab o cut n l k e i d h s g p) S w0 (IV 230)))
 (Fin R (yD1ab o cut n l k e i d h s g p) S w0 (IV 230)))
 (Fin R (yD1ab o cut n l k e i d h s g p) S w0 (IV 231)))) :
 Calls TP 22 ⟨[PP e, IV off, .string f]⟩ W R:= by
 refine AtE.cs 43 Tryz.func22 hm (.ru 8 (.il 61 [PP e] 12 Tryz.func61 (.ru 8 (.nm (KR Tryz.f61 12 [1,2]) [(0, PP e), (3, PP e)] (yD1ab o cut n l k e i d h s g p) (.il 42 [PP e] 10 Tryz.func42 (.ru 17 (.ld 0 2 (.ru 2 (.lI 2 H fun x H => (.ru 1 (.rk Tryz.func42 (.ru 2 (.sP 5 H (fun H => ?_) fun H => ?_)))))))))))))
 ·refine .ru 5 (.rk Tryz.func61 (.ru 13 (.rt Tryz.func22 H)))
 ·refine .ru 9 (.ld 0 0 (.sB 10 H (fun H => ?_) fun H => ?_))
  ·refine .ru 8 (.rk Tryz.func61 (.nm (KR Tryz.f22 12 [2]) [(0, PP e), (1, IV off), (2, .string f), (9, IV 0)] (yD1ab o cut n l k e i d h s g p) (.ru 16 (.il 62 [PP e, IV off, IV (f.size : Int)] 27 Tryz.func62 (.ru 9 (.sP 9 H (fun H => ?_) fun H => ?_))))))
   ·refine .ru 4 (.sP 13 H (fun H => ?_) fun H => ?_)
    ·refine .ru 2 (.nm (KR Tryz.f62 6 [9,10,11,12,13,14,15,16,17,18,19,20]) [(0, PP e), (1, IV off), (2, IV (f.size : Int)), (13, .bool true), (14, IV (f.size : Int)), (15, PP e)] (yD1ab o cut n l k e i d h s g p) (.il 42 [PP e] 10 Tryz.func42 (.ru 17 (.ld 0 2 (.ru 2 (.lI 2 H fun A H => (.ru 1 (.rk Tryz.func42 (.ru 3 (.sP 19 H (fun H => ?_) fun H => ?_))))))))))
     ·refine .ru 2 (.nm (KR Tryz.f62 6 [15,16,17,18,19,20]) [(2, IV (f.size : Int)), (19, .bool true), (20, IV off), (21, PP e)] (yD1ab o cut n l k e i d h s g p) (.il 42 [PP e] 10 Tryz.func42 (.ru 17 (.ld 0 2 (.ru 2 (.lI 2 H fun C H => (.ru 1 (.rk Tryz.func42 (.ru 6 (.rk Tryz.func62 (.ru 2 (.sN 18 H (fun H => ?_) fun H => ?_))))))))))))
      ·refine .ru 5 (.rt Tryz.func22 H)
      ·refine .ru 8 (.ld 0 4 (.ru 3 (.nw (fun B => .slice (SO B) 1 1) (.cells #[IV off, .string f] 111) fun B => ?_)))
       replace H := H B
       refine .nm (KR Tryz.f22 30 [9,10,11,12]) [(0, PP e), (1, IV off), (2, .string f), (19, PP e), (23, .slice (SO s) g p), (27, .slice (SO B) 1 1)] [(e, .cells (zD1ab o cut i d h s g p) 82), (i, .cells ⟨n⟩ 5), (h, .cells ⟨l⟩ 5), (s, .cells ⟨k⟩ 111), (B, .cells #[IV off, .string f] 111)] (.appendO 3 (T := 80) (E := 111) (z := .agg #[IV 0, sZ]) (sz := 2) (bytes := 24) (n := g) (cap := p) (a := ⟨B, 0, none⟩) (m := 1) (c := 1) (cs := k) ([IV off, .string f] : List Value) (by kernel_rfl) (show Src _ _ _ _ ([IV off, .string f] : List Value) from Src.own (j := 4) (o := 0) (n := 2) (c := ([IV off, .string f] : List Value)) (by kernel_rfl)) (by simp) (by simp [Value.oneCell']) H.1 H.2.1 (fun q u w F G => ?_))
       replace H := H.2.2 q u w F G
       refine .ru 2 (.store 0 4 (T := 80) (v := .slice (SO q) (g + 1) u) (by kernel_rfl) (.ru 6 (.ld 0 3 (.ru 1 ?_))))
       obtain ⟨t, D⟩ : ∃ M : Nat, M = (if (Int.toNat off) = d then 0 else 0 + (Int.toNat off) * 1) := ⟨_, rfl⟩
       refine .sliceL (E := 5) (b := h) (o := 0) (len := d) (cap := d) (sz := 1) (o' := t) (l' := (d - (Int.toNat off))) (c' := (d - (Int.toNat off))) (lo := some (IV off)) (hi := none) (x := off) (y := (d : Int)) (by kernel_rfl) (.inl ⟨.i64, rfl⟩) (.inr ⟨rfl, rfl, by omega⟩) H.1 D (by simp) rfl ?_
       replace H := H.2 t D
       refine .ru 1 (.copyS 2 (T := 47) (E := 5) (U := 9) (o := t) (dl := (d - (Int.toNat off))) (dc := (d - (Int.toNat off))) (s := f) (c := l) (by kernel_rfl) H.1 ?_)
       replace H := H.2
       refine .ru 6 (.nm (KR Tryz.f22 126 [3]) [(41, PP e)] [(e, .cells #[.bool o, IV cut, .slice (SO i) d d, .slice (SO h) d d, .slice (SO q) (g + 1) u] 82), (i, .cells ⟨n⟩ 5), (h, .cells ⟨(over (l) t (bytesL (f.data.toList.take (d - (Int.toNat off)))))⟩ 5), (B, .cells #[IV off, .string f] 111), (q, .cells ⟨((k).take (g * 2) ++ ([IV off, .string f] : List Value) ++ w)⟩ 111)] (.il 63 [PP e] 21 Tryz.func63 (.ru 6 (.ld 0 1 (.ru 2 (.sP 6 H (fun H => ?_) fun H => ?_))))))
       ·refine .ru 1 (.rk Tryz.func63 (.ru 5 (.rt Tryz.func22 H)))
       ·refine .ru 7 (.ld 0 1 (.ru 3 (.store 0 1 (T := 3) (v := IV (IntKind.i64.wrap (cut - (1 : Int)))) (by kernel_rfl) (.ru 6 (.ld 0 1 (.ru 2 (.sP 18 H (fun H => ?_) fun H => ?_)))))))
        ·refine .ru 3 (.nm (KR Tryz.f63 30 [1]) [(19, PP e)] [(e, .cells #[.bool o, IV (IntKind.i64.wrap (cut - (1 : Int))), .slice (SO i) d d, .slice (SO h) d d, .slice (SO q) (g + 1) u] 82), (i, .cells ⟨n⟩ 5), (h, .cells ⟨(over (l) t (bytesL (f.data.toList.take (d - (Int.toNat off)))))⟩ 5), (B, .cells #[IV off, .string f] 111), (q, .cells ⟨((k).take (g * 2) ++ ([IV off, .string f] : List Value) ++ w)⟩ 111)] (.il 71 [PP e] 8 Tryz.func71 (.ru 5 (.store 0 0 (T := 4) (v := .bool false) (by kernel_rfl) (.ru 2 (.store 0 1 (T := 3) (v := IV 0) (by kernel_rfl) (.ru 1 (.rk Tryz.func71 (.ru 1 (.rk Tryz.func63 (.ru 5 (.rt Tryz.func22 H))))))))))))
        ·refine .ru 2 (.rk Tryz.func63 (.nm (KR Tryz.f22 126 []) [] [(e, .cells #[.bool o, IV (IntKind.i64.wrap (cut - (1 : Int))), .slice (SO i) d d, .slice (SO h) d d, .slice (SO q) (g + 1) u] 82), (i, .cells ⟨n⟩ 5), (h, .cells ⟨(over (l) t (bytesL (f.data.toList.take (d - (Int.toNat off)))))⟩ 5), (B, .cells #[IV off, .string f] 111), (q, .cells ⟨((k).take (g * 2) ++ ([IV off, .string f] : List Value) ++ w)⟩ 111)] (.ru 5 (.rt Tryz.func22 H))))
     ·refine .ru 9 (.rk Tryz.func62 (.ru 7 (.rt Tryz.func22 H)))
    ·refine .ru 15 (.rk Tryz.func62 (.ru 7 (.rt Tryz.func22 H)))
   ·refine .ru 19 (.rk Tryz.func62 (.ru 7 (.rt Tryz.func22 H)))
  ·refine .ru 7 (.rk Tryz.func61 (.nm (KR Tryz.f22 12 [2]) [(0, PP e), (1, IV off), (2, .string f), (9, IV 231)] (yD1ab o cut n l k e i d h s g p) (.ru 13 (.rt Tryz.func22 H))))
open Wire
abbrev DRep (D : Nat) (d : DS) (F : SHeap) : Prop := DRepT 82 5 111 D d F
abbrev DP (D : Nat) : Value := .pointer (SO D)
def DRes (D : Nat) (v : Value) (d : DS) : Value → SHeap → Prop := fun u F => u = v ∧ DRep D d F
theorem Size_e {D : Nat} {d : DS} {F : SHeap} (h : DRep D d F) : EffC TP 42 ⟨[DP D]⟩ F (DRes D (.int .i64 d.vis.length) d) := by
 obtain ⟨Z, M, O, ⟨hp, rfl⟩ | ⟨V, a0, r, a1, a2, rfl⟩⟩ := h <;> intro W hm
 ·refine SizeN_vc D _ _ M _ O _ _ hm ?_
  rintro _ rfl
  exact DK.fin ⟨rfl, Z, M, O, .inl ⟨hp, rfl⟩⟩
 ·refine SizeR_vc D _ _ M _ O _ _ V _ a0 _ hm ?_
  rintro _ rfl
  exact DK.fin ⟨rfl, Z, M, O, .inr ⟨V, a0, r, a1, a2, rfl⟩⟩
theorem Cut_e {D : Nat} {d : DS} {F : SHeap} (h : DRep D d F) {n : Int} (hn : n ≤ 9223372036854775807) : EffC TP 29 ⟨[DP D, .int .i64 n]⟩ F (DRes D (.int .i64 (d.cutAt n).1) (d.cutAt n).2) := by
 have M := DOk.cutAt h.1 hn
 unfold DS.cutAt at M ⊢
 obtain ⟨a2, V, Z, ⟨hp, rfl⟩ | ⟨a3, a4, r, a5, a6, rfl⟩⟩ := h <;> intro W hm
 ·refine CutN_vc D _ _ V _ Z _ _ n hm ?_
  have := a2.pos
  rintro _ rfl
  refine ⟨fun h => absurd h (by omega), fun _ => ⟨fun a1 => ?_, fun a1 => ?_⟩⟩
  ·rw [if_neg (by simp [a1])] at M ⊢
   refine ⟨fun O => ?_, fun O => ⟨fun a0 => ?_, fun a0 => ?_⟩⟩
   ·rw [if_pos O]; exact DK.fin ⟨rfl, a2, V, Z, .inl ⟨hp, rfl⟩⟩
   ·rw [if_neg O, if_pos a0] at M ⊢
    exact DK.fin ⟨rfl, M, V, Z, .inl ⟨hp, rfl⟩⟩
   ·rw [if_neg O, if_neg a0] at M ⊢
    refine DK.fin ⟨rfl, M, V, Z, .inl ⟨hp, ?_⟩⟩
    simp only [Int.toNat_of_nonneg (Int.not_lt.1 O)]
  ·rw [if_pos a1]; exact DK.fin ⟨rfl, a2, V, Z, .inl ⟨hp, rfl⟩⟩
 ·refine CutR_vc D _ _ V _ Z _ _ a3 _ a4 _ n hm ?_
  have := a2.pos
  rintro _ rfl
  refine ⟨fun h => absurd h (by omega), fun _ => ⟨fun a1 => ?_, fun a1 => ?_⟩⟩
  ·rw [if_neg (by simp [a1])] at M ⊢
   refine ⟨fun O => ?_, fun O => ⟨fun a0 => ?_, fun a0 => ?_⟩⟩
   ·rw [if_pos O]; exact DK.fin ⟨rfl, a2, V, Z, .inr ⟨a3, a4, r, a5, a6, rfl⟩⟩
   ·rw [if_neg O, if_pos a0] at M ⊢
    exact DK.fin ⟨rfl, M, V, Z, .inr ⟨a3, a4, r, a5, a6, rfl⟩⟩
   ·rw [if_neg O, if_neg a0] at M ⊢
    refine DK.fin ⟨rfl, M, V, Z, .inr ⟨a3, a4, r, a5, a6, ?_⟩⟩
    simp only [Int.toNat_of_nonneg (Int.not_lt.1 O)]
  ·rw [if_pos a1]; exact DK.fin ⟨rfl, a2, V, Z, .inr ⟨a3, a4, r, a5, a6, rfl⟩⟩
theorem read_bytes {d : DS} {off n : Int} (h : 0 ≤ off ∧ 0 ≤ n ∧ off + n ≤ d.vis.length) {o : Nat} (M : o = (if off.toNat = d.vis.length then 0 else 0 + off.toNat * 1)) :
  (((bytesL d.vis).drop o).take ((off + n).toNat - off.toNat) = bytesL ((d.vis.drop off.toNat).take n.toNat) ∧ ((d.vis.drop off.toNat).take n.toNat).length = (off + n).toNat - off.toNat) := by
 have e : (off + n).toNat - off.toNat = n.toNat := by omega
 rw [e]
 constructor
 ·by_cases hc : off.toNat = d.vis.length
  ·have : n.toNat = 0 := by omega
   simp [this, bytesL]
  ·rw [if_neg hc] at M
   rw [M]; simp [bytesL]
 ·simp; omega
theorem Read_e {D : Nat} {d : DS} {F : SHeap} (h : DRep D d F) {off n : Int} (b3 : -9223372036854775808 ≤ off ∧ off ≤ 9223372036854775807) :
  EffC TP 43 ⟨[DP D, .int .i64 off, .int .i64 n]⟩ F (DRes D (.tuple #[.string (d.read off n).1, .int .i64 (d.read off n).2]) d) := by
 unfold DS.read
 have b4 := h.1.pos
 have a4 := h.1.le
 have key : ∀ L, DRep D d L → ∀ S W, ((d.on = true) → ¬ (0 ≤ off ∧ 0 ≤ n ∧ off + n ≤ d.vis.length) → Fin (fun e a5 => ∃ v L', e = .returned v ∧ Mem L' S W a5 ∧ DRes D (.tuple #[.string (if d.on = false then (⟨#[]⟩, 231) else if 0 ≤ off ∧ 0 ≤ n ∧ off + n ≤ d.vis.length then (⟨((d.vis.drop off.toNat).take n.toNat).toArray⟩, 0) else (⟨#[]⟩, 230) : BA × Int).1, .int .i64 (if d.on = false then (⟨#[]⟩, 231) else if 0 ≤ off ∧ 0 ≤ n ∧ off + n ≤ d.vis.length then (⟨((d.vis.drop off.toNat).take n.toNat).toArray⟩, 0) else (⟨#[]⟩, 230) : BA × Int).2]) d v L') L S W (.tuple #[.string (⟨#[]⟩), .int .i64 (230 : Int)])) ∧
   ((d.on = false) → Fin (fun e a5 => ∃ v L', e = .returned v ∧ Mem L' S W a5 ∧ DRes D (.tuple #[.string (if d.on = false then (⟨#[]⟩, 231) else if 0 ≤ off ∧ 0 ≤ n ∧ off + n ≤ d.vis.length then (⟨((d.vis.drop off.toNat).take n.toNat).toArray⟩, 0) else (⟨#[]⟩, 230) : BA × Int).1, .int .i64 (if d.on = false then (⟨#[]⟩, 231) else if 0 ≤ off ∧ 0 ≤ n ∧ off + n ≤ d.vis.length then (⟨((d.vis.drop off.toNat).take n.toNat).toArray⟩, 0) else (⟨#[]⟩, 230) : BA × Int).2]) d v L') L S W (.tuple #[.string (⟨#[]⟩), .int .i64 (231 : Int)])) := by
  intro L a8 S W
  refine ⟨fun M a2 => DK.fin ?_, fun M => DK.fin ?_⟩
  ·rw [if_neg (by simp [M]), if_neg a2]; exact ⟨rfl, a8⟩
  ·rw [if_pos M]; exact ⟨rfl, a8⟩
 obtain ⟨a9, V, Z, ⟨hp, rfl⟩ | ⟨a3, a7, r, b0, b1, rfl⟩⟩ := h <;> intro W hm
 ·have a1 : DRep D d _ := ⟨a9, V, Z, .inl ⟨hp, rfl⟩⟩
  have O := key _ a1 (List.map (·.1) [hdr 82 D V Z d.vis.length d.on d.cut (.slice none 0 0), (V, .cells ⟨bytesL d.dur⟩ 5), (Z, .cells ⟨bytesL d.vis⟩ 5)]) W
  refine ReadN_vc D _ _ V _ Z _ _ off n hm ?_
  rintro _ rfl
  refine ⟨fun h => absurd h (by omega), fun _ => ⟨fun M => ⟨fun a0 => ⟨fun hn => ?_, fun hn => O.1 M (by omega)⟩, fun a0 => O.1 M (by omega)⟩, fun M => O.2 M⟩⟩
  rintro _ rfl
  refine ⟨fun a4 => ?_, fun a4 => O.1 M (by omega)⟩
  rintro _ rfl
  rw [wi64 (by omega)]
  refine ⟨fun a2 => O.1 M (by omega), fun a2 => ?_⟩
  rw [wi64 (by omega)]
  refine ⟨by omega, ?_⟩
  intro o a6
  refine ⟨_, read_bytes ⟨a0, hn, by omega⟩ a6, ?_⟩
  rintro _ rfl
  refine DK.fin ?_
  rw [if_neg (by simp [M]), if_pos ⟨a0, hn, by omega⟩]
  exact ⟨rfl, a1⟩
 ·have a1 : DRep D d _ := ⟨a9, V, Z, .inr ⟨a3, a7, r, b0, b1, rfl⟩⟩
  have O := key _ a1 (List.map (·.1) [hdr 82 D V Z d.vis.length d.on d.cut (.slice (SO a3) d.pend.length a7), (V, .cells ⟨bytesL d.dur⟩ 5), (Z, .cells ⟨bytesL d.vis⟩ 5), (a3, .cells ⟨pendCells d.pend ++ r⟩ 111)]) W
  refine ReadR_vc D _ _ V _ Z _ _ a3 _ a7 _ off n hm ?_
  rintro _ rfl
  refine ⟨fun h => absurd h (by omega), fun _ => ⟨fun M => ⟨fun a0 => ⟨fun hn => ?_, fun hn => O.1 M (by omega)⟩, fun a0 => O.1 M (by omega)⟩, fun M => O.2 M⟩⟩
  rintro _ rfl
  refine ⟨fun a4 => ?_, fun a4 => O.1 M (by omega)⟩
  rintro _ rfl
  rw [wi64 (by omega)]
  refine ⟨fun a2 => O.1 M (by omega), fun a2 => ?_⟩
  rw [wi64 (by omega)]
  refine ⟨by omega, ?_⟩
  intro o a6
  refine ⟨_, read_bytes ⟨a0, hn, by omega⟩ a6, ?_⟩
  rintro _ rfl
  refine DK.fin ?_
  rw [if_neg (by simp [M]), if_pos ⟨a0, hn, by omega⟩]
  exact ⟨rfl, a1⟩
theorem sync_dur {d : DS} (M : DOk d) : over (bytesL d.dur) 0 (((bytesL d.vis).drop 0).take (min d.vis.length d.vis.length)) = bytesL d.vis := by
 rw [Nat.min_self, List.drop_zero, List.take_of_length_le (by rw [bytesL_length]; exact Nat.le_refl _), bytesL_ovr, ovr_all M.len]
theorem forget_len {l : List (Nat × BA)} {r : List Value} {M : Nat} (h : (pendCells l ++ r).length = M * 2) :
  (pendCells [] ++ over (pendCells l ++ r) 0 (noughtL #[.int .i64 (0 : Int), .string (⟨#[]⟩)] l.length)).length = M * 2 := by
 have e : pendCells [] = [] := rfl
 have hn : (noughtL #[.int .i64 (0 : Int), .string (⟨#[]⟩)] l.length).length = l.length * 2 := noughtL_len _ _
 have hp := pendCells_len l
 rw [List.length_append] at h
 rw [e, List.nil_append, over_length (by rw [hn, List.length_append]; omega), List.length_append, h]
theorem Sync_e {D : Nat} {d : DS} {F : SHeap} (h : DRep D d F) : EffC TP 68 ⟨[DP D]⟩ F (DRes D (.int .i64 d.sync.1) d.sync.2) := by
 have Z := DOk.sync h.1
 unfold DS.sync at Z ⊢
 have a9 := h.1.pos
 have a2 : (((bytesL d.vis).drop 0).take (min d.vis.length d.vis.length)).length = min d.vis.length d.vis.length := by
  rw [List.length_take, List.drop_zero, bytesL_length]; omega
 have a6 : ∀ u ∈ (((bytesL d.vis).drop 0).take (min d.vis.length d.vis.length)), u.oneCell' = true := fun u a8 => bytesL_one _ u (List.mem_of_mem_drop (List.mem_of_mem_take a8))
 have a5 : 0 + (((bytesL d.vis).drop 0).take (min d.vis.length d.vis.length)).length ≤ (bytesL d.dur).length := by rw [a2, bytesL_length, h.1.len]; omega
 obtain ⟨a0, O, V, ⟨hp, rfl⟩ | ⟨a1, a3, r, a7, a4, rfl⟩⟩ := h <;> intro W hm
 ·refine SyncN_vc D _ _ O _ V _ _ hm ?_
  rintro _ rfl
  refine ⟨fun h => absurd h (by omega), fun _ => ⟨fun M => ⟨a2, a6, a5, ?_⟩, fun M => ?_⟩⟩
  ·rw [if_neg (by simp [M])] at Z ⊢
   rw [sync_dur a0]
   exact DK.fin ⟨rfl, Z, O, V, .inl ⟨rfl, rfl⟩⟩
  ·rw [if_pos M]; exact DK.fin ⟨rfl, a0, O, V, .inl ⟨hp, rfl⟩⟩
 ·refine SyncR_vc D _ _ O _ V _ _ a1 _ a3 _ hm ?_
  rintro _ rfl
  refine ⟨fun h => absurd h (by omega), fun _ => ⟨fun M => ⟨a2, a6, a5, by rw [List.length_append, pendCells_len]; omega, by omega, ?_⟩, fun M => ?_⟩⟩
  ·rw [if_neg (by simp [M])] at Z ⊢
   rw [sync_dur a0]
   refine DK.fin ⟨rfl, Z, O, V, .inr ⟨a1, a3, _, Nat.zero_le _, ?_, rfl⟩⟩
   exact forget_len a4
  ·rw [if_pos M]; exact DK.fin ⟨rfl, a0, O, V, .inr ⟨a1, a3, r, a7, a4, rfl⟩⟩
theorem write_vis {d : DS} {off : Int} {s : BA} (h : 0 ≤ off ∧ off + s.size ≤ d.vis.length) {o : Nat} (M : o = (if off.toNat = d.vis.length then 0 else 0 + off.toNat * 1)) :
  o + (d.vis.length - off.toNat) ≤ (bytesL d.vis).length ∧ over (bytesL d.vis) o (bytesL (s.data.toList.take (d.vis.length - off.toNat))) = bytesL (ovr d.vis off.toNat (bts s)) := by
 have Z : (bts s).length = s.size := bts_len s
 have O : s.data.toList.take (d.vis.length - off.toNat) = bts s := List.take_of_length_le (by show (bts s).length ≤ _; omega)
 rw [O, bytesL_length]
 by_cases hc : off.toNat = d.vis.length
 ·rw [if_pos hc] at M
  have V : s.size = 0 := by omega
  have hn : bts s = [] := List.eq_nil_of_length_eq_zero (by omega)
  subst M
  refine ⟨by omega, ?_⟩
  rw [hn, ovr_nil, bytesL_ovr, ovr_nil]
 ·rw [if_neg hc] at M
  rw [show o = off.toNat by omega]
  exact ⟨by omega, bytesL_ovr _ _ _⟩
theorem Write_e {D : Nat} {d : DS} {F : SHeap} (h : DRep D d F) (d3 : d.pend.length < 1000000) {off : Int} {s : BA} :
  EffC TP 22 ⟨[DP D, .int .i64 off, .string s]⟩ F (DRes D (.int .i64 (d.write off s).1) (d.write off s).2) := by
 have M := DOk.write h.1 off s
 unfold DS.write at M ⊢
 have d4 := h.1.pos
 have d2 := h.1.le
 have d1 := h.1.cut
 have bad : ∀ L, DRep D d L → ∀ S W, d.on = true → ¬ (0 ≤ off ∧ off + s.size ≤ d.vis.length) → Fin (fun e c8 => ∃ v L', e = .returned v ∧ Mem L' S W c8 ∧ DRes D (.int .i64 (if d.on = false then (231, d) else if 0 ≤ off ∧ off + s.size ≤ d.vis.length then (0, (d.put off.toNat s).spend) else (230, d) : Int × DS).1) (if d.on = false then (231, d) else if 0 ≤ off ∧ off + s.size ≤ d.vis.length then (0, (d.put off.toNat s).spend) else (230, d) : Int × DS).2 v L') L S W (.int .i64 (230 : Int)) := by
  intro L c9 S W O b1
  refine DK.fin ?_
  rw [if_neg (by simp [O]), if_neg b1]; exact ⟨rfl, c9⟩
 obtain ⟨c7, V, Z, ⟨hp, rfl⟩ | ⟨b4, c2, r, c5, c6, rfl⟩⟩ := h <;> intro W hm
 ·have b0 : DRep D d _ := ⟨c7, V, Z, .inl ⟨hp, rfl⟩⟩
  have a7 := bad _ b0 (List.map (·.1) [hdr 82 D V Z d.vis.length d.on d.cut (.slice none 0 0), (V, .cells ⟨bytesL d.dur⟩ 5), (Z, .cells ⟨bytesL d.vis⟩ 5)]) W
  refine WriteN_vc D _ _ V _ Z _ _ off s hm ?_
  rintro _ rfl
  refine ⟨fun h => absurd h (by omega), fun _ => ⟨fun O => ⟨fun a9 => ⟨fun _ => ?_, fun h => absurd (by omega) h⟩, fun a9 => a7 O (by omega)⟩, fun O => ?_⟩⟩
  ·rintro _ rfl
   refine ⟨fun b9 => ?_, fun b9 => a7 O (by omega)⟩
   rintro _ rfl
   rw [wi64 (by omega)]
   refine ⟨fun b1 => a7 O (by omega), fun b1 => ?_⟩
   have b3 : 0 ≤ off ∧ off + s.size ≤ d.vis.length := by omega
   have b5 : (if d.on = false then (231, d) else if 0 ≤ off ∧ off + s.size ≤ d.vis.length then (0, (d.put off.toNat s).spend) else (230, d) : Int × DS) = (0, (d.put off.toNat s).spend) := by
    rw [if_neg (by simp [O]), if_pos b3]
   rw [b5] at M ⊢
   intro B a1 cap a8 a3 a0
   refine ⟨by omega, ?_⟩
   intro o b7
   obtain ⟨c3, c4⟩ := write_vis b3 b7
   rw [c4]
   refine ⟨c3, ?_⟩
   have a6 : (ovr d.vis off.toNat (bts s)).length = d.vis.length := ovr_len (by rw [bts_len]; omega)
   have b8 : ((off.toNat : Nat) : Int) = off := Int.toNat_of_nonneg a9
   have a4 : pendCells (d.pend ++ [(off.toNat, s)]) = [.int .i64 off, .string s] := by rw [hp]; simp [pendCells, b8]
   have a5 : (d.pend ++ [(off.toNat, s)]).length = 1 := by rw [hp]; rfl
   unfold DS.spend DS.put at M ⊢
   simp only at M ⊢
   refine ⟨fun b6 => ?_, fun b6 => ⟨fun a2 => ?_, fun a2 => ?_⟩⟩
   ·rw [if_pos (by omega)] at M ⊢
    refine DK.fin' [0, 1, 2, 4] rfl ⟨rfl, M, V, Z, .inr ⟨a1, cap, a8, ?_, ?_, ?_⟩⟩ <;> simp only [a4, a5, a6]
    ·exact a3
    ·exact a0
    ·rfl
   ·rw [wi64 (by omega)] at a2
    rw [if_neg (by omega), if_pos (by omega)] at M ⊢
    refine DK.fin' [0, 1, 2, 4] rfl ⟨rfl, M, V, Z, .inr ⟨a1, cap, a8, ?_, ?_, ?_⟩⟩ <;> simp only [a4, a5, a6]
    ·exact a3
    ·exact a0
    ·rfl
   ·rw [wi64 (by omega)] at a2
    rw [wi64 (by omega)]
    rw [if_neg (by omega), if_neg (by omega)] at M ⊢
    refine DK.fin' [0, 1, 2, 4] rfl ⟨rfl, M, V, Z, .inr ⟨a1, cap, a8, ?_, ?_, ?_⟩⟩ <;> simp only [a4, a5, a6]
    ·exact a3
    ·exact a0
    ·rw [show ((d.cut : Int) - 1) = ((d.cut - 1 : Nat) : Int) by omega]; rfl
  ·refine DK.fin ?_
   rw [if_pos O]; exact ⟨rfl, b0⟩
 ·have b0 : DRep D d _ := ⟨c7, V, Z, .inr ⟨b4, c2, r, c5, c6, rfl⟩⟩
  have a7 := bad _ b0 (List.map (·.1) [hdr 82 D V Z d.vis.length d.on d.cut (.slice (SO b4) d.pend.length c2), (V, .cells ⟨bytesL d.dur⟩ 5), (Z, .cells ⟨bytesL d.vis⟩ 5), (b4, .cells ⟨pendCells d.pend ++ r⟩ 111)]) W
  refine WriteR_vc D _ _ V _ Z _ _ b4 _ c2 _ off s hm ?_
  rintro _ rfl
  refine ⟨fun h => absurd h (by omega), fun _ => ⟨fun O => ⟨fun a9 => ⟨fun _ => ?_, fun h => absurd (by omega) h⟩, fun a9 => a7 O (by omega)⟩, fun O => ?_⟩⟩
  ·rintro _ rfl
   refine ⟨fun b9 => ?_, fun b9 => a7 O (by omega)⟩
   rintro _ rfl
   rw [wi64 (by omega)]
   refine ⟨fun b1 => a7 O (by omega), fun b1 => ?_⟩
   have b3 : 0 ≤ off ∧ off + s.size ≤ d.vis.length := by omega
   have b5 : (if d.on = false then (231, d) else if 0 ≤ off ∧ off + s.size ≤ d.vis.length then (0, (d.put off.toNat s).spend) else (230, d) : Int × DS) = (0, (d.put off.toNat s).spend) := by
    rw [if_neg (by simp [O]), if_pos b3]
   rw [b5] at M ⊢
   intro B
   refine ⟨⟨c5, c6⟩, ⟨by omega, by omega⟩, ?_⟩
   intro a1 cap a8 a3 a0
   refine ⟨by omega, ?_⟩
   intro o b7
   obtain ⟨c3, c4⟩ := write_vis b3 b7
   rw [c4]
   refine ⟨c3, ?_⟩
   have a6 : (ovr d.vis off.toNat (bts s)).length = d.vis.length := ovr_len (by rw [bts_len]; omega)
   have b8 : ((off.toNat : Nat) : Int) = off := Int.toNat_of_nonneg a9
   have d0 : (pendCells d.pend ++ r).take (d.pend.length * 2) = pendCells d.pend := List.take_left' (pendCells_len _)
   rw [d0] at a0 ⊢
   have a4 : pendCells (d.pend ++ [(off.toNat, s)]) = pendCells d.pend ++ [.int .i64 off, .string s] := by rw [pendCells_append]; simp [pendCells, b8]
   have a5 : (d.pend ++ [(off.toNat, s)]).length = d.pend.length + 1 := by simp
   unfold DS.spend DS.put at M ⊢
   simp only at M ⊢
   refine ⟨fun b6 => ?_, fun b6 => ⟨fun a2 => ?_, fun a2 => ?_⟩⟩
   ·rw [if_pos (by omega)] at M ⊢
    refine DK.fin' [0, 1, 2, 4] rfl ⟨rfl, M, V, Z, .inr ⟨a1, cap, a8, ?_, ?_, ?_⟩⟩ <;> simp only [a4, a5, a6]
    ·exact a3
    ·exact a0
    ·rfl
   ·rw [wi64 (by omega)] at a2
    rw [if_neg (by omega), if_pos (by omega)] at M ⊢
    refine DK.fin' [0, 1, 2, 4] rfl ⟨rfl, M, V, Z, .inr ⟨a1, cap, a8, ?_, ?_, ?_⟩⟩ <;> simp only [a4, a5, a6]
    ·exact a3
    ·exact a0
    ·rfl
   ·rw [wi64 (by omega)] at a2
    rw [wi64 (by omega)]
    rw [if_neg (by omega), if_neg (by omega)] at M ⊢
    refine DK.fin' [0, 1, 2, 4] rfl ⟨rfl, M, V, Z, .inr ⟨a1, cap, a8, ?_, ?_, ?_⟩⟩ <;> simp only [a4, a5, a6]
    ·exact a3
    ·exact a0
    ·rw [show ((d.cut : Int) - 1) = ((d.cut - 1 : Nat) : Int) by omega]; rfl
  ·refine DK.fin ?_
   rw [if_pos O]; exact ⟨rfl, b0⟩
abbrev yD2aa (d : BA) (e : Bool) (x2 x3 : Int) (x4 x5 n o : List Value) (p c f g a h i b j k l m : Nat) : SHeap := [(p, .cells #[.bool e, IV x2, .slice (SO c) f g, .slice (SO a) h i, .slice (SO b) j k] 82), (c, .cells ⟨x4⟩ 5), (a, .cells ⟨x5⟩ 5), (b, .cells ⟨n⟩ 111), (l, .cells ⟨o⟩ 4), (m, .cells #[IV x3, .string d] 111)]
def CrashN_c0 (a b c d : Nat) (w : Int) (o n : Nat) (g : Int) (s : OA) (q p : Nat) (t u : Int) (h : Bool) (i : Int) (k j m l : Nat) (cs e f : List Value) (S : List Nat) (w0 : World) (R : Ending → World → Prop) : Prop :=
 AtE TP 34 103 (KC Tryz.f34 500) [(0, PP a), (2, IV w), (7, .slice (SO d) o n), (8, IV g), (22, .slice s q p), (23, IV t), (24, IV u)] [(a, .cells #[.bool h, IV i, .slice (SO b) k j, .slice (SO c) m l, .slice none 0 0] 82), (b, .cells ⟨cs⟩ 5), (c, .cells ⟨e⟩ 5), (d, .cells ⟨f⟩ 4)] S w0 (nrm R)
def CrashN_c1 (a b c d : Nat) (t : Int) (p o : Nat) (h q s : Int) (i : Bool) (j : Int) (l k n m : Nat) (e f g : List Value) (S : List Nat) (w0 : World) (R : Ending → World → Prop) : Prop :=
 AtE TP 34 103 (KC Tryz.f34 1012) [(0, PP a), (2, IV t), (7, .slice (SO d) p o), (8, IV h), (46, .slice none 0 0), (47, IV q), (48, IV s)] [(a, .cells #[.bool i, IV j, .slice (SO b) l k, .slice (SO c) n m, .slice none 0 0] 82), (b, .cells ⟨e⟩ 5), (c, .cells ⟨f⟩ 5), (d, .cells ⟨g⟩ 4)] S w0 (nrm R)
theorem CrashN_c0_vc (k l m g : Nat) (D : Int) (h p : Nat) (n : Int) (M : OA) (q A : Nat) (C d : Int) (t : Bool) (u : Int) (x w z y : Nat) (cs s j : List Value)
 (H :
 Br (d < C)
 (∃ e f : Nat, M = some ⟨e, f, none⟩ ∧
 (0 ≤ d ∧ d < q) ∧
 ∃ (F : List Value) (a : Int), e ∉ S ∧ blkW w0 e = some F ∧ F[(f + (Int.toNat d))]? = some (IV a) ∧
 Br ((0 : Int) ≤ a)
 (Br (a < (h : Int))
 ((0 ≤ a ∧ a < h) ∧
 ((Int.toNat a) < (j).length) ∧
 ∀ G : Int, G = (if a > n then a else n) →
 CrashN_c0 k l m g D h p G (some ⟨e, f, none⟩) q A C (IntKind.i64.wrap (d + (1 : Int))) t u x w z y cs s ((j).set (Int.toNat a) (.bool true)) S w0 R)
 (CrashN_c0 k l m g D h p n (some ⟨e, f, none⟩) q A C (IntKind.i64.wrap (d + (1 : Int))) t u x w z y cs s j S w0 R))
 (CrashN_c0 k l m g D h p n (some ⟨e, f, none⟩) q A C (IntKind.i64.wrap (d + (1 : Int))) t u x w z y cs s j S w0 R))
 (CrashN_c1 k l m g D h p n (0 : Int) (0 : Int) t u x w z y cs s j S w0 R)) :
 CrashN_c0 k l m g D h p n M q A C d t u x w z y cs s j S w0 R:= by
 unfold CrashN_c0
 refine .ru 5 (.sP 25 H ?_ ?_) <;> clear H <;> intro H
 ·refine .ru 6 ?_
  obtain ⟨e, f, rfl, H⟩ := H
  refine .indexAddrL (E := 3) (b := e) (o := f) (len := q) (cap := A) (sz := 1) (o' := (f + (Int.toNat d))) (kd := .i64) (i := d) (by kernel_rfl) H.1 (by omega) ?_
  replace H := H.2
  obtain ⟨F, a, N, O, Q, H⟩ := H
  refine .loadW (b := e) (off := (f + (Int.toNat d))) (T := 3) (v := IV a) (by kernel_rfl) N O (valAt_one Q (by kernel_rfl)) (.ru 7 (.sP 30 H ?_ ?_)) <;> clear H <;> intro H
  ·refine .ru 6 (.sP 35 H ?_ ?_) <;> clear H <;> intro H
   ·refine .ru 5 (.indexAddrL (E := 4) (b := g) (o := 0) (len := h) (cap := p) (sz := 1) (o' := (Int.toNat a)) (kd := .i64) (i := a) (by kernel_rfl) H.1 (by omega) ?_)
    replace H := H.2
    refine .nm (KR Tryz.f34 128204 [3]) [(0, PP k), (2, IV D), (7, .slice (SO g) h p), (8, IV n), (10, IV a), (22, .slice (some ⟨e, f, none⟩) q A), (23, IV C), (24, IV d), (38, .pointer (some ⟨g, (Int.toNat a), none⟩))] [(k, .cells #[.bool t, IV u, .slice (SO l) x w, .slice (SO m) z y, .slice none 0 0] 82), (l, .cells ⟨cs⟩ 5), (m, .cells ⟨s⟩ 5), (g, .cells ⟨j⟩ 4)] (.storeS 3 (off := (Int.toNat a)) (lo := 0) (hi := 0) (T := 4) (v := .bool true) (c := j) (by kernel_rfl) H.1 (.inr (Nat.zero_le _)) ?_)
    replace H := H.2
    refine .ru 6 (.lI 8 H fun G H => (.ru 7 (.ct [0,1,2,3] H)))
   ·refine .ru 8 (.ct [0,1,2,3] H)
  ·refine .ru 14 (.ct [0,1,2,3] H)
 ·refine .ru 8 (.ld 0 4 (.ru 5 (.ct [0,1,2,3] H)))
theorem CrashN_c1_vc (f g h p : Nat) (C : Int) (A z : Nat) (y w x : Int) (s : Bool) (t : Int) (b k d l : Nat) (e i q : List Value)
 (H :
 Br (x < w)
 (False)
 (((((e).drop 0).take (min b d)).length = min b d) ∧ (∀ u ∈ (((e).drop 0).take (min b d)), u.oneCell' = true) ∧ (0 + (((e).drop 0).take (min b d)).length ≤ (i).length) ∧
 Fin R [(f, .cells #[.bool true, IV 0, .slice (SO g) b k, .slice (SO h) d l, .slice none 0 0] 82), (g, .cells ⟨e⟩ 5), (h, .cells ⟨(over (i) 0 (((e).drop 0).take (min b d)))⟩ 5), (p, .cells ⟨q⟩ 4)] S w0 (IV 0))) :
 CrashN_c1 f g h p C A z y w x s t b k d l e i q S w0 R:= by
 unfold CrashN_c1
 refine .ru 5 (.sP 49 H (fun H => ?_) fun H => ?_)
 ·exact H.elim
 ·refine .ru 3 (.nm (KC Tryz.f34 254) [(0, PP f)] [(f, .cells #[.bool s, IV t, .slice (SO g) b k, .slice (SO h) d l, .slice none 0 0] 82), (g, .cells ⟨e⟩ 5), (h, .cells ⟨i⟩ 5), (p, .cells ⟨q⟩ 4)] (.dr 8 (.pu (.pu (.pu (.ld 0 3 (.pu (.pu (.pu (.ld 0 2 (.dn (.copyO 2 (T := 47) (E := 5) (o := 0) (dl := d) (dc := l) (n := b) (m := k) (a := ⟨g, 0, none⟩) (c := i) (((e).drop 0).take (min b d)) (by kernel_rfl) (Src.own (j := 1) (o := 0) (n := (min b d)) (c := e) (by kernel_rfl)) H.1 H.2.1 H.2.2.1 ?_))))))))))))
  replace H := H.2.2.2
  refine .ru 4 (.nm (KR Tryz.f34 510 [1]) [(0, PP f), (97, PP f)] [(f, .cells #[.bool s, IV t, .slice (SO g) b k, .slice (SO h) d l, .slice none 0 0] 82), (g, .cells ⟨e⟩ 5), (h, .cells ⟨(over (i) 0 (((e).drop 0).take (min b d)))⟩ 5), (p, .cells ⟨q⟩ 4)] (.il 77 [PP f] 14 Tryz.func77 (.ru 5 (.ld 0 4 (.ru 7 (.ld 0 4 (.ru 3 (.st 0 4 (.ru 1 (.rk Tryz.func77 (.ru 6 (.nm (KR Tryz.f34 1022 [3]) [(101, PP f)] [(f, .cells #[.bool s, IV t, .slice (SO g) b k, .slice (SO h) d l, .slice none 0 0] 82), (g, .cells ⟨e⟩ 5), (h, .cells ⟨(over (i) 0 (((e).drop 0).take (min b d)))⟩ 5), (p, .cells ⟨q⟩ 4)] (.il 41 [PP f] 8 Tryz.func41 (.ru 5 (.st 0 0 (.ru 2 (.st 0 1 (.ru 1 (.rk Tryz.func41 (.ru 5 (.rt Tryz.func34 H)))))))))))))))))))))
theorem CrashN_vc (b : Nat) (g : Bool) (cut : Int) (c a d : Nat) (e h : List Value) (j : OA) (f i : Nat) (l : Int) (hm : Mem [(b, .cells #[.bool g, IV cut, .slice (SO c) a a, .slice (SO d) a a, .slice none 0 0] 82), (c, .cells ⟨e⟩ 5), (d, .cells ⟨h⟩ 5)] S w0 W)
 (H :
 ∀ k : Int, k = (a : Int) →
 Br (k = 0)
 (Fin R [(b, .cells #[.bool g, IV cut, .slice (SO c) a a, .slice (SO d) a a, .slice none 0 0] 82), (c, .cells ⟨e⟩ 5), (d, .cells ⟨h⟩ 5)] S w0 (IV 1))
 ((0 ≤ (0 : Int) ∧ (0 : Int) ≤ (0 : Int) ∧ 1 * (0 : Int) ≤ 281474976710656 ∧ (0 : Int) ≤ 9223372036854775807) ∧
 ∀ B : Nat,
 CrashN_c0 b c d B l (Int.toNat (0 : Int)) (Int.toNat (0 : Int)) (-1 : Int) j f i (f : Int) (0 : Int) g cut a a a a e h (List.replicate (Int.toNat (0 : Int)) (.bool false)) S w0 R)) :
 Calls TP 34 ⟨[PP b, .slice j f i, IV l]⟩ W R:= by
 refine AtE.cs 103 Tryz.func34 hm (.ru 8 (.il 42 [PP b] 10 Tryz.func42 (.ru 17 (.ld 0 2 (.ru 2 (.lI 2 H fun k H => (.ru 1 (.rk Tryz.func42 (.ru 2 (.sP 15 H (fun H => ?_) fun H => ?_))))))))))
 ·refine .ru 5 (.rt Tryz.func34 H)
 ·refine .ru 7 (.ld 0 4 (.ru 1 (.make (E := 4) (kl := .i64) (kc := .i64) (n := (0 : Int)) (m := (0 : Int)) (z := .bool false) (bytes := 1) (by kernel_rfl) H.1 (fun B => ?_))))
  replace H := H.2 B
  refine .nm (KR Tryz.f34 14 [6]) [(0, PP b), (1, .slice j f i), (2, IV l), (21, .slice (SO B) (Int.toNat (0 : Int)) (Int.toNat (0 : Int)))] [(b, .cells #[.bool g, IV cut, .slice (SO c) a a, .slice (SO d) a a, .slice none 0 0] 82), (c, .cells ⟨e⟩ 5), (d, .cells ⟨h⟩ 5), (B, .cells ⟨(List.replicate (Int.toNat (0 : Int)) (.bool false))⟩ 4)] (.ru 15 (.ct [0,1,2,3] H))
def CrashR_c0 (a b c d e : Nat) (A : Int) (t s : Nat) (i : Int) (x : OA) (w u : Nat) (y z : Int) (j : Bool) (k : Int) (m l o n q p : Nat) (cs f g h : List Value) (S : List Nat) (w0 : World) (R : Ending → World → Prop) : Prop :=
 AtE TP 34 103 (KC Tryz.f34 500) [(0, PP a), (2, IV A), (7, .slice (SO e) t s), (8, IV i), (22, .slice x w u), (23, IV y), (24, IV z)] [(a, .cells #[.bool j, IV k, .slice (SO b) m l, .slice (SO c) o n, .slice (SO d) q p] 82), (b, .cells ⟨cs⟩ 5), (c, .cells ⟨f⟩ 5), (d, .cells ⟨g⟩ 111), (e, .cells ⟨h⟩ 4)] S w0 (nrm R)
def CrashR_c1 (c d e a b : Nat) (A : Int) (u t : Nat) (j : Int) (x w : Nat) (y z : Int) (k : Bool) (l : Int) (n m p o s q : Nat) (f g h i : List Value) (S : List Nat) (w0 : World) (R : Ending → World → Prop) : Prop :=
 AtE TP 34 103 (KC Tryz.f34 1012) [(0, PP c), (2, IV A), (7, .slice (SO b) u t), (8, IV j), (46, .slice (SO a) x w), (47, IV y), (48, IV z)] [(c, .cells #[.bool k, IV l, .slice (SO d) n m, .slice (SO e) p o, .slice (SO a) s q] 82), (d, .cells ⟨f⟩ 5), (e, .cells ⟨g⟩ 5), (a, .cells ⟨h⟩ 111), (b, .cells ⟨i⟩ 4)] S w0 (nrm R)
theorem CrashR_c0_vc (l m n p g : Nat) (N : Int) (h t : Nat) (q : Int) (U : OA) (u G : Nat) (M d : Int) (y : Bool) (z : Int) (C A F D k s : Nat) (cs w x j : List Value)
 (H :
 Br (d < M)
 (∃ e f : Nat, U = some ⟨e, f, none⟩ ∧
 (0 ≤ d ∧ d < u) ∧
 ∃ (O : List Value) (a : Int), e ∉ S ∧ blkW w0 e = some O ∧ O[(f + (Int.toNat d))]? = some (IV a) ∧
 Br ((0 : Int) ≤ a)
 (Br (a < (h : Int))
 ((0 ≤ a ∧ a < h) ∧
 ((Int.toNat a) < (j).length) ∧
 ∀ Q : Int, Q = (if a > q then a else q) →
 CrashR_c0 l m n p g N h t Q (some ⟨e, f, none⟩) u G M (IntKind.i64.wrap (d + (1 : Int))) y z C A F D k s cs w x ((j).set (Int.toNat a) (.bool true)) S w0 R)
 (CrashR_c0 l m n p g N h t q (some ⟨e, f, none⟩) u G M (IntKind.i64.wrap (d + (1 : Int))) y z C A F D k s cs w x j S w0 R))
 (CrashR_c0 l m n p g N h t q (some ⟨e, f, none⟩) u G M (IntKind.i64.wrap (d + (1 : Int))) y z C A F D k s cs w x j S w0 R))
 (CrashR_c1 l m n p g N h t q k s (k : Int) (0 : Int) y z C A F D k s cs w x j S w0 R)) :
 CrashR_c0 l m n p g N h t q U u G M d y z C A F D k s cs w x j S w0 R:= by
 unfold CrashR_c0
 refine .ru 5 (.sP 25 H ?_ ?_) <;> clear H <;> intro H
 ·refine .ru 6 ?_
  obtain ⟨e, f, rfl, H⟩ := H
  refine .indexAddrL (E := 3) (b := e) (o := f) (len := u) (cap := G) (sz := 1) (o' := (f + (Int.toNat d))) (kd := .i64) (i := d) (by kernel_rfl) H.1 (by omega) ?_
  replace H := H.2
  obtain ⟨O, a, V, X, Y, H⟩ := H
  refine .loadW (b := e) (off := (f + (Int.toNat d))) (T := 3) (v := IV a) (by kernel_rfl) V X (valAt_one Y (by kernel_rfl)) (.ru 7 (.sP 30 H ?_ ?_)) <;> clear H <;> intro H
  ·refine .ru 6 (.sP 35 H ?_ ?_) <;> clear H <;> intro H
   ·refine .ru 5 (.indexAddrL (E := 4) (b := g) (o := 0) (len := h) (cap := t) (sz := 1) (o' := (Int.toNat a)) (kd := .i64) (i := a) (by kernel_rfl) H.1 (by omega) ?_)
    replace H := H.2
    refine .nm (KR Tryz.f34 128204 [3]) [(0, PP l), (2, IV N), (7, .slice (SO g) h t), (8, IV q), (10, IV a), (22, .slice (some ⟨e, f, none⟩) u G), (23, IV M), (24, IV d), (38, .pointer (some ⟨g, (Int.toNat a), none⟩))] [(l, .cells #[.bool y, IV z, .slice (SO m) C A, .slice (SO n) F D, .slice (SO p) k s] 82), (m, .cells ⟨cs⟩ 5), (n, .cells ⟨w⟩ 5), (p, .cells ⟨x⟩ 111), (g, .cells ⟨j⟩ 4)] (.storeS 4 (off := (Int.toNat a)) (lo := 0) (hi := 0) (T := 4) (v := .bool true) (c := j) (by kernel_rfl) H.1 (.inr (Nat.zero_le _)) ?_)
    replace H := H.2
    refine .ru 6 (.lI 8 H fun Q H => (.ru 7 (.ct [0,1,2,3,4] H)))
   ·refine .ru 8 (.ct [0,1,2,3,4] H)
  ·refine .ru 14 (.ct [0,1,2,3,4] H)
 ·refine .ru 8 (.ld 0 4 (.ru 5 (.ct [0,1,2,3,4] H)))
theorem CrashR_c1_vc (k o w h q : Nat) (t : Int) (Q Z : Nat) (Y : Int) (V a0 : Nat) (a1 l : Int) (N : Bool) (O : Int) (e f p M D C : Nat) (g F A G : List Value)
 (H :
 Br (l < a1)
 ((0 ≤ l ∧ l < V) ∧
 ∃ (d : Int) (x : BA), (((A).drop ((Int.toNat l) * 2)).take 2 = [IV d, .string x] ∧ ((Int.toNat l) * 2) + 2 ≤ (A).length) ∧
 ∀ X : Nat,
 (0 ≤ l ∧ l < Q) ∧
 ∃ (a6 : Bool), (G)[(Int.toNat l)]? = some (.bool a6) ∧
 Bb (a6)
 (Br (l = Y)
 (Br ((0 : Int) ≤ t)
 (Br (t < (x.size : Int))
 ((0 ≤ (0 : Int) ∧ (0 : Int) ≤ t ∧ t ≤ x.size) ∧
 (0 ≤ d ∧ d ≤ (e : Int) ∧ (e : Int) ≤ (f : Int)) ∧
 ∀ a2 : Nat, a2 = (if (Int.toNat d) = f then 0 else 0 + (Int.toNat d) * 1) →
 (a2 + (e - (Int.toNat d)) ≤ (g).length) ∧
 CrashR_c1 k o w h q t Q Z Y V a0 a1 (IntKind.i64.wrap (l + (1 : Int))) N O e f p M D C (over (g) a2 (bytesL ((x.extract 0 (Int.toNat t)).data.toList.take (e - (Int.toNat d))))) F A G S w0 R)
 ((0 ≤ d ∧ d ≤ (e : Int) ∧ (e : Int) ≤ (f : Int)) ∧
 ∀ o1 : Nat, o1 = (if (Int.toNat d) = f then 0 else 0 + (Int.toNat d) * 1) →
 (o1 + (e - (Int.toNat d)) ≤ (g).length) ∧
 CrashR_c1 k o w h q t Q Z Y V a0 a1 (IntKind.i64.wrap (l + (1 : Int))) N O e f p M D C (over (g) o1 (bytesL (x.data.toList.take (e - (Int.toNat d))))) F A G S w0 R))
 ((0 ≤ d ∧ d ≤ (e : Int) ∧ (e : Int) ≤ (f : Int)) ∧
 ∀ a3 : Nat, a3 = (if (Int.toNat d) = f then 0 else 0 + (Int.toNat d) * 1) →
 (a3 + (e - (Int.toNat d)) ≤ (g).length) ∧
 CrashR_c1 k o w h q t Q Z Y V a0 a1 (IntKind.i64.wrap (l + (1 : Int))) N O e f p M D C (over (g) a3 (bytesL (x.data.toList.take (e - (Int.toNat d))))) F A G S w0 R))
 ((0 ≤ d ∧ d ≤ (e : Int) ∧ (e : Int) ≤ (f : Int)) ∧
 ∀ a4 : Nat, a4 = (if (Int.toNat d) = f then 0 else 0 + (Int.toNat d) * 1) →
 (a4 + (e - (Int.toNat d)) ≤ (g).length) ∧
 CrashR_c1 k o w h q t Q Z Y V a0 a1 (IntKind.i64.wrap (l + (1 : Int))) N O e f p M D C (over (g) a4 (bytesL (x.data.toList.take (e - (Int.toNat d))))) F A G S w0 R))
 (CrashR_c1 k o w h q t Q Z Y V a0 a1 (IntKind.i64.wrap (l + (1 : Int))) N O e f p M D C g F A G S w0 R))
 (((((g).drop 0).take (min e p)).length = min e p) ∧ (∀ u ∈ (((g).drop 0).take (min e p)), u.oneCell' = true) ∧ (0 + (((g).drop 0).take (min e p)).length ≤ (F).length) ∧
 (0 + D * 2 ≤ (A).length) ∧
 (0 ≤ (0 : Int) ∧ (0 : Int) ≤ (0 : Int) ∧ (0 : Int) ≤ (C : Int)) ∧
 Fin R [(k, .cells #[.bool true, IV 0, .slice (SO o) e f, .slice (SO w) p M, .slice (SO h) (Int.toNat (0 : Int)) C] 82), (o, .cells ⟨g⟩ 5), (w, .cells ⟨(over (F) 0 (((g).drop 0).take (min e p)))⟩ 5), (h, .cells ⟨(over (A) 0 (noughtL #[IV 0, sZ] D))⟩ 111), (q, .cells ⟨G⟩ 4)] S w0 (IV 0))) :
 CrashR_c1 k o w h q t Q Z Y V a0 a1 l N O e f p M D C g F A G S w0 R:= by
 unfold CrashR_c1
 refine .ru 5 (.sP 49 H (fun H => ?_) fun H => ?_)
 ·refine .ru 7 (.indexAddrL (E := 111) (b := h) (o := 0) (len := V) (cap := a0) (sz := 2) (o' := ((Int.toNat l) * 2)) (kd := .i64) (i := l) (by kernel_rfl) H.1 (by omega) ?_)
  replace H := H.2
  obtain ⟨d, x, a7, H⟩ := H
  refine .loadS 3 (off := ((Int.toNat l) * 2)) (T := 111) (v := .agg #[IV d, .string x]) (by kernel_rfl) (valAt_agg a7.1 a7.2 (by kernel_rfl) (by kernel_rfl)) (.nH (.cells #[IV 0, sZ] 111) H fun X H => (.ru 1 (.st 5 0 (.ru 6 (.indexAddrL (E := 4) (b := q) (o := 0) (len := Q) (cap := Z) (sz := 1) (o' := (Int.toNat l)) (kd := .i64) (i := l) (by kernel_rfl) H.1 (by omega) ?_)))))
  replace H := H.2
  obtain ⟨a6, a7, H⟩ := H
  refine .loadS 4 (off := (Int.toNat l)) (T := 4) (v := .bool a6) (by kernel_rfl) (valAt_one a7 (by kernel_rfl)) (.nm (KR Tryz.f34 129636 [4]) [(0, PP k), (2, IV t), (7, .slice (SO q) Q Z), (8, IV Y), (11, IV l), (12, PP X), (46, .slice (SO h) V a0), (47, IV a1), (48, IV l), (56, .bool a6)] (yD2aa x N O d g F A G k o e f w p M h D C q X) (.sB 56 H (fun H => ?_) fun H => ?_))
  ·refine .ru 11 (.sP 61 H (fun H => ?_) fun H => ?_)
   ·refine .ru 4 (.sP 65 H (fun H => ?_) fun H => ?_)
    ·refine .ru 2 (.ld 5 1 (.ru 4 (.sP 71 H (fun H => ?_) fun H => ?_)))
     ·refine .ru 3 (.ld 5 1 (.ru 1 (.sliceS (s := x) (lo := none) (hi := some (IV t)) (a := (0 : Int)) (b := t) (by kernel_rfl) (.inr ⟨rfl, rfl⟩) (.inl ⟨.i64, rfl⟩) H.1 ?_)))
      replace H := H.2
      refine .nm (KR Tryz.f34 518554 [4,5]) [(0, PP k), (2, IV t), (7, .slice (SO q) Q Z), (8, IV Y), (12, PP X), (46, .slice (SO h) V a0), (47, IV a1), (48, IV l), (75, .string (x.extract 0 (Int.toNat t)))] (yD2aa x N O d g F A G k o e f w p M h D C q X) (.ru 1 (.st 5 1 (.ru 1 (.nm (KC Tryz.f34 129639) [(0, PP k), (2, IV t), (7, .slice (SO q) Q Z), (8, IV Y), (12, PP X), (46, .slice (SO h) V a0), (47, IV a1), (48, IV l)] [(k, .cells #[.bool N, IV O, .slice (SO o) e f, .slice (SO w) p M, .slice (SO h) D C] 82), (o, .cells ⟨g⟩ 5), (w, .cells ⟨F⟩ 5), (h, .cells ⟨A⟩ 111), (q, .cells ⟨G⟩ 4), (X, .cells #[IV d, .string (x.extract 0 (Int.toNat t))] 111)] (.dr 9 (.pu (.pu (.pu (.ld 0 2 (.pu (.ld 5 0 ?_)))))))))))
      obtain ⟨a2, a8⟩ : ∃ a5 : Nat, a5 = (if (Int.toNat d) = f then 0 else 0 + (Int.toNat d) * 1) := ⟨_, rfl⟩
      refine .sliceL (E := 5) (b := o) (o := 0) (len := e) (cap := f) (sz := 1) (o' := a2) (l' := (e - (Int.toNat d))) (c' := (f - (Int.toNat d))) (lo := some (IV d)) (hi := none) (x := d) (y := (e : Int)) (by kernel_rfl) (.inl ⟨.i64, rfl⟩) (.inr ⟨rfl, rfl, by omega⟩) H.1 a8 (by simp) rfl ?_
      replace H := H.2 a2 a8
      refine .pu (.ld 5 1 (.dn (.copyS 1 (T := 47) (E := 5) (U := 9) (o := a2) (dl := (e - (Int.toNat d))) (dc := (f - (Int.toNat d))) (s := (x.extract 0 (Int.toNat t))) (c := g) (by kernel_rfl) H.1 ?_)))
      replace H := H.2
      refine .ru 7 (.ct [0,1,2,3,4] H)
     ·refine .ru 2 (.nm (KC Tryz.f34 129639) [(0, PP k), (2, IV t), (7, .slice (SO q) Q Z), (8, IV Y), (12, PP X), (46, .slice (SO h) V a0), (47, IV a1), (48, IV l)] (yD2aa x N O d g F A G k o e f w p M h D C q X) (.dr 9 (.pu (.pu (.pu (.ld 0 2 (.pu (.ld 5 0 ?_))))))))
      obtain ⟨o1, a9⟩ : ∃ a5 : Nat, a5 = (if (Int.toNat d) = f then 0 else 0 + (Int.toNat d) * 1) := ⟨_, rfl⟩
      refine .sliceL (E := 5) (b := o) (o := 0) (len := e) (cap := f) (sz := 1) (o' := o1) (l' := (e - (Int.toNat d))) (c' := (f - (Int.toNat d))) (lo := some (IV d)) (hi := none) (x := d) (y := (e : Int)) (by kernel_rfl) (.inl ⟨.i64, rfl⟩) (.inr ⟨rfl, rfl, by omega⟩) H.1 a9 (by simp) rfl ?_
      replace H := H.2 o1 a9
      refine .pu (.ld 5 1 (.dn (.copyS 1 (T := 47) (E := 5) (U := 9) (o := o1) (dl := (e - (Int.toNat d))) (dc := (f - (Int.toNat d))) (s := x) (c := g) (by kernel_rfl) H.1 ?_)))
      replace H := H.2
      refine .ru 7 (.ct [0,1,2,3,4] H)
    ·refine .ru 9 (.nm (KC Tryz.f34 129639) [(0, PP k), (2, IV t), (7, .slice (SO q) Q Z), (8, IV Y), (12, PP X), (46, .slice (SO h) V a0), (47, IV a1), (48, IV l)] (yD2aa x N O d g F A G k o e f w p M h D C q X) (.dr 9 (.pu (.pu (.pu (.ld 0 2 (.pu (.ld 5 0 ?_))))))))
     obtain ⟨a3, b0⟩ : ∃ a5 : Nat, a5 = (if (Int.toNat d) = f then 0 else 0 + (Int.toNat d) * 1) := ⟨_, rfl⟩
     refine .sliceL (E := 5) (b := o) (o := 0) (len := e) (cap := f) (sz := 1) (o' := a3) (l' := (e - (Int.toNat d))) (c' := (f - (Int.toNat d))) (lo := some (IV d)) (hi := none) (x := d) (y := (e : Int)) (by kernel_rfl) (.inl ⟨.i64, rfl⟩) (.inr ⟨rfl, rfl, by omega⟩) H.1 b0 (by simp) rfl ?_
     replace H := H.2 a3 b0
     refine .pu (.ld 5 1 (.dn (.copyS 1 (T := 47) (E := 5) (U := 9) (o := a3) (dl := (e - (Int.toNat d))) (dc := (f - (Int.toNat d))) (s := x) (c := g) (by kernel_rfl) H.1 ?_)))
     replace H := H.2
     refine .ru 7 (.ct [0,1,2,3,4] H)
   ·refine .ru 13 (.nm (KC Tryz.f34 129639) [(0, PP k), (2, IV t), (7, .slice (SO q) Q Z), (8, IV Y), (12, PP X), (46, .slice (SO h) V a0), (47, IV a1), (48, IV l)] (yD2aa x N O d g F A G k o e f w p M h D C q X) (.dr 9 (.pu (.pu (.pu (.ld 0 2 (.pu (.ld 5 0 ?_))))))))
    obtain ⟨a4, b1⟩ : ∃ a5 : Nat, a5 = (if (Int.toNat d) = f then 0 else 0 + (Int.toNat d) * 1) := ⟨_, rfl⟩
    refine .sliceL (E := 5) (b := o) (o := 0) (len := e) (cap := f) (sz := 1) (o' := a4) (l' := (e - (Int.toNat d))) (c' := (f - (Int.toNat d))) (lo := some (IV d)) (hi := none) (x := d) (y := (e : Int)) (by kernel_rfl) (.inl ⟨.i64, rfl⟩) (.inr ⟨rfl, rfl, by omega⟩) H.1 b1 (by simp) rfl ?_
    replace H := H.2 a4 b1
    refine .pu (.ld 5 1 (.dn (.copyS 1 (T := 47) (E := 5) (U := 9) (o := a4) (dl := (e - (Int.toNat d))) (dc := (f - (Int.toNat d))) (s := x) (c := g) (by kernel_rfl) H.1 ?_)))
    replace H := H.2
    refine .ru 7 (.ct [0,1,2,3,4] H)
  ·refine .ru 9 (.ct [0,1,2,3,4] H)
 ·refine .ru 3 (.nm (KC Tryz.f34 254) [(0, PP k)] [(k, .cells #[.bool N, IV O, .slice (SO o) e f, .slice (SO w) p M, .slice (SO h) D C] 82), (o, .cells ⟨g⟩ 5), (w, .cells ⟨F⟩ 5), (h, .cells ⟨A⟩ 111), (q, .cells ⟨G⟩ 4)] (.dr 8 (.pu (.pu (.pu (.ld 0 3 (.pu (.pu (.pu (.ld 0 2 (.dn (.copyO 2 (T := 47) (E := 5) (o := 0) (dl := p) (dc := M) (n := e) (m := f) (a := ⟨o, 0, none⟩) (c := F) (((g).drop 0).take (min e p)) (by kernel_rfl) (Src.own (j := 1) (o := 0) (n := (min e p)) (c := g) (by kernel_rfl)) H.1 H.2.1 H.2.2.1 ?_))))))))))))
  replace H := H.2.2.2
  refine .ru 4 (.nm (KR Tryz.f34 510 [1]) [(0, PP k), (97, PP k)] [(k, .cells #[.bool N, IV O, .slice (SO o) e f, .slice (SO w) p M, .slice (SO h) D C] 82), (o, .cells ⟨g⟩ 5), (w, .cells ⟨(over (F) 0 (((g).drop 0).take (min e p)))⟩ 5), (h, .cells ⟨A⟩ 111), (q, .cells ⟨G⟩ 4)] (.il 77 [PP k] 14 Tryz.func77 (.ru 5 (.ld 0 4 (.clearO 3 (T := 80) (E := 111) (o := 0) (n := D) (cap := C) (z := .agg #[IV 0, sZ]) (sz := 2) (bytes := 24) (c := A) (by kernel_rfl) (by kernel_rfl) H.1 ?_)))))
  replace H := H.2
  refine .ru 6 (.ld 0 4 (.sliceL (E := 111) (b := h) (o := 0) (len := D) (cap := C) (sz := 2) (o' := 0) (l' := (Int.toNat (0 : Int))) (c' := C) (lo := none) (hi := some (IV 0)) (x := (0 : Int)) (y := (0 : Int)) (by kernel_rfl) (.inr ⟨rfl, rfl⟩) (.inl ⟨.i64, rfl⟩) H.1 (by simp) (by simp) (by simp) ?_))
  replace H := H.2
  refine .ru 2 (.st 0 4 (.ru 1 (.rk Tryz.func77 (.ru 6 (.nm (KR Tryz.f34 1022 [3]) [(101, PP k)] [(k, .cells #[.bool N, IV O, .slice (SO o) e f, .slice (SO w) p M, .slice (SO h) (Int.toNat (0 : Int)) C] 82), (o, .cells ⟨g⟩ 5), (w, .cells ⟨(over (F) 0 (((g).drop 0).take (min e p)))⟩ 5), (h, .cells ⟨(over (A) 0 (noughtL #[IV 0, sZ] D))⟩ 111), (q, .cells ⟨G⟩ 4)] (.il 41 [PP k] 8 Tryz.func41 (.ru 5 (.st 0 0 (.ru 2 (.st 0 1 (.ru 1 (.rk Tryz.func41 (.ru 5 (.rt Tryz.func34 H))))))))))))))
theorem CrashR_vc (c : Nat) (i : Bool) (cut : Int) (d a f : Nat) (g l : List Value) (e b j : Nat) (k : List Value) (o : OA) (h n : Nat) (q : Int) (hm : Mem [(c, .cells #[.bool i, IV cut, .slice (SO d) a a, .slice (SO f) a a, .slice (SO e) b j] 82), (d, .cells ⟨g⟩ 5), (f, .cells ⟨l⟩ 5), (e, .cells ⟨k⟩ 111)] S w0 W)
 (H :
 ∀ p : Int, p = (a : Int) →
 Br (p = 0)
 (Fin R [(c, .cells #[.bool i, IV cut, .slice (SO d) a a, .slice (SO f) a a, .slice (SO e) b j] 82), (d, .cells ⟨g⟩ 5), (f, .cells ⟨l⟩ 5), (e, .cells ⟨k⟩ 111)] S w0 (IV 1))
 ((0 ≤ (b : Int) ∧ (b : Int) ≤ (b : Int) ∧ 1 * (b : Int) ≤ 281474976710656 ∧ (b : Int) ≤ 9223372036854775807) ∧
 ∀ B : Nat,
 CrashR_c0 c d f e B q (Int.toNat (b : Int)) (Int.toNat (b : Int)) (-1 : Int) o h n (h : Int) (0 : Int) i cut a a a a b j g l k (List.replicate (Int.toNat (b : Int)) (.bool false)) S w0 R)) :
 Calls TP 34 ⟨[PP c, .slice o h n, IV q]⟩ W R:= by
 refine AtE.cs 103 Tryz.func34 hm (.ru 8 (.il 42 [PP c] 10 Tryz.func42 (.ru 17 (.ld 0 2 (.ru 2 (.lI 2 H fun p H => (.ru 1 (.rk Tryz.func42 (.ru 2 (.sP 15 H (fun H => ?_) fun H => ?_))))))))))
 ·refine .ru 5 (.rt Tryz.func34 H)
 ·refine .ru 7 (.ld 0 4 (.ru 1 (.make (E := 4) (kl := .i64) (kc := .i64) (n := (b : Int)) (m := (b : Int)) (z := .bool false) (bytes := 1) (by kernel_rfl) H.1 (fun B => ?_))))
  replace H := H.2 B
  refine .nm (KR Tryz.f34 14 [6]) [(0, PP c), (1, .slice o h n), (2, IV q), (21, .slice (SO B) (Int.toNat (b : Int)) (Int.toNat (b : Int)))] [(c, .cells #[.bool i, IV cut, .slice (SO d) a a, .slice (SO f) a a, .slice (SO e) b j] 82), (d, .cells ⟨g⟩ 5), (f, .cells ⟨l⟩ 5), (e, .cells ⟨k⟩ 111), (B, .cells ⟨(List.replicate (Int.toNat (b : Int)) (.bool false))⟩ 4)] (.ru 15 (.ct [0,1,2,3,4] H))
def KeepAt (S : List Nat) (W : World) (p : OA) (ks : List Int) : Prop :=
 0 < ks.length → ∃ (b o : Nat) (c : List Value), p = some ⟨b, o, none⟩ ∧ b ∉ S ∧ blkW W b = some c ∧ ∀ i (h : i < ks.length), c[o + i]? = some (.int .i64 ks[i])
theorem crashR0 {D a3 a5 a4 B : Nat} {torn : Int} {p a2 n : Nat} {on : Bool} {cut : Int} {dur vis a7 : List Value} {S : List Nat} {w0 : World} {R : Ending → World → Prop} {M : List Int} (a1 : M.length ≤ 9223372036854775807)
  {a6 : OA} (a0 : KeepAt S w0 a6 M) {kc : Nat} {svF : List Bool} {lastF : Int}
  (H : CrashR_c1 D a3 a5 a4 B torn p p lastF p a2 (p : Int) (0 : Int) on cut n n n n p a2 dur vis a7 (svF.map .bool) S w0 R) :
  ∀ (g i : Nat) (O : List Bool) (last : Int), g + i = M.length → O.length = p → keepGo p (M.drop i) O last = (svF, lastF) →
   CrashR_c0 D a3 a5 a4 B torn p p last a6 M.length kc (M.length : Int) (i : Int) on cut n n n n p a2 dur vis a7 (O.map .bool) S w0 R
 | 0, i, O, last, hg, hs, hf => by
  apply CrashR_c0_vc
  refine ⟨fun h => absurd h (by omega), fun _ => ?_⟩
  rw [List.drop_of_length_le (by omega)] at hf
  simp only [keepGo, Prod.mk.injEq] at hf
  obtain ⟨rfl, rfl⟩ := hf
  exact H
 | g + 1, i, O, last, hg, hs, hf => by
  apply CrashR_c0_vc
  refine ⟨fun _ => ?_, fun h => absurd (by omega) h⟩
  obtain ⟨b, o, c, rfl, a8, b0, a9⟩ := a0 (by omega)
  refine ⟨b, o, rfl, by omega, c, M[i], a8, b0, by rw [Int.toNat_natCast]; exact a9 i (by omega), ?_⟩
  rw [List.drop_eq_getElem_cons (by omega), keepGo] at hf
  rw [wi64 (by omega), show (i : Int) + 1 = ((i + 1 : Nat) : Int) by omega]
  refine ⟨fun V => ⟨fun Z => ?_, fun Z => ?_⟩, fun V => ?_⟩
  ·rw [if_pos ⟨V, Z⟩] at hf
   refine ⟨⟨V, Z⟩, by rw [List.length_map]; omega, ?_⟩
   rintro _ rfl
   have := crashR0 a1 a0 (kc := kc) H g (i + 1) (O.set M[i].toNat true) (if M[i] > last then M[i] else last) (by omega) (by rw [List.length_set, hs]) hf
   rw [List.map_set] at this
   exact this
  ·rw [if_neg (fun h => Z h.2)] at hf
   exact crashR0 a1 a0 H g (i + 1) O last (by omega) hs hf
  ·rw [if_neg (fun h => V h.1)] at hf
   exact crashR0 a1 a0 H g (i + 1) O last (by omega) hs hf
theorem crash_copy {b s : List UInt8} {o n : Nat} (hn : b.length = n) (h : o + s.length ≤ n) {x : Nat} (M : x = (if (o : Int).toNat = n then 0 else 0 + (o : Int).toNat * 1)) :
  x + (n - (o : Int).toNat) ≤ (bytesL b).length ∧ over (bytesL b) x (bytesL (s.take (n - (o : Int).toNat))) = bytesL (ovr b o s) := by
 rw [Int.toNat_natCast] at M ⊢
 rw [List.take_of_length_le (by omega), bytesL_length]
 by_cases hc : o = n
 ·rw [if_pos hc] at M
  have O : s = [] := List.eq_nil_of_length_eq_zero (by omega)
  subst M O
  exact ⟨by omega, by rw [bytesL_ovr, ovr_nil, ovr_nil]⟩
 ·rw [if_neg hc] at M
  rw [show x = o by omega]
  exact ⟨by omega, bytesL_ovr _ _ _⟩
theorem extract_torn {s : BA} {torn : Int} (h : 0 ≤ torn ∧ torn ≤ s.size) : (s.extract 0 torn.toNat).data.toList = (bts s).take torn.toNat := by
 have : (s.extract 0 torn.toNat).data = s.data.extract 0 torn.toNat := by simp
 rw [this]; simp
theorem crashR1 {D V a0 Z B : Nat} {torn last : Int} {O n : Nat} {on : Bool} {cut : Int} {vis r : List Value} {S : List Nat} {w0 : World} {R : Ending → World → Prop} {pend : List (Nat × BA)} (b7 : pend.length < 4611686018427387904)
    (hp : ∀ q ∈ pend, q.1 + q.2.size ≤ n) (c3 : vis.length = n) (b6 : (pendCells pend ++ r).length = O * 2) {M : List Bool} (b9 : M.length = pend.length) {bF : List UInt8}
    (H : Fin R [(D, .cells #[.bool true, .int .i64 (0 : Int), .slice (SO V) n n, .slice (SO a0) n n, .slice (SO Z) 0 O] 82), (V, .cells ⟨bytesL bF⟩ 5), (a0, .cells ⟨bytesL bF⟩ 5),
      (Z, .cells ⟨over (pendCells pend ++ r) 0 (noughtL #[.int .i64 (0 : Int), .string (⟨#[]⟩)] pend.length)⟩ 111), (B, .cells ⟨M.map .bool⟩ 4)] S w0 (.int .i64 (0 : Int))) (b8 : pend.length ≤ O) :
    ∀ (g i : Nat) (b : List UInt8), g + i = pend.length → b.length = n → crashGo last torn M i (pend.drop i) b = bF →
      CrashR_c1 D V a0 Z B torn pend.length pend.length last pend.length O (pend.length : Int) (i : Int) on cut n n n n pend.length O (bytesL b) vis (pendCells pend ++ r) (M.map .bool) S w0 R
  | 0, i, b, hg, hb, hf => by
    apply CrashR_c1_vc
    refine ⟨fun h => absurd h (by omega), fun _ => ?_⟩
    rw [List.drop_of_length_le (by omega), crashGo] at hf
    subst hf
    have c2 : ((bytesL b).drop 0).take (min n n) = bytesL b := by rw [List.drop_zero, Nat.min_self, List.take_of_length_le (by rw [bytesL_length]; omega)]
    rw [c2, over_ovr vis, ovr_all (by rw [bytesL_length]; omega)]
    have := pendCells_len pend
    exact ⟨by rw [bytesL_length]; omega, bytesL_one _, by rw [bytesL_length]; omega, by rw [List.length_append]; omega, by omega, H⟩
  | g + 1, i, b, hg, hb, hf => by
    apply CrashR_c1_vc
    refine ⟨fun _ => ⟨by omega, ?_⟩, fun h => absurd (by omega) h⟩
    have hi : i < pend.length := by omega
    have c5 := pendCells_len pend
    have b0 := pendCells_at pend i hi
    rw [Int.toNat_natCast]
    refine ⟨(pend[i].1 : Int), pend[i].2, ⟨?_, by rw [List.length_append]; omega⟩, fun c4 => ⟨by omega, M[i], ?_, ?_⟩⟩
    · rw [List.drop_append_of_le_length (by omega), List.take_append_of_le_length (by rw [List.length_drop]; omega)]
      exact b0
    · rw [List.getElem?_map, List.getElem?_eq_getElem (by omega), Option.map_some]
    have a9 := hp pend[i] (List.getElem_mem hi)
    rw [List.drop_eq_getElem_cons hi] at hf
    rcases hqe : pend[i] with ⟨o, s⟩
    rw [hqe] at hf a9
    simp only at hf a9 ⊢
    rw [crashGo] at hf
    have c6 := bts_len s
    have b5 : M.getD i false = M[i] := by rw [List.getD_eq_getElem?_getD, List.getElem?_eq_getElem (by omega), Option.getD_some]
    rw [b5] at hf
    rw [wi64 (by omega), show (i : Int) + 1 = ((i + 1 : Nat) : Int) by omega]
    have go := fun (a2 : List UInt8) (b1 : a2.length = n) (b4 : crashGo last torn M (i + 1) (pend.drop (i + 1)) a2 = bF) => crashR1 (on := on) (cut := cut) (torn := torn) (last := last) b7 hp c3 b6 b9 H b8 g (i + 1) a2 (by omega) b1 b4
    refine ⟨fun a4 => ?_, fun a4 => ?_⟩
    · rw [if_pos a4] at hf
      have a7 : ¬ ((i : Int) = last ∧ 0 ≤ torn ∧ torn < s.size) → (0 ≤ (o : Int) ∧ (o : Int) ≤ (n : Int) ∧ (n : Int) ≤ (n : Int)) ∧
            ∀ x : Nat, x = (if (Int.toNat (o : Int)) = n then 0 else 0 + (Int.toNat (o : Int)) * 1) →
            (x + (n - (Int.toNat (o : Int))) ≤ (bytesL b).length) ∧
            CrashR_c1 D V a0 Z B torn pend.length pend.length last pend.length O (pend.length : Int) ((i + 1 : Nat) : Int) on cut n n n n pend.length O (over (bytesL b) x (bytesL (s.data.toList.take (n - (Int.toNat (o : Int)))))) vis (pendCells pend ++ r) (M.map .bool) S w0 R := by
        intro b3
        refine ⟨by omega, fun x a8 => ?_⟩
        obtain ⟨e1, a3⟩ := crash_copy (s := bts s) hb (by omega) a8
        refine ⟨e1, ?_⟩
        rw [a3]
        rw [tornD, if_neg b3] at hf
        exact go _ (by rw [ovr_len (by omega), hb]) hf
      refine ⟨fun a5 => ⟨fun a1 => ⟨fun a6 => ⟨by omega, by omega, fun x a8 => ?_⟩, fun a6 => a7 (fun h => a6 h.2.2)⟩, fun a1 => a7 (fun h => a1 h.2.1)⟩, fun a5 => a7 (fun h => a5 h.1)⟩
      rw [tornD, if_pos ⟨a5, a1, a6⟩] at hf
      rw [extract_torn ⟨a1, by omega⟩]
      have c7 : ((bts s).take torn.toNat).length ≤ s.size := by rw [List.length_take]; omega
      obtain ⟨e1, a3⟩ := crash_copy (s := (bts s).take torn.toNat) hb (by omega) a8
      refine ⟨e1, ?_⟩
      rw [a3]
      exact go _ (by rw [ovr_len (by omega), hb]) hf
    · rw [if_neg (by simp [a4])] at hf
      exact go _ hb hf
theorem crashN1 {D M O B : Nat} {torn last : Int} {n : Nat} {on : Bool} {cut : Int} {vis : List Value} {sl sc : Nat} {S : List Nat} {w0 : World} {R : Ending → World → Prop} (a1 : vis.length = n) {V : List Value} {b : List UInt8} (a0 : b.length = n)
  (H : Fin R [(D, .cells #[.bool true, .int .i64 (0 : Int), .slice (SO M) n n, .slice (SO O) n n, .slice none 0 0] 82), (M, .cells ⟨bytesL b⟩ 5), (O, .cells ⟨bytesL b⟩ 5), (B, .cells ⟨V⟩ 4)] S w0 (.int .i64 (0 : Int))) :
  CrashN_c1 D M O B torn sl sc last (0 : Int) (0 : Int) on cut n n n n (bytesL b) vis V S w0 R := by
 apply CrashN_c1_vc
 refine ⟨fun h => absurd h (by omega), fun _ => ?_⟩
 have Z : ((bytesL b).drop 0).take (min n n) = bytesL b := by rw [List.drop_zero, Nat.min_self, List.take_of_length_le (by rw [bytesL_length]; omega)]
 rw [Z, over_ovr vis, ovr_all (by rw [bytesL_length]; omega)]
 exact ⟨by rw [bytesL_length]; omega, bytesL_one _, by rw [bytesL_length]; omega, H⟩
theorem crashN0 {D O V B : Nat} {torn : Int} {n : Nat} {on : Bool} {cut : Int} {vis : List Value} {S : List Nat} {w0 : World} {R : Ending → World → Prop} (a1 : vis.length = n) {a4 : List Value} {b : List UInt8} (Z : b.length = n)
  {M : List Int} (a2 : M.length ≤ 9223372036854775807) {a3 : OA} (a0 : KeepAt S w0 a3 M) {kc : Nat}
  (H : Fin R [(D, .cells #[.bool true, .int .i64 (0 : Int), .slice (SO O) n n, .slice (SO V) n n, .slice none 0 0] 82), (O, .cells ⟨bytesL b⟩ 5), (V, .cells ⟨bytesL b⟩ 5), (B, .cells ⟨a4⟩ 4)] S w0 (.int .i64 (0 : Int))) :
  ∀ (g i : Nat) (last : Int), g + i = M.length → CrashN_c0 D O V B torn 0 0 last a3 M.length kc (M.length : Int) (i : Int) on cut n n n n (bytesL b) vis a4 S w0 R
 | 0, i, last, hg => by
  apply CrashN_c0_vc
  exact ⟨fun h => absurd h (by omega), fun _ => crashN1 a1 Z H⟩
 | g + 1, i, last, hg => by
  apply CrashN_c0_vc
  refine ⟨fun _ => ?_, fun h => absurd (by omega) h⟩
  obtain ⟨a5, o, c, rfl, a7, a9, a8⟩ := a0 (by omega)
  refine ⟨a5, o, rfl, by omega, c, M[i], a7, a9, by rw [Int.toNat_natCast]; exact a8 i (by omega), ?_⟩
  rw [wi64 (by omega), show (i : Int) + 1 = ((i + 1 : Nat) : Int) by omega]
  exact ⟨fun b0 => ⟨fun a6 => absurd a6 (by omega), fun _ => crashN0 a1 Z a2 a0 H g (i + 1) last (by omega)⟩, fun _ => crashN0 a1 Z a2 a0 H g (i + 1) last (by omega)⟩
theorem Crash_e {D : Nat} {d : DS} {F : SHeap} (h : DRep D d F) (b5 : d.pend.length < 2000000) {a0 : OA} {kc : Nat} {M : List Int} (a5 : M.length ≤ 9223372036854775807) (torn : Int) :
  EffW TP 34 ⟨[DP D, .slice a0 M.length kc, .int .i64 torn]⟩ F (fun W => KeepAt (F.map (·.1)) W a0 M) (DRes D (.int .i64 0) (d.crash M torn)) := by
 have a4 := DOk.crash h.1 M torn
 have a9 := crashed_len h.1 M torn
 have b6 := h.1.pos
 have b4 := h.1.le
 obtain ⟨Z, O, V, ⟨hp, rfl⟩ | ⟨a2, a7, r, a8, a3, rfl⟩⟩ := h <;> intro W hm a6
 ·refine CrashN_vc D _ _ O _ V _ _ a0 _ kc torn hm ?_
  rintro _ rfl
  refine ⟨fun h => absurd h (by omega), fun _ => ⟨by omega, fun B => ?_⟩⟩
  have a1 : d.crashed M torn = d.dur := by unfold DS.crashed; rw [hp]; rfl
  refine crashN0 (by rw [bytesL_length]) Z.len a5 a6 ?_ M.length 0 (-1) (by omega)
  refine DK.fin' [0, 1, 2] rfl ⟨rfl, a4, O, V, .inl ⟨rfl, ?_⟩⟩
  simp only [DS.crash, a1, Z.len]
  rfl
 ·refine CrashR_vc D _ _ O _ V _ _ a2 _ a7 _ a0 _ kc torn hm ?_
  rintro _ rfl
  refine ⟨fun h => absurd h (by omega), fun _ => ⟨by omega, fun B => ?_⟩⟩
  rcases hkg : keepGo d.pend.length M (List.replicate d.pend.length false) (-1) with ⟨svF, lastF⟩
  have b3 : svF.length = d.pend.length := by
   have := keepGo_len d.pend.length M (List.replicate d.pend.length false) (-1)
   rw [hkg, List.length_replicate] at this
   exact this
  have a1 : d.crashed M torn = crashGo lastF torn svF 0 d.pend d.dur := by unfold DS.crashed; rw [hkg]
  rw [Int.toNat_natCast]
  have b1 : (List.replicate d.pend.length (.bool false) : List Value) = (List.replicate d.pend.length false).map .bool := by rw [List.map_replicate]
  rw [b1]
  refine crashR0 a5 a6 (svF := svF) (lastF := lastF) ?_ M.length 0 _ (-1) (by omega) (by rw [List.length_replicate]) (by rw [List.drop_zero]; exact hkg)
  refine crashR1 (by omega) (fun q b0 => Z.pend q b0) (by rw [bytesL_length]) a3 b3 (bF := d.crashed M torn) ?_ a8 d.pend.length 0 d.dur (by omega) Z.len (by rw [List.drop_zero, a1])
  refine DK.fin' [0, 1, 2, 3] rfl ⟨rfl, a4, O, V, .inr ⟨a2, a7, over (pendCells d.pend ++ r) 0 (noughtL #[.int .i64 (0 : Int), .string (⟨#[]⟩)] d.pend.length), Nat.zero_le _, forget_len a3, ?_⟩⟩
  simp only [DS.crash, a9]
  rfl
end Go.Eng
