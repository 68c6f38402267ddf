/- A part of the proof. -/
import Derived.Test.YtfobdgoklnhebaaGreatDoorChecked
import Derived.Test.YtfobdgoklnhebaaGreatDoorSurF
set_option linter.unusedVariables false
set_option linter.unusedSimpArgs false
set_option maxRecDepth 100000
namespace Go.Eng
open Go Go.RowKit Go.Proofs Wire
variable {P : Program} {R : Ending → World → Prop} {S : List Nat} {w0 W : World} {lk : Lk} {tp bp ap : OA} {tc bc ac : Nat} {K K' : Value → SHeap → Prop} {args : Array Value} {g : FuncId}
theorem crc_okInt (s : List UInt8) : okInt (crc s : Int) := by
 have := crc_lt s
 unfold okInt maxInt; omega
theorem frm_int {g : Int} (h : okInt g) (r : List UInt8) : frmR rdInt (headL g ++ r) = some (g, (headL g).length) := by
 have e : headL g ++ r = 1 :: (Wire.enc g ++ (Wire.enc (crc (Wire.enc g) : Int) ++ r)) := by rw [headL, frm]; simp
 rw [e, frmR, if_pos rfl, rdInt_enc h]
 simp only [List.drop_left, rdInt_enc (crc_okInt _), List.take_left, if_true]
 rw [headL, frm]; simp; omega
theorem frm_str {t : List UInt8} (h : t.length ≤ 65536) (r : List UInt8) : frmR rdStrB (frm (encS t) ++ r) = some (ba t, (frm (encS t)).length) := by
 have e : frm (encS t) ++ r = 1 :: (encS t ++ (Wire.enc (crc (encS t) : Int) ++ r)) := by rw [frm]; simp
 have M : rdStrB (encS t ++ (Wire.enc (crc (encS t) : Int) ++ r)) = some (ba t, (encS t).length) := by rw [rdStrB, rdStr_enc h]; rfl
 rw [e, frmR, if_pos rfl, M]
 simp only [List.drop_left, rdInt_enc (crc_okInt _), List.take_left, if_true]
 rw [frm]; simp; omega
theorem frm_int_inv {l : List UInt8} {g : Int} {k : Nat} (h : frmR rdInt l = some (g, k)) : okInt g ∧ k = (headL g).length ∧ l = headL g ++ l.drop k := by
 obtain ⟨r, rfl⟩ := frmR_one h
 rw [frmR, if_pos rfl] at h
 split at h
 ·cases h
 ·next v k1 hv =>
  split at h
  ·cases h
  ·next c k2 hc =>
   split at h
   ·next hcrc =>
    simp only [Option.some.injEq, Prod.mk.injEq] at h
    obtain ⟨rfl, rfl⟩ := h
    obtain ⟨O, a2, V, a3⟩ := rdInt_inv hv
    have a1 := rdInt_split hv
    have M := rdInt_split hc
    obtain ⟨a4, b2, a5, Z⟩ := rdInt_inv hc
    subst hcrc
    rw [V] at M Z
    have a0 : (headL v).length = 1 + k1 + k2 := by rw [headL, frm]; simp; omega
    refine ⟨O, a0.symm, ?_⟩
    have e : (1 :: r).drop (1 + k1 + k2) = (r.drop k1).drop k2 := by rw [List.drop_drop, show 1 + k1 + k2 = (k1 + k2) + 1 by omega, List.drop_succ_cons]
    rw [e, headL, frm]
    simp only [List.cons_append, List.append_assoc, List.cons.injEq, true_and]
    rw [← M, ← a1]
   ·cases h
theorem frm_str_inv {l : List UInt8} {t : BA} {k : Nat} (h : frmR rdStrB l = some (t, k)) : (bts t).length ≤ 65536 ∧ k = (frm (encS (bts t))).length ∧ l = frm (encS (bts t)) ++ l.drop k := by
 obtain ⟨r, rfl⟩ := frmR_one h
 rw [frmR, if_pos rfl] at h
 split at h
 ·cases h
 ·next v k1 M =>
  split at h
  ·cases h
  ·next c k2 hc =>
   split at h
   ·next hcrc =>
    simp only [Option.some.injEq, Prod.mk.injEq] at h
    obtain ⟨rfl, rfl⟩ := h
    rw [rdStrB, Option.map_eq_some_iff] at M
    obtain ⟨⟨u, k'⟩, M, O⟩ := M
    simp only [Prod.mk.injEq] at O
    obtain ⟨rfl, rfl⟩ := O
    have a2 : bts (⟨u.toArray⟩ : BA) = u := bts_mk u
    rw [a2]
    obtain ⟨Z, a5, a0, a6⟩ := rdStr_inv M
    have a4 := rdStr_split M
    have V := rdInt_split hc
    obtain ⟨a7, b2, a8, a1⟩ := rdInt_inv hc
    subst hcrc
    rw [a0] at V a1
    have a3 : (frm (encS u)).length = 1 + k' + k2 := by rw [frm]; simp; omega
    refine ⟨Z, a3.symm, ?_⟩
    have e : (1 :: r).drop (1 + k' + k2) = (r.drop k').drop k2 := by rw [List.drop_drop, show 1 + k' + k2 = (k' + k2) + 1 by omega, List.drop_succ_cons]
    rw [e, frm]
    simp only [List.cons_append, List.append_assoc, List.cons.injEq, true_and]
    rw [← V, ← a4]
   ·cases h
def Numb : List Fct → Nat → Prop
 | [], _ => True
 | f :: r, n => f.ok = true ∧ f.n = (n : Int) ∧ Numb r (n + 1)
theorem Numb.snoc : ∀ {l : List Fct} {n : Nat} {f : Fct}, Numb l n → f.ok = true → f.n = ((n + l.length : Nat) : Int) → Numb (l ++ [f]) n
 | [], n, f, _, h1, h2 => ⟨h1, by simpa using h2, trivial⟩
 | a :: l, n, f, h, h1, h2 => ⟨h.1, h.2.1, Numb.snoc h.2.2 h1 (by rw [h2]; simp; omega)⟩
theorem Numb.all : ∀ {l : List Fct} {n : Nat}, Numb l n → ∀ f ∈ l, f.ok = true
 | [], _, _, f, hf => by cases hf
 | a :: l, n, h, f, hf => by
  rcases List.mem_cons.1 hf with rfl | hf
  ·exact h.1
  ·exact Numb.all h.2.2 f hf
theorem Numb.len : ∀ {l : List Fct} {n : Nat}, Numb l n → n + l.length ≤ 501 ∨ l = []
 | [], _, _ => .inr rfl
 | a :: l, n, h => by
  refine .inl ?_
  have := (Fct.good h.1).n
  have hn := h.2.1
  rcases Numb.len h.2.2 with h2 | h2
  ·rw [List.length_cons]; omega
  ·subst h2; simp; omega
theorem Numb.red {t : List Fct} : ∀ {l : List Fct} {n : Nat}, Numb l n → Numb (redG t l) n
 | [], _, _ => trivial
 | a :: l, n, h => ⟨red_ok' h.1, by
   show (if takenB t a.story = true then redF a else a).n = _
   split
   ·rw [red_n]; exact h.2.1
   ·exact h.2.1, Numb.red h.2.2⟩
theorem recL_head (f : Fct) : ∃ r, recL f = 1 :: r := ⟨_, by rw [recL, frm]⟩
theorem pR_fwd : ∀ (fs : List Fct) (n : Nat) (t : List UInt8), Numb fs n → Ends t → pR (flat fs ++ t) n = some (fs, (flat fs).length)
 | [], n, t, _, ht => by
  rcases ht with rfl | ⟨r, rfl⟩
  ·rfl
  ·exact pR_zero
 | f :: r, n, t, h, ht => by
  obtain ⟨Z, a2, a3⟩ := h
  have a6 := encF_small Z
  have e : flat (f :: r) ++ t = recL f ++ (flat r ++ t) := by simp
  obtain ⟨q, a4⟩ := recL_head f
  have O := frm_str (t := encF f) (by omega) (flat r ++ t)
  have O : frmR rdStrB (recL f ++ (flat r ++ t)) = some (ba (encF f), (recL f).length) := O
  have V : recL f ++ (flat r ++ t) = 1 :: (q ++ (flat r ++ t)) := by rw [a4]; rfl
  rw [e]
  have a0 := O
  rw [V] at a0
  have a1 := pR_step (n := n) (show (1 : UInt8) ≠ 0 by decide) a0
  have M : decF (bts (ba (encF f))) = (f, 0) := by rw [bts_mk]; exact decF_enc Z
  have a5 : Takes (ba (encF f)) n := ⟨by rw [M], by rw [M]; exact a2⟩
  rw [if_pos a5, ← V, List.drop_left, pR_fwd r (n + 1) t a3 ht, M] at a1
  rw [a1]
  simp
theorem pR_inv : ∀ (g : Nat) (l : List UInt8) (n : Nat) (fs : List Fct) (m : Nat), l.length ≤ g → pR l n = some (fs, m) → Numb fs n ∧ m = (flat fs).length ∧ ∃ t, l = flat fs ++ t ∧ Ends t
 | 0, l, n, fs, m, hg, h => by
  obtain rfl : l = [] := List.length_eq_zero_iff.1 (by omega)
  rw [pR_nil] at h
  simp only [Option.some.injEq, Prod.mk.injEq] at h
  obtain ⟨rfl, rfl⟩ := h
  exact ⟨trivial, rfl, [], rfl, .inl rfl⟩
 | g + 1, l, n, fs, m, hg, h => by
  cases l with
  | nil =>
   rw [pR_nil] at h
   simp only [Option.some.injEq, Prod.mk.injEq] at h
   obtain ⟨rfl, rfl⟩ := h
   exact ⟨trivial, rfl, [], rfl, .inl rfl⟩
  | cons b r =>
   by_cases hb : b = 0
   ·subst hb
    rw [pR_zero] at h
    simp only [Option.some.injEq, Prod.mk.injEq] at h
    obtain ⟨rfl, rfl⟩ := h
    exact ⟨trivial, rfl, 0 :: r, rfl, .inr ⟨r, rfl⟩⟩
   ·cases hf : frmR rdStrB (b :: r) with
    | none => rw [pR_none hb hf] at h; cases h
    | some q =>
     obtain ⟨t, k⟩ := q
     rw [pR_step hb hf] at h
     have a7 := frmR_pos hf
     obtain ⟨a8, Z, a0⟩ := frm_str_inv hf
     split at h
     ·next ht =>
      rw [Option.map_eq_some_iff] at h
      obtain ⟨⟨a6, a9⟩, V, O⟩ := h
      simp only [Prod.mk.injEq] at O
      obtain ⟨rfl, rfl⟩ := O
      obtain ⟨a1, a2, t', a3, a4⟩ := pR_inv g _ _ _ _ (by rw [List.length_drop, List.length_cons]; simp at hg; omega) V
      obtain ⟨o1, a5⟩ := enc_decF (s := bts t) (f := (decF (bts t)).1) (Prod.ext rfl ht.1)
      have M : recL (decF (bts t)).1 = frm (encS (bts t)) := by rw [recL, a5]
      refine ⟨⟨o1, ht.2, a1⟩, ?_, t', ?_, a4⟩
      ·rw [a2, Z, ← M]; simp
      ·rw [a0, a3, ← M]; simp
     ·cases h
theorem halfR_fwd {g : Int} {fs : List Fct} {t : List UInt8} (V : okInt g) (a1 : 1 ≤ g) (hn : Numb fs 1) (a0 : Ends t) : halfR (cont g fs ++ t) = some (g, fs, (cont g fs).length) := by
 have O := frm_int V (flat fs ++ t)
 have e : cont g fs ++ t = headL g ++ (flat fs ++ t) := by rw [cont, List.append_assoc]
 obtain ⟨q, Z⟩ : ∃ q, headL g = 1 :: q := ⟨_, by rw [headL, frm]⟩
 have M : headL g ++ (flat fs ++ t) = 1 :: (q ++ (flat fs ++ t)) := by rw [Z]; rfl
 rw [e, M, halfR, if_neg (by decide), ← M, O]
 simp only
 rw [if_neg (by omega), List.drop_left, pR_fwd fs 1 t hn a0]
 simp
theorem halfR_ends {l : List UInt8} (h : Ends l) : halfR l = some (0, [], 0) := by
 rcases h with rfl | ⟨r, rfl⟩
 ·rfl
 ·rw [halfR, if_pos rfl]
theorem halfR_inv {l : List UInt8} {g : Int} {fs : List Fct} {e : Nat} (h : halfR l = some (g, fs, e)) : (g = 0 ∧ fs = [] ∧ e = 0 ∧ Ends l) ∨ (1 ≤ g ∧ okInt g ∧ Numb fs 1 ∧ e = (cont g fs).length ∧ ∃ t, l = cont g fs ++ t ∧ Ends t) := by
 cases l with
 | nil =>
  rw [halfR] at h
  simp only [Option.some.injEq, Prod.mk.injEq] at h
  obtain ⟨rfl, rfl, rfl⟩ := h
  exact .inl ⟨rfl, rfl, rfl, .inl rfl⟩
 | cons b r =>
  rw [halfR] at h
  split at h
  ·next hb =>
   simp only [Option.some.injEq, Prod.mk.injEq] at h
   obtain ⟨rfl, rfl, rfl⟩ := h
   exact .inl ⟨rfl, rfl, rfl, .inr ⟨r, by rw [hb]⟩⟩
  ·split at h
   ·cases h
   ·next v k hf =>
    split at h
    ·cases h
    ·next hg =>
     rw [Option.map_eq_some_iff] at h
     obtain ⟨⟨a5, a6⟩, O, M⟩ := h
     simp only [Prod.mk.injEq] at M
     obtain ⟨rfl, rfl, rfl⟩ := M
     obtain ⟨V, Z, a0⟩ := frm_int_inv hf
     obtain ⟨a1, a2, t', a3, a4⟩ := pR_inv _ _ _ _ _ (Nat.le_refl _) O
     refine .inr ⟨by omega, V, a1, ?_, t', ?_, a4⟩
     ·rw [cont, List.length_append, Z, a2]
     ·rw [a0, a3, cont, List.append_assoc]
abbrev zK7aa : Array Value := #[IV 0, .slice none 0 0, IV 0, IV 0, .slice none 0 0, IV 0]
abbrev yK7aa (d e : BA) (x2 x3 x4 x5 m : Int) (n b c f g h i j : Nat) (a k : OA) (l : SHeap) : SHeap := (n, .cells #[IV x2, .slice a b c, IV x3, PP f, IV x4, IV 1, .bool false] 86) :: (g, .cells #[.string d, .string e] 87) :: (h, .cells #[IV x5, .slice k i j, IV m, IV x2, .slice a b c, IV x3] 89) :: l
abbrev yK7ab (d e : BA) (x2 x3 x4 x5 m : Int) (n b c f g h i j : Nat) (a k : OA) (l : SHeap) : SHeap := (n, .cells #[IV x2, .slice a b c, IV x3, PP f, IV x4, IV 0, .bool false] 86) :: (g, .cells #[.string d, .string e] 87) :: (h, .cells #[IV x2, .slice a b c, IV x3, IV x5, .slice k i j, IV m] 89) :: l
noncomputable def jOpen_c0 (w a b c : Nat) (e u : Int) (n : Nat) (o : Int) (f h : BA) (g : Int) (k : OA) (j i : Nat) (l m : Int) (s : OA) (q p : Nat) (t : Int) (d : SHeap) (S : List Nat) : Cut := ⟨TP, S, 13, 139, (KC Tryz.f13 4094), [(4, PP a), (5, PP b), (9, PP c), (14, IV e), (15, IV u)], ((a, .cells #[IV 0, .slice none 0 0, IV 0, PP n, IV o, IV 0, .bool false] 86) :: (b, .cells #[.string f, .string h] 87) :: (c, .cells #[IV g, .slice k j i, IV l, IV m, .slice s q p, IV t] 89) :: d)⟩
theorem jOpen_c0_vc (c0 a n o : Nat) (a5 b7 : Int) (p : Nat) (q : Int) (d e : BA) (b : Int) (h : OA) (g f : Nat) (i c : Int) (l : OA) (k j : Nat) (m : Int) (y : SHeap) (H : VP S w0 R (.P 6 95 (a5 < b7) (.ru [5,200,7,200,1,202,2,200,4,201] <| .cl 0 46 [PP a, .agg #[.string d, .string e]] (yK7aa d e c m q b i a k j p n o g f l h y) <| .x4 fun sp sl E Y => .rt (.slice sp sl E) (yK7aa d e c m q b i a k j p n o g f l h Y) <| .hp (yK7aa d e c m q b i a k j p n o g f l h Y) fun s => .ru [9,200] <| .P 2 116 (c = 0) (.cl 3 48 [IV 1] s <| .x2 fun b0 b1 => .rt (.tuple #[.string b0, IV b1]) s <| .cl 2 47 [.string b0, IV b1] s <| .ex fun u => .rt (.string u) s <| .cl 7 49 [PP a, IV 0, .string u] s <| .x3 fun b8 b5 M => .rt (.slice b8 4 b5) (yK7aa d e c m q b i a k j p n o g f l h M) <| .ex fun (c2 : List Value) => .aq 1 92 92 (.slice sp sl E) (.slice b8 4 b5) 4 c2 (yK7aa d e c m q b i a k j p n o g f l h M) <| .x3 fun ap (Z : Nat) F11 => .rt (.slice ap (sl + 4) Z) (yK7aa d e c m q b i a k j p n o g f l h F11) <| .ru [9,200] <| .cl 6 50 [PP a, .slice ap (sl + 4) Z] ((a, .cells #[IV 1, .slice none 0 0, IV (u.size : Int), PP p, IV q, IV 1, .bool false] 86) :: (n, .cells #[.string d, .string e] 87) :: (o, .cells #[IV b, .slice h g f, IV i, IV c, .slice l k j, IV m] 89) :: F11) <| .x3 fun N z a1 => .rt (IV z) ((a, .cells #[IV 1, .slice none 0 0, IV (u.size : Int), PP p, IV q, IV 1, .bool a1] 86) :: (n, .cells #[.string d, .string e] 87) :: (o, .cells #[IV b, .slice h g f, IV i, IV c, .slice l k j, IV m] 89) :: N) <| .hp ((a, .cells #[IV 1, .slice none 0 0, IV (u.size : Int), PP p, IV q, IV 1, .bool a1] 86) :: (n, .cells #[.string d, .string e] 87) :: (o, .cells #[IV b, .slice h g f, IV i, IV c, .slice l k j, IV m] 89) :: N) fun a6 => .I 7 136 (z = 0) (.re 7 (.tuple #[.pointer none, IV z]) a6) <| .re 8 (.tuple #[PP a, IV 0]) a6) <| .cl 7 50 [PP a, .slice sp sl E] s <| .x3 fun O A a2 => .rt (IV A) ((a, .cells #[IV c, .slice l k j, IV m, PP p, IV q, IV 1, .bool a2] 86) :: (n, .cells #[.string d, .string e] 87) :: (o, .cells #[IV b, .slice h g f, IV i, IV c, .slice l k j, IV m] 89) :: O) <| .hp ((a, .cells #[IV c, .slice l k j, IV m, PP p, IV q, IV 1, .bool a2] 86) :: (n, .cells #[.string d, .string e] 87) :: (o, .cells #[IV b, .slice h g f, IV i, IV c, .slice l k j, IV m] 89) :: O) fun a7 => .I 7 136 (A = 0) (.re 7 (.tuple #[.pointer none, IV A]) a7) <| .re 8 (.tuple #[PP a, IV 0]) a7) <| .ru [8,200,1,202,2,200,4,201] <| .cl 0 46 [PP a, .agg #[.string d, .string e]] (yK7ab d e b i q c m a g f p n o k j h l y) <| .x4 fun G x F Q => .rt (.slice G x F) (yK7ab d e b i q c m a g f p n o k j h l Q) <| .hp (yK7ab d e b i q c m a g f p n o k j h l Q) fun t => .ru [9,200] <| .P 2 116 (b = 0) (.cl 3 48 [IV 1] t <| .x2 fun b3 b4 => .rt (.tuple #[.string b3, IV b4]) t <| .cl 2 47 [.string b3, IV b4] t <| .ex fun w => .rt (.string w) t <| .cl 7 49 [PP a, IV 0, .string w] t <| .x3 fun b9 b6 U => .rt (.slice b9 4 b6) (yK7ab d e b i q c m a g f p n o k j h l U) <| .ex fun (c3 : List Value) => .aq 1 92 92 (.slice G x F) (.slice b9 4 b6) 4 c3 (yK7ab d e b i q c m a g f p n o k j h l U) <| .x3 fun ap1 (a0 : Nat) F16 => .rt (.slice ap1 (x + 4) a0) (yK7ab d e b i q c m a g f p n o k j h l F16) <| .ru [9,200] <| .cl 6 50 [PP a, .slice ap1 (x + 4) a0] ((a, .cells #[IV 1, .slice none 0 0, IV (w.size : Int), PP p, IV q, IV 0, .bool false] 86) :: (n, .cells #[.string d, .string e] 87) :: (o, .cells #[IV b, .slice h g f, IV i, IV c, .slice l k j, IV m] 89) :: F16) <| .x3 fun V C a3 => .rt (IV C) ((a, .cells #[IV 1, .slice none 0 0, IV (w.size : Int), PP p, IV q, IV 0, .bool a3] 86) :: (n, .cells #[.string d, .string e] 87) :: (o, .cells #[IV b, .slice h g f, IV i, IV c, .slice l k j, IV m] 89) :: V) <| .hp ((a, .cells #[IV 1, .slice none 0 0, IV (w.size : Int), PP p, IV q, IV 0, .bool a3] 86) :: (n, .cells #[.string d, .string e] 87) :: (o, .cells #[IV b, .slice h g f, IV i, IV c, .slice l k j, IV m] 89) :: V) fun a8 => .I 7 136 (C = 0) (.re 7 (.tuple #[.pointer none, IV C]) a8) <| .re 8 (.tuple #[PP a, IV 0]) a8) <| .cl 7 50 [PP a, .slice G x F] t <| .x3 fun X D a4 => .rt (IV D) ((a, .cells #[IV b, .slice h g f, IV i, PP p, IV q, IV 0, .bool a4] 86) :: (n, .cells #[.string d, .string e] 87) :: (o, .cells #[IV b, .slice h g f, IV i, IV c, .slice l k j, IV m] 89) :: X) <| .hp ((a, .cells #[IV b, .slice h g f, IV i, PP p, IV q, IV 0, .bool a4] 86) :: (n, .cells #[.string d, .string e] 87) :: (o, .cells #[IV b, .slice h g f, IV i, IV c, .slice l k j, IV m] 89) :: X) fun a9 => .I 7 136 (D = 0) (.re 7 (.tuple #[.pointer none, IV D]) a9) <| .re 8 (.tuple #[PP a, IV 0]) a9)) : jOpen_c0 c0 a n o a5 b7 p q d e b h g f i c l k j m y S w0 R := VC.go Tryz.func13 _ H
theorem jOpen_vc (a : Nat) (x : SHeap) (hm : Mem (x) S w0 W) (H : VP S w0 R (.cl 9 42 [PP a] (x) <| .x2 fun (o : SHeap) dn => .rt (IV dn) (o) <| .P 2 21 (dn = 0) (.re 6 (.tuple #[.pointer none, IV 1]) (o)) <| .cl 6 42 [PP a] (o) <| .x2 fun (p : SHeap) dn1 => .rt (IV dn1) (p) <| .P 2 24 (dn1 < 64) (.re 6 (.tuple #[.pointer none, IV 240]) (p)) <| .cl 6 42 [PP a] (p) <| .x2 fun (y : SHeap) dn2 => .rt (IV dn2) (y) <| .nf 2 (.cells #[IV 0, .slice none 0 0, IV 0, PP a, IV (IntKind.i64.wrap (dn2.tdiv 2)), IV 0, .bool false] 86) fun B => .nf 4 (.cells #[sZ, sZ] 87) fun c => .r 23 <| .dD <| .nm [0,4,5,6,31] <| .ph 9 [0,1,2,3,4,5,6,7] [8] 2 <| .qu [3] <| .ex fun A => .qc 44 [PP B, IV 0] [(c, .cells #[sZ, sZ] 87), (B, .cells #[IV 0, .slice none 0 0, IV 0, PP a, IV (IntKind.i64.wrap (dn2.tdiv 2)), IV 0, .bool false] 86)] (IV A) <| .qu [3,101] <| .dn <| .cl 43 [PP a, IV A, IV (IntKind.i64.wrap (dn2.tdiv 2))] ((c, .cells #[sZ, sZ] 87) :: (B, .cells #[IV 0, .slice none 0 0, IV 0, PP a, IV (IntKind.i64.wrap (dn2.tdiv 2)), IV 0, .bool false] 86) :: y) <| .x3 fun q d re => .rt (.tuple #[.string d, IV re]) ((c, .cells #[sZ, sZ] 87) :: (B, .cells #[IV 0, .slice none 0 0, IV 0, PP a, IV (IntKind.i64.wrap (dn2.tdiv 2)), IV 0, .bool false] 86) :: q) <| .dn <| .nm [0,4,5,6,31,43] <| .ph 14 [9,10,11,12,13] [] 2 <| .qu [5] <| .dn <| .dn <| .tl <| .I 7 47 (re = 0) (.re 7 (.tuple #[.pointer none, IV re]) ((c, .cells #[sZ, sZ] 87) :: (B, .cells #[IV 0, .slice none 0 0, IV 0, PP a, IV (IntKind.i64.wrap (dn2.tdiv 2)), IV 0, .bool false] 86) :: q)) <| .ru [6,200] <| .r 22 <| .dD <| .nm [0,4,5,6,31] <| .ph 9 [0,1,2,3,4,5,6,7] [8] 2 <| .qu [3] <| .ex fun C => .qc 44 [PP B, IV 1] [(c, .cells #[.string d, sZ] 87), (B, .cells #[IV 0, .slice none 0 0, IV 0, PP a, IV (IntKind.i64.wrap (dn2.tdiv 2)), IV 0, .bool false] 86)] (IV C) <| .qu [3,101] <| .dn <| .cl 43 [PP a, IV C, IV (IntKind.i64.wrap (dn2.tdiv 2))] ((c, .cells #[.string d, sZ] 87) :: (B, .cells #[IV 0, .slice none 0 0, IV 0, PP a, IV (IntKind.i64.wrap (dn2.tdiv 2)), IV 0, .bool false] 86) :: q) <| .x3 fun s j u => .rt (.tuple #[.string j, IV u]) ((c, .cells #[.string d, sZ] 87) :: (B, .cells #[IV 0, .slice none 0 0, IV 0, PP a, IV (IntKind.i64.wrap (dn2.tdiv 2)), IV 0, .bool false] 86) :: s) <| .dn <| .nm [0,4,5,6,31,43] <| .ph 14 [9,10,11,12,13] [] 2 <| .qu [5] <| .dn <| .dn <| .tl <| .I 7 47 (u = 0) (.re 7 (.tuple #[.pointer none, IV u]) ((c, .cells #[.string d, sZ] 87) :: (B, .cells #[IV 0, .slice none 0 0, IV 0, PP a, IV (IntKind.i64.wrap (dn2.tdiv 2)), IV 0, .bool false] 86) :: s)) <| .ru [6,200] <| .nf 16 (.cells zK7aa 89) fun k => .ru [4,201] <| .cl 23 45 [.string d] ((k, .cells zK7aa 89) :: (c, .cells #[.string d, .string j] 87) :: (B, .cells #[IV 0, .slice none 0 0, IV 0, PP a, IV (IntKind.i64.wrap (dn2.tdiv 2)), IV 0, .bool false] 86) :: s) <| .x5 fun b i h f g => .x2 fun good t => .rt (.tuple #[.agg #[IV b, .slice i h f, IV g], .bool good]) ((k, .cells zK7aa 89) :: (c, .cells #[.string d, .string j] 87) :: (B, .cells #[IV 0, .slice none 0 0, IV 0, PP a, IV (IntKind.i64.wrap (dn2.tdiv 2)), IV 0, .bool false] 86) :: t) <| .nf 3 (.cells #[IV 0, .slice none 0 0, IV 0] 84) fun n => .ru [200] <| .B 6 63 good (.ru [6,200,1,201] <| .cl 26 45 [.string j] ((n, .cells #[IV b, .slice i h f, IV g] 84) :: (k, .cells #[IV b, .slice i h f, IV g, IV 0, .slice none 0 0, IV 0] 89) :: (c, .cells #[.string d, .string j] 87) :: (B, .cells #[IV 0, .slice none 0 0, IV 0, PP a, IV (IntKind.i64.wrap (dn2.tdiv 2)), IV 0, .bool false] 86) :: t) <| .x5 fun e pp1 pl1 pc1 l => .x2 fun z m => .rt (.tuple #[.agg #[IV e, .slice pp1 pl1 pc1, IV l], .bool z]) ((n, .cells #[IV b, .slice i h f, IV g] 84) :: (k, .cells #[IV b, .slice i h f, IV g, IV 0, .slice none 0 0, IV 0] 89) :: (c, .cells #[.string d, .string j] 87) :: (B, .cells #[IV 0, .slice none 0 0, IV 0, PP a, IV (IntKind.i64.wrap (dn2.tdiv 2)), IV 0, .bool false] 86) :: m) <| .nf 3 (.cells #[IV 0, .slice none 0 0, IV 0] 84) fun w => .ru [200] <| .B 6 63 z (.ru [6,200,1,202] <| .r 15 <| .dr 8 <| .qu [2,102,2,102,2] <| .dn <| .P 7 77 (0 < b) (.P 4 81 (0 < e) (.I 6 87 ((IntKind.i64.wrap (b - e)) = 1) (.I 6 92 ((IntKind.i64.wrap (e - b)) = 1) (.re 6 (.tuple #[.pointer none, IV 242]) ((w, .cells #[IV e, .slice pp1 pl1 pc1, IV l] 84) :: (n, .cells #[IV b, .slice i h f, IV g] 84) :: (k, .cells #[IV b, .slice i h f, IV g, IV e, .slice pp1 pl1 pc1, IV l] 89) :: (c, .cells #[.string d, .string j] 87) :: (B, .cells #[IV 0, .slice none 0 0, IV 0, PP a, IV (IntKind.i64.wrap (dn2.tdiv 2)), IV 0, .bool false] 86) :: m)) <| .cT 3 [4,3,2] 5 (jOpen_c0 a B c k b e a (IntKind.i64.wrap (dn2.tdiv 2)) d j b i h f g e pp1 pl1 pc1 l m S)) <| .cT 9 [4,3,2] 5 (jOpen_c0 a B c k b e a (IntKind.i64.wrap (dn2.tdiv 2)) d j b i h f g e pp1 pl1 pc1 l m S)) <| .cT 15 [4,3,2] 5 (jOpen_c0 a B c k b e a (IntKind.i64.wrap (dn2.tdiv 2)) d j b i h f g e pp1 pl1 pc1 l m S)) <| .cT 19 [4,3,2] 5 (jOpen_c0 a B c k b e a (IntKind.i64.wrap (dn2.tdiv 2)) d j b i h f g e pp1 pl1 pc1 l m S)) <| .re 8 (.tuple #[.pointer none, IV 242]) ((w, .cells #[IV e, .slice pp1 pl1 pc1, IV l] 84) :: (n, .cells #[IV b, .slice i h f, IV g] 84) :: (k, .cells #[IV b, .slice i h f, IV g, IV 0, .slice none 0 0, IV 0] 89) :: (c, .cells #[.string d, .string j] 87) :: (B, .cells #[IV 0, .slice none 0 0, IV 0, PP a, IV (IntKind.i64.wrap (dn2.tdiv 2)), IV 0, .bool false] 86) :: m)) <| .re 8 (.tuple #[.pointer none, IV 242]) ((n, .cells #[IV b, .slice i h f, IV g] 84) :: (k, .cells zK7aa 89) :: (c, .cells #[.string d, .string j] 87) :: (B, .cells #[IV 0, .slice none 0 0, IV 0, PP a, IV (IntKind.i64.wrap (dn2.tdiv 2)), IV 0, .bool false] 86) :: t))) : Calls TP 13 ⟨[PP a]⟩ W R := VC.cs Tryz.func13 hm _ H
def img0 (d : DS) : List UInt8 := d.vis.take (d.vis.length / 2)
def img1 (d : DS) : List UInt8 := (d.vis.drop (d.vis.length / 2)).take (d.vis.length / 2)
def openJ (sz : Nat) (h0 h1 : Int × List Fct × Nat) : JM := if h0.1 < h1.1 then ⟨h1.1, h1.2.1, h1.2.2, sz, 1, false⟩ else ⟨h0.1, h0.2.1, h0.2.2, sz, 0, false⟩
def openOps (i0 i1 : List UInt8) (j : JM) : List DOp := if j.gen = 0 then cleanOps j.gen j.cu j.en j.sz i0 i1 ++ safeOps 0 (ba (headL 1)) else cleanOps j.gen j.cu j.en j.sz i0 i1
def openF (j : JM) : JM := if j.gen = 0 then ⟨1, [], (headL 1).length, j.sz, j.cu, j.br⟩ else j
def openRun (i0 i1 : List UInt8) (j : JM) (d : DS) : Int × Option JM × DS :=
 if (runOps (openOps i0 i1 j) d).1 = 0 then (0, some (openF j), (runOps (openOps i0 i1 j) d).2) else ((runOps (openOps i0 i1 j) d).1, none, (runOps (openOps i0 i1 j) d).2)
def openM (d : DS) : Int × Option JM × DS :=
 if d.vis.length < 64 then (240, none, d) else if d.on = false then (231, none, d) else
 match halfR (img0 d), halfR (img1 d) with
 | some h0, some h1 => if 0 < h0.1 ∧ 0 < h1.1 ∧ ¬ (h0.1 - h1.1 = 1) ∧ ¬ (h1.1 - h0.1 = 1) then (242, none, d) else openRun (img0 d) (img1 d) (openJ (d.vis.length / 2) h0 h1) d
 | _, _ => (242, none, d)
def OpnK (D : Nat) (r : Int × Option JM × DS) (v : Value) (L' : SHeap) : Prop :=
 match r with
 | (e, none, d') => v = .tuple #[.pointer none, .int .i64 e] ∧ ∃ F' X, L'.Perm (F' ++ X) ∧ DRep D d' F'
 | (e, some m, d') => ∃ JB, v = .tuple #[pt JB 0, .int .i64 0] ∧ JD JB D m d' L'
theorem run_s {JB D : Nat} {ops : List DOp} {q : OA} {qc n : Nat} {N F : SHeap} {j : JS} {d : DS} (a0 : SRow JB D ops q qc N) (hn : ops.length = n) (Z : n ≤ 1000) (O : DRep D d F) (hp : d.pend.length < 900000) :
  EffC TP 50 ⟨[pt JB 0, .slice q n qc]⟩ (jH JB D j :: (F ++ N)) (RunK JB D j N (runOps ops d)) := by
 subst hn
 obtain ⟨a4, ⟨rfl, rfl, rfl⟩ | ⟨Q, cs, a3, rfl, M, a5, V⟩⟩ := a0
 ·intro W hm
  refine jRun_vc JB none 0 0 j.gen j.fp j.fl j.fc j.en D j.sz j.cu j.br (F ++ N) hm ?_
  apply jRun_c0_vc
  exact no (by omega) (dkFin ⟨F, rfl, rfl, O⟩)
 ·refine run_e (Bs := Q) (vs := cs) (sc := qc) (M.mem_iff.2 List.mem_cons_self) (by omega) (fun i hi => ?_) Z O hp
  obtain ⟨v, k1, a2⟩ := V i hi
  have : cs[i]'(by omega) = v := by
   rw [List.getElem?_eq_getElem (by omega)] at k1
   exact Option.some.inj k1
  rw [this]
  exact a2.mono fun x a1 => M.mem_iff.2 (List.mem_cons_of_mem _ a1)
theorem CallH.monoP {P : Program} {L : SHeap} {S : List Nat} {w0 : World} {g : FuncId} {args : Array Value} {K K' : Value → SHeap → Prop} (h : CallH P g args L S w0 K) (Z : ∀ v L', K v L' → ∃ M, L'.Perm M ∧ K' v M) : CallH P g args L S w0 K' :=
 fun W hm => (h W hm).mono fun _ _ ⟨v, L', h1, h2, h3⟩ => by
  obtain ⟨M, O, V⟩ := Z v L' h3
  exact ⟨v, M, h1, h2.perm O.symm, V⟩
section perms
variable (x y z q u : Nat × Obj) (A F T X Z N G Y L F8 : SHeap)
theorem po0 : ((x :: X) ++ (y :: z :: A)).Perm (x :: y :: z :: (X ++ A)) := perm_a
theorem po1 (hp : L.Perm (x :: (N ++ (Y ++ (y :: z :: F8))))) : L.Perm (x :: y :: z :: (N ++ (Y ++ F8))) := perm_of fun c w M O V Z => by
 have := Z _ _ hp
 simp only [M, O, V] at this ⊢; omega
theorem po2 (hp : F8.Perm (F ++ T)) : ((x :: (F ++ N)) ++ (y :: z :: (Y ++ T))).Perm (x :: y :: z :: (N ++ (Y ++ F8))) := perm_of fun c w M O V Z => by
 have := Z _ _ hp
 simp only [M, O, V] at this ⊢; omega
theorem po3 : ((x :: (F ++ N)) ++ (y :: z :: (Y ++ T))).Perm (x :: y :: z :: (F ++ (N ++ (Y ++ T)))) := perm_a
theorem po4 : (x :: y :: z :: (F ++ A)).Perm (F ++ (x :: y :: z :: A)) := perm_a
theorem po5 : (x :: y :: z :: (F ++ (N ++ (Y ++ T)))).Perm (x :: (F ++ ((y :: z :: (N ++ Y)) ++ T))) := perm_a
theorem po6 (hp : F8.Perm (F ++ T)) : (x :: y :: z :: (X ++ (N ++ (Y ++ F8)))).Perm (X ++ (N ++ (x :: y :: z :: (Y ++ (F ++ T))))) := perm_of fun c w M O V Z => by
 have := Z _ _ hp
 simp only [M, O, V] at this ⊢; omega
theorem po7 : (N ++ (x :: y :: z :: (Y ++ (F ++ T)))).Perm (x :: y :: z :: (N ++ (Y ++ (F ++ T)))) := perm_a
end perms
section opn
variable {JB D : Nat} {m : JM} {p : Option Addr} {c : Nat} {T F F8 : SHeap} {S : List Nat} {w0 : World} (y z : Nat × Obj)
abbrev OpnR (S : List Nat) (w0 : World) (D : Nat) (r : Int × Option JM × DS) : Ending → World → Prop := fun e W' => ∃ v L', e = .returned v ∧ Mem L' S w0 W' ∧ OpnK D r v L'
theorem open_end {d : DS} {O V : List UInt8} {M : JM} {ops : List DOp} {q : OA} {qc n : Nat} {N Y : SHeap} (b0 : openF M = m) (b4 : openOps O V M = ops) (a5 : F8.Perm (F ++ T)) (a6 : FRow noLk m.fs p c T) (b5 : SRow JB D ops q qc N) (hn : ops.length = n) (b3 : n ≤ 1000) (a9 : DRep D d F) (hp : d.pend.length < 900000) :
    CallH TP 50 ⟨[pt JB 0, .slice q n qc]⟩ (jH JB D (m.js p c) :: y :: z :: (N ++ (Y ++ F8))) S w0 (fun v L' => ∃ (a0 : SHeap) (Z : Int) (a1 : Bool), v = (.int .i64 Z) ∧ L' = (jH JB D { m.js p c with br := a1 } :: y :: z :: a0) ∧
              ((¬ (Z = (0 : Int))) →
                Fin (OpnR S w0 D (openRun O V M d)) (jH JB D { m.js p c with br := a1 } :: y :: z :: a0) S w0 (.tuple #[.pointer none, .int .i64 Z])) ∧
               ((Z = (0 : Int)) →
                Fin (OpnR S w0 D (openRun O V M d)) (jH JB D { m.js p c with br := a1 } :: y :: z :: a0) S w0 (.tuple #[.pointer (SO JB), .int .i64 (0 : Int)]))) := by
  refine CallH.eff (L0 := jH JB D (m.js p c) :: (F ++ N)) (L1 := y :: z :: (Y ++ T)) (run_s (j := m.js p c) b5 hn b3 a9 hp) (po2 _ _ _ _ _ _ _ _ a5) ?_
  rintro _ _ ⟨F', rfl, rfl, a3⟩
  have a2 : openRun O V M d = if (runOps ops d).1 = 0 then (0, some m, (runOps ops d).2) else ((runOps ops d).1, none, (runOps ops d).2) := by rw [openRun, b4, b0]
  generalize runOps ops d = r at *
  have a7 : jH JB D ((m.js p c).after r.1) = jH JB D { m.js p c with br := ((m.js p c).after r.1).br } := by
    unfold JS.after; split <;> rfl
  rw [a7]
  refine ⟨_, po3 _ _ _ _ _ _ _, _, r.1, ((m.js p c).after r.1).br, rfl, rfl, fun b1 => ?_, fun a4 => ?_⟩
  · rw [a2, if_neg b1]
    exact dkFin ⟨rfl, F', _, po4 _ _ _ _ _, a3⟩
  · rw [a2, if_pos a4]
    have a8 : ((m.js p c).after r.1).br = m.br := by rw [JS.after, if_pos a4]
    rw [a8]
    exact dkFin ⟨JB, rfl, F', p, c, _, po5 _ _ _ _ _ _ _, a3, a6.more _⟩
theorem dirtyOp_len (k sz fr : Nat) (M : List UInt8) : (dirtyOp k sz fr M).length ≤ 1 := by
 unfold dirtyOp; split
 ·exact Nat.zero_le _
 ·exact Nat.le_refl 1
theorem cleanOps_len (gen : Int) (cu en sz : Nat) (M O : List UInt8) : (cleanOps gen cu en sz M O).length ≤ 3 := by
 have V := dirtyOp_len 0 sz en M; have Z := dirtyOp_len 1 sz 0 O; have a0 := dirtyOp_len 0 sz 0 M; have a1 := dirtyOp_len 1 sz en O
 have key : ∀ l : List DOp, l.length ≤ 2 → (syncIf l).length ≤ 3 := by
  intro l a2
  unfold syncIf; split
  ·exact Nat.zero_le _
  ·rw [List.length_append]; simp; omega
 unfold cleanOps
 apply key
 repeat' split
 all_goals rw [List.length_append]; omega
theorem src_steps {L X : SHeap} {ops : List DOp} {Bs : Nat} (hn : ops.length = 4) (h : StepsAt X JB D ops Bs) (a2 : ∀ x ∈ X, x ∈ L) : ∃ V : List Value, (∀ W, Mem L S w0 W → Go.Src TP 1 92 (.slice (SO Bs) 4 4) 4 V W) ∧ ∃ a0 : ops.length = V.length, ∀ i (hi : i < ops.length), StepAt X JB D ops[i] (V[i]'(by omega)) := by
 obtain ⟨vs, t, fz, a1, a3, Z⟩ := h
 have a0 : (vs.take 4).length = 4 := by rw [List.length_take]; omega
 refine ⟨vs.take 4, fun W hm => Go.Src.ofSlice W (e' := 53) (by kernel_rfl) ⟨Bs, 0, none⟩ 4 4 (vs.take 4) a0 (fun j u M => ?_) (fun u M => ?_), by omega, fun i hi => ?_⟩
 ·rw [addr_add, Nat.zero_add, cell_of_heap (hm.here _ (a2 _ a1))]
  rw [List.getElem?_take] at M
  split at M
  ·exact M
  ·cases M
 ·obtain ⟨i, hi, rfl⟩ := List.mem_iff_getElem.1 M
  have O := Z i (by omega)
  rw [List.getElem_take]
  revert O
  generalize ops[i]'(by omega) = o
  intro O
  cases o with
  | sync => rw [show vs[i]'(by omega) = _ from O]; rfl
  | write off s => obtain ⟨a, b, c, e, _⟩ := O; rw [e]; rfl
 ·rw [List.getElem_take]; exact Z i hi
theorem open_c0 {d : DS} {rs rs1 : BA} {sz : Nat} {g0 g1 : Int} {f0 f1 : List Fct} {e0 e1 : Nat} {p0 p1 : OA} {c0 c1 : Nat} {B6 B7 : Nat} (b5 : blkW w0 0 = some tabV) (a9 : 0 ∉ S) (a6 : sz ≤ 2097152) (a3 : rs.size ≤ 2097152) (a4 : rs1.size ≤ 2097152) (b3 : e0 ≤ rs.size) (b4 : e1 ≤ rs1.size) (d1 : 0 ≤ g0)
  (V : F8.Perm (F ++ T)) (b0 : FRow noLk f0 p0 c0 T) (b1 : FRow noLk f1 p1 c1 T) (Z : DRep D d F) (hp : d.pend.length < 900000) :
  jOpen_c0 D JB B6 B7 g0 g1 D (sz : Int) rs rs1 g0 p0 f0.length c0 (e0 : Int) g1 p1 f1.length c1 (e1 : Int) F8 S w0 (OpnR S w0 D (openRun (bts rs) (bts rs1) (openJ sz (g0, f0, e0) (g1, f1, e1)) d)) := by
 apply jOpen_c0_vc
 refine ⟨fun a5 => ?_, fun b6 => ?_⟩
 ·have a0 : openJ sz (g0, f0, e0) (g1, f1, e1) = ⟨g1, f1, e1, sz, 1, false⟩ := if_pos a5
  rw [a0]
  refine CallH.monoP (fun W hm => cleaning1 (JB := JB) (D := D) (p := p1) (c := c1) (gen := g1) (fs := f1) (en := e1) (br := false) a6 a3 a4 b4 hm) ?_
  rintro _ L' ⟨q, qc, N, Y, rfl, a1, O⟩
  have b7 := cleanOps_len g1 1 e1 sz (bts rs) (bts rs1)
  refine ⟨_, po1 _ _ _ _ _ _ _ a1, q, _, qc, _, rfl, rfl, fun M => absurd a5 (by omega), fun M => ?_⟩
  exact open_end (m := ⟨g1, f1, e1, sz, 1, false⟩) (p := p1) (c := c1) _ _ (if_neg M) (if_neg M) V b1 O rfl (by omega) Z hp
 ·have a0 : openJ sz (g0, f0, e0) (g1, f1, e1) = ⟨g0, f0, e0, sz, 0, false⟩ := if_neg b6
  rw [a0]
  refine CallH.monoP (fun W hm => cleaning0 (JB := JB) (D := D) (p := p0) (c := c0) (gen := g0) (fs := f0) (en := e0) (br := false) a6 a3 a4 b3 hm) ?_
  rintro _ L' ⟨q, qc, N, Y, rfl, a1, O⟩
  have b7 := cleanOps_len g0 0 e0 sz (bts rs) (bts rs1)
  refine ⟨_, po1 _ _ _ _ _ _ _ a1, q, _, qc, _, rfl, rfl, fun M => ?_, fun M => ?_⟩
  ·refine CallH.pure (PutInt_c _) ⟨encB 1, 0, if_pos (okI (by omega)), rfl, ?_⟩
   have c9 := enc_len 1
   refine CallH.pureG (framing_c (by rw [encB_size]; omega)) a9 b5 ⟨_, rfl, rfl, ?_⟩
   have a7 : frm (bts (encB 1)) = headL 1 := by rw [encB_bts]; rfl
   rw [a7]
   have d0 := headL_len 1
   have a8 : (ba (headL 1)).size = (headL 1).length := ba_size _
   have d2 : 1 ≤ (headL 1).length := by rw [headL, frm]; simp
   refine CallH.eff (L0 := [jH JB D ((JM.mk g0 f0 e0 sz 0 false).js p0 c0)]) (L1 := (B6, _) :: (B7, _) :: (N ++ (Y ++ F8))) (safely_e (j := (JM.mk g0 f0 e0 sz 0 false).js p0 c0) (by omega) (by omega)) (List.Perm.refl _) ?_
   rintro _ _ ⟨Bs, X, rfl, rfl, c4⟩
   refine ⟨_, po0 _ _ _ _ _, some ⟨Bs, 0, none⟩, 4, _, rfl, rfl, ?_⟩
   obtain ⟨a2, n1, n2, c6⟩ := src_steps (S := S) (w0 := w0) (L := (JB, .cells #[.int .i64 g0, .slice p0 f0.length c0, .int .i64 (e0 : Int), .pointer (SO D), .int .i64 (sz : Int), .int .i64 (0 : Int), .bool false] 86) :: (B6, .cells #[.string rs, .string rs1] 87) :: (B7, .cells #[.int .i64 g0, .slice p0 f0.length c0, .int .i64 (e0 : Int), .int .i64 g1, .slice p1 f1.length c1, .int .i64 (e1 : Int)] 89) :: (X ++ (N ++ (Y ++ F8)))) rfl c4 (fun x c5 => by simp [c5])
   refine ⟨a2, n1, ?_⟩
   have b9 : 4 = a2.length := n2
   refine (SRow.push (os := safeOps 0 (ba (headL 1))) (vs := a2) O rfl (by omega) n2 (by omega) (by omega) c6 (po6 _ _ _ _ _ _ _ _ _ V) b9).monoP ?_
   rintro _ c7 ⟨p', c', c8, rfl, c2, c3⟩
   refine ⟨_, c2.trans (po7 _ _ _ _ _ _ _), p', c', _, rfl, rfl, ?_⟩
   have b8 : (cleanOps g0 0 e0 sz (bts rs) (bts rs1) ++ safeOps 0 (ba (headL 1))).length = (cleanOps g0 0 e0 sz (bts rs) (bts rs1)).length + 4 := by rw [List.length_append]; rfl
   rw [a8]
   exact open_end (m := ⟨1, [], (headL 1).length, sz, 0, false⟩) (p := none) (c := 0) (F8 := F ++ T) _ _ (if_pos M) (if_pos M) (List.Perm.refl _) FRow.nil0 c3 b8 (by omega) Z hp
  ·exact open_end (m := ⟨g0, f0, e0, sz, 0, false⟩) (p := p0) (c := c0) _ _ (if_neg M) (if_neg M) V b0 O rfl (by omega) Z hp
end opn
theorem CallH.newP {P : Program} {S : List Nat} {g : FuncId} {args : Array Value} {w0 : World} {M : World → Prop} {K K' : Value → SHeap → Prop} (told : SHeap) {T : SHeap} (h : EffW P g args [] M K) (Z : ∀ W, Mem (told ++ T) S w0 W → M W)
  (O : ∀ v F', K v F' → K' v (told ++ (F' ++ T))) : CallH P g args (told ++ T) S w0 K' :=
 CallH.effW (L0 := []) (L1 := told ++ T) h Z (List.Perm.refl _) fun v F' V => ⟨told ++ (F' ++ T), List.perm_append_comm_assoc _ _ _, O v F' V⟩
theorem halfR_gen {l : List UInt8} {g : Int} {fs : List Fct} {e : Nat} (h : halfR l = some (g, fs, e)) : 0 ≤ g ∧ g ≤ 4611686018427387903 ∧ e ≤ l.length := by
 rcases halfR_inv h with ⟨rfl, _, rfl, _⟩ | ⟨h1, h2, _, h4, t, h5, _⟩
 ·exact ⟨by omega, by omega, Nat.zero_le _⟩
 ·unfold okInt maxInt at h2
  refine ⟨by omega, by omega, ?_⟩
  have := congrArg List.length h5
  rw [@List.length_append _ (cont g fs) t] at this
  omega
theorem po8 {F M O : SHeap} : (O ++ (M ++ F)).Perm (F ++ (O ++ M)) := perm_a
section perms
variable (x y z u v : Nat × Obj) (F N0 N1 : SHeap)
theorem po9 : (x :: y :: z :: u :: (N0 ++ F)).Perm (F ++ (x :: y :: z :: u :: N0)) := perm_a
theorem po10 : (x :: y :: z :: u :: v :: (N1 ++ (N0 ++ F))).Perm (F ++ (x :: y :: z :: u :: v :: (N1 ++ N0))) := perm_a
end perms
theorem open_e {D : Nat} {d : DS} {F : SHeap} (b5 : DRep D d F) (hp : d.pend.length < 900000) : EffW TP 13 ⟨[pt D 0]⟩ F (fun W => 0 ∉ F.map (·.1) ∧ blkW W 0 = some tabV) (OpnK D (openM d)) := by
 intro W hm ⟨hS, hg⟩
 generalize F.map (·.1) = S at *
 have b9 := b5.1
 have e8 := b9.pos; have e7 := b9.le
 refine jOpen_vc D F hm (CallH.dT [] (Size_e b5) fun c3 c7 => ⟨c3, _, rfl, rfl, no (by omega) (CallH.dT [] (Size_e c7) fun b3 b6 => ⟨b3, _, rfl, rfl, fun d3 => ?_, fun d3 => ?_⟩)⟩)
 ·have e : openM d = (240, none, d) := if_pos (by omega)
  rw [e]
  exact dkFin ⟨rfl, b3, [], by simp, b6⟩
 ·refine CallH.dT [] (Size_e b6) fun c4 c8 => ⟨c4, _, rfl, rfl, fun B b1 => ?_⟩
  have d4 : IntKind.i64.wrap (((d.vis.length : Nat) : Int).tdiv 2) = ((d.vis.length / 2 : Nat) : Int) := by
   have e : ((d.vis.length : Nat) : Int).tdiv 2 = ((d.vis.length / 2 : Nat) : Int) := rfl
   rw [e, wi64 (by omega)]
  try dsimp only
  simp only [d4]
  have M : openM d = if d.on = false then (231, none, d) else
    match halfR (img0 d), halfR (img1 d) with
    | some h0, some a0 => if 0 < h0.1 ∧ 0 < a0.1 ∧ ¬ (h0.1 - a0.1 = 1) ∧ ¬ (a0.1 - h0.1 = 1) then (242, none, d) else openRun (img0 d) (img1 d) (openJ (d.vis.length / 2) h0 a0) d
    | _, _ => (242, none, d) := if_neg (by omega)
  have d5 : d.vis.length / 2 ≤ 2097152 := by omega
  have e5 : d.cut = d.cut := rfl
  refine ⟨((0 * (d.vis.length / 2) : Nat) : Int), QCallB.pw fun a5 a1 => start_pw (k := 0) (m := ⟨0, [], 0, d.vis.length / 2, 0, false⟩) (p := none) (c := 0) (D := D) (a1.here (jH B D _) (List.mem_cons_of_mem _ List.mem_cons_self)) (by decide) (by show d.vis.length / 2 ≤ 4194304; omega), ?_⟩
  refine CallH.dT [_, _] (Read_e c8 (by omega)) fun b4 b7 => ⟨b4, _, _, rfl, rfl, ?_⟩
  cases hon : d.on with
  | false =>
   have a4 : ∀ off n, d.read off n = (⟨#[]⟩, 231) := fun off n => if_pos hon
   rw [a4]
   refine ⟨fun _ => ?_, fun h => absurd h (by decide)⟩
   rw [M, if_pos hon]
   exact dkFin ⟨rfl, b4, [_, _], List.perm_append_comm (l₁ := [_, _]), b7⟩
  | true =>
   rw [if_neg (by rw [hon]; decide)] at M
   have a4 : ∀ k : Nat, k ≤ 1 → d.read ((k * (d.vis.length / 2) : Nat) : Int) ((d.vis.length / 2 : Nat) : Int) = (ba ((d.vis.drop (k * (d.vis.length / 2))).take (d.vis.length / 2)), 0) := by
    intro k c9
    have e6 : k * (d.vis.length / 2) ≤ 1 * (d.vis.length / 2) := Nat.mul_le_mul_right _ c9
    rw [DS.read, if_neg (by rw [hon]; decide), if_pos (by omega)]
    simp only [Int.toNat_natCast]
   have e0 : (d.vis.drop (0 * (d.vis.length / 2))).take (d.vis.length / 2) = img0 d := by rw [Nat.zero_mul, List.drop_zero]; rfl
   have e1 : (d.vis.drop (1 * (d.vis.length / 2))).take (d.vis.length / 2) = img1 d := by rw [Nat.one_mul]; rfl
   have d6 : (img0 d).length = d.vis.length / 2 := by rw [img0, List.length_take]; omega
   have d7 : (img1 d).length = d.vis.length / 2 := by rw [img1, List.length_take, List.length_drop]; omega
   rw [a4 0 (by omega), e0]
   refine ⟨fun h => absurd rfl h, fun _ => ⟨((1 * (d.vis.length / 2) : Nat) : Int), QCallB.pw fun a5 a1 => start_pw (k := 1) (m := ⟨0, [], 0, d.vis.length / 2, 0, false⟩) (p := none) (c := 0) (D := D) (a1.here (jH B D _) (List.mem_cons_of_mem _ List.mem_cons_self)) (by decide) (by show d.vis.length / 2 ≤ 4194304; omega), ?_⟩⟩
   refine CallH.dT [_, _] (Read_e b7 (by omega)) fun O b8 => ⟨O, _, _, rfl, rfl, ?_⟩
   rw [a4 1 (by omega), e1]
   refine ⟨fun h => absurd rfl h, fun _ B2 => ?_⟩
   have e9 : (ba (img0 d)).size = d.vis.length / 2 := by rw [ba_size (img0 d), d6]
   have f2 : (ba (img1 d)).size = d.vis.length / 2 := by rw [ba_size (img1 d), d7]
   have bad : ∀ {L : SHeap} {X : SHeap}, openM d = (242, none, d) → L.Perm (O ++ X) → Fin (OpnR S W D (openM d)) L S W (.tuple #[.pointer none, .int .i64 (242 : Int)]) := by
    intro L X a0 c6
    rw [a0]
    exact dkFin ⟨rfl, O, X, c6, b8⟩
   refine CallH.newP [_, _, _] (parsed_e (s := ba (img0 d)) (by omega) (by omega)) (fun a5 a1 => blkW_kept a1.kept hS hg) ?_
   intro v V a2
   rw [ParOut, bts_mk] at a2
   cases hh0 : halfR (img0 d) with
   | none =>
    rw [hh0] at a2 M
    simp only at a2 M
    subst a2
    refine ⟨0, none, 0, 0, 0, false, _, rfl, rfl, fun B3 => ⟨fun h => Bool.noConfusion h, fun _ => bad (X := _ :: _ :: _ :: _ :: V) M (po9 _ _ _ _ O V)⟩⟩
   | some h0 =>
    obtain ⟨g0, f0, b0⟩ := h0
    rw [hh0] at a2 M
    simp only at a2
    obtain ⟨p0, c0, rfl, d1⟩ := a2
    obtain ⟨c5, e2, gc⟩ := halfR_gen hh0
    refine ⟨g0, p0, f0.length, c0, (b0 : Int), true, _, rfl, rfl, fun B3 => ⟨fun _ => ?_, fun h => Bool.noConfusion h⟩⟩
    refine CallH.newP [_, _, _, _] (parsed_e (s := ba (img1 d)) (by omega) (by omega)) (fun a5 a1 => blkW_kept a1.kept hS hg) ?_
    intro v Z a3
    rw [ParOut, bts_mk] at a3
    cases hh1 : halfR (img1 d) with
    | none =>
     rw [hh1] at a3 M
     simp only at a3 M
     subst a3
     exact ⟨0, none, 0, 0, 0, false, _, rfl, rfl, fun c2 => ⟨fun h => Bool.noConfusion h, fun _ => bad (X := _ :: _ :: _ :: _ :: _ :: (Z ++ V)) M (po10 _ _ _ _ _ O V Z)⟩⟩
    | some a0 =>
     obtain ⟨g1, f1, n1⟩ := a0
     rw [hh1] at a3 M
     simp only at a3 M
     obtain ⟨p1, c1, rfl, d2⟩ := a3
     obtain ⟨e3, e4, gf⟩ := halfR_gen hh1
     refine ⟨g1, p1, f1.length, c1, (n1 : Int), true, _, rfl, rfl, fun c2 => ⟨fun _ => ?_, fun h => Bool.noConfusion h⟩⟩
     have d8 : IntKind.i64.wrap (g0 - g1) = g0 - g1 := wi64 (by omega)
     have d9 : IntKind.i64.wrap (g1 - g0) = g1 - g0 := wi64 (by omega)
     simp only [d8, d9]
     have go : ¬ (0 < g0 ∧ 0 < g1 ∧ ¬ (g0 - g1 = 1) ∧ ¬ (g1 - g0 = 1)) → jOpen_c0 D B b1 B2 g0 g1 D ((d.vis.length / 2 : Nat) : Int) (ba (img0 d)) (ba (img1 d)) g0 p0 f0.length c0 (b0 : Int) g1 p1 f1.length c1 (n1 : Int) (Z ++ (V ++ O)) S W (OpnR S W D (openM d)) := by
      intro d0
      rw [M, if_neg d0]
      have := open_c0 (JB := B) (D := D) (F8 := Z ++ (V ++ O)) (F := O) (T := Z ++ V) (S := S) (w0 := W) (d := d) (rs := ba (img0 d)) (rs1 := ba (img1 d)) (sz := d.vis.length / 2) (g0 := g0) (g1 := g1) (f0 := f0) (f1 := f1) (e0 := b0) (e1 := n1) (p0 := p0) (p1 := p1) (c0 := c0) (c1 := c1) (B6 := b1) (B7 := B2) hg hS d5 (by omega) (by omega) (by omega) (by omega) c5 (po8 (F := O)) (d1.more Z) ((d2.more V).perm List.perm_append_comm) b8 hp
      rw [bts_mk, bts_mk] at this
      exact this
     exact ⟨fun a6 => ⟨fun a7 => ⟨fun a8 => ⟨fun a9 => bad (X := _ :: _ :: _ :: _ :: _ :: (Z ++ V)) (by rw [M, if_pos ⟨a6, a7, a8, a9⟩]) (po10 _ _ _ _ _ O V Z), fun a9 => go fun h => h.2.2.2 a9⟩, fun a8 => go fun h => h.2.2.1 a8⟩, fun a7 => go fun h => a7 h.2.1⟩, fun a6 => go fun h => a6 h.1⟩
theorem Surv.none {b x : List UInt8} (h : Surv [] b x) : x = b := by cases h; rfl
theorem Surv.one {o : Nat} {s : BA} {b x : List UInt8} (h : Surv [(o, s)] b x) : ∃ t, x = ovr b o ((bts s).take t) := by
 cases h with
 | cons t h => exact ⟨t, h.none⟩
theorem appl_surv : ∀ (p : List (Nat × BA)) (b : List UInt8), Surv p b (appl p b)
 | [], b => .nil b
 | (o, s) :: r, b => by
  refine .cons (bts s).length ?_
  rw [List.take_length]
  exact appl_surv r _
section inv
variable {Z : Nat × ByteArray → Prop} {G : List UInt8 → Prop} (hstep : ∀ b o s t, G b → Z (o, s) → G (ovr b o ((bts s).take t)))
include hstep
theorem surv_inv {p : List (Nat × BA)} {b x : List UInt8} (h : Surv p b x) : G b → (∀ q ∈ p, Z q) → G x := by
 induction h with
 | nil b => exact fun h _ => h
 | cons t h ih => exact fun O M => ih (hstep _ _ _ _ O (M _ List.mem_cons_self)) fun q V => M q (List.mem_cons_of_mem _ V)
theorem img_inv : ∀ {ops : List DOp} {b x : List UInt8} {p : List (Nat × BA)}, Img ops b p x → (∀ o s, DOp.write o s ∈ ops → Z (o.toNat, s)) → G b → (∀ q ∈ p, Z q) → G x
 | [], b, x, p, h, _, h1, h2 => surv_inv hstep h h1 h2
 | .sync :: r, b, x, p, h, ho, h1, h2 => by
  rcases h with h | h
  ·exact surv_inv hstep h h1 h2
  ·exact img_inv h (fun o s hm => ho o s (List.mem_cons_of_mem _ hm)) (surv_inv hstep (appl_surv p b) h1 h2) fun q M => by cases M
 | .write o s :: r, b, x, p, h, ho, h1, h2 => by
  rcases h with h | h
  ·exact surv_inv hstep h h1 h2
  ·refine img_inv h (fun o s hm => ho o s (List.mem_cons_of_mem _ hm)) h1 fun q M => ?_
   rcases List.mem_append.1 M with M | M
   ·exact h2 q M
   ·simp only [List.mem_singleton] at M
    subst M
    exact ho o s List.mem_cons_self
end inv
theorem bts_tail (b : UInt8) (r : List UInt8) : bts (cutTail (ba (b :: r))) = r := by
 rw [cutTail, bts_extract, bts_mk]
 have : (ba (b :: r)).size = r.length + 1 := ba_size (b :: r)
 rw [this]; simp
theorem bts_head (b : UInt8) (r : List UInt8) : bts (cutHead (ba (b :: r))) = [b] := by
 rw [cutHead, bts_extract, bts_mk]; simp
theorem ovr_app {A t s : List UInt8} {o : Nat} (h : o + s.length ≤ t.length) : ovr (A ++ t) (A.length + o) s = A ++ ovr t o s := by
 have := ovr_mid (A := A) (B := t) (C := []) (s := s) (o := o) h
 simpa using this
theorem ends_ovr1 {k : Nat} {s : List UInt8} (h : 1 ≤ k) : Ends (ovr (zs k) 1 s) := by
 obtain ⟨k, rfl⟩ : ∃ m, k = m + 1 := ⟨k - 1, by omega⟩
 refine .inr ⟨s ++ (zs (k + 1)).drop (1 + s.length), ?_⟩
 unfold ovr
 rw [zs_take, Nat.min_eq_left (by omega)]
 rfl
theorem take_one (b : UInt8) (t : Nat) : ([b] : List UInt8).take t = [] ∨ ([b] : List UInt8).take t = [b] := by
 cases t with
 | zero => exact .inl rfl
 | succ t => exact .inr (by simp)
section safe
variable {H : List UInt8 → List UInt8} {base sz : Nat} (hH : ∀ X o s, X.length = sz → o + s.length ≤ sz → ovr (H X) (base + o) s = H (ovr X o s))
include hH
theorem safe_steps {A r' : List UInt8} {k off : Nat} (a2 : off = base + A.length) (Z : A.length + k = sz) (a3 : r'.length + 1 ≤ k) :
  (∀ t, ∃ q, Ends q ∧ q.length = k ∧ ovr (H (A ++ zs k)) (off + 1) (r'.take t) = H (A ++ q)) ∧
  (∃ q, Ends q ∧ q.length = k ∧ ovr (H (A ++ zs k)) (off + 1) r' = H (A ++ q) ∧ ovr (H (A ++ q)) off [1] = H (A ++ (1 :: r') ++ zs (k - (r'.length + 1)))) := by
 subst a2
 have key : ∀ s : List UInt8, s.length + 1 ≤ k → ovr (H (A ++ zs k)) (base + A.length + 1) s = H (A ++ ovr (zs k) 1 s) ∧ (ovr (zs k) 1 s).length = k := by
  intro s a4
  have O := zs_len k
  have e := hH (A ++ zs k) (A.length + 1) s (by rw [List.length_append, O]; exact Z) (by omega)
  rw [Nat.add_assoc, e, ovr_app (by omega)]
  exact ⟨rfl, by rw [ovr_len (by omega), O]⟩
 refine ⟨fun t => ?_, ?_⟩
 ·have O : (r'.take t).length ≤ r'.length := by rw [List.length_take]; exact Nat.min_le_right _ _
  obtain ⟨e1, M⟩ := key (r'.take t) (by omega)
  exact ⟨_, ends_ovr1 (by omega), M, e1⟩
 ·obtain ⟨e1, M⟩ := key r' a3
  refine ⟨_, ends_ovr1 (by omega), M, e1, ?_⟩
  have a0 := hH (A ++ ovr (zs k) 1 r') A.length [1] (by rw [List.length_append, M]; exact Z) (by simp; omega)
  rw [a0]
  congr 1
  have V := ovr_app (A := A) (t := ovr (zs k) 1 r') (s := [1]) (o := 0) (by rw [M]; simp; omega)
  rw [Nat.add_zero] at V
  rw [V, List.append_assoc]
  congr 1
  unfold ovr
  have a1 : (zs k).take 1 = [0] := by
   rw [zs_take, Nat.min_eq_left (by omega)]; rfl
  rw [a1, zs_drop]
  simp
  congr 1; omega
theorem safe_img {A r' : List UInt8} {k off : Nat} {more : List DOp} {x : List UInt8} (a2 : off = base + A.length) (a1 : A.length + k = sz) (a3 : r'.length + 1 ≤ k) (h : Img (safeOps (off : Int) (ba (1 :: r')) ++ more) (H (A ++ zs k)) [] x) :
  (∃ q, Ends q ∧ q.length = k ∧ x = H (A ++ q)) ∨ Img more (H (A ++ (1 :: r') ++ zs (k - (r'.length + 1)))) [] x := by
 obtain ⟨a7, M, O, V, a8, Z⟩ := safe_steps hH a2 a1 a3
 have a0 : ((off : Int) + 1).toNat = off + 1 := by omega
 simp only [safeOps, List.cons_append, List.nil_append, Img, appl, a0, Int.toNat_natCast, bts_tail, bts_head, a8, Z] at h
 rcases h with h | h | h | h | h
 ·exact .inl ⟨zs k, zs_ends k, zs_len k, h.none⟩
 ·obtain ⟨t, e⟩ := h.one
  rw [bts_tail] at e
  obtain ⟨q, a4, a5, a6⟩ := a7 t
  exact .inl ⟨q, a4, a5, e.trans a6⟩
 ·exact .inl ⟨M, O, V, h.none⟩
 ·obtain ⟨t, e⟩ := h.one
  rw [bts_head] at e
  rcases take_one 1 t with e1 | e1
  ·rw [e1, ovr_nil] at e; exact .inl ⟨M, O, V, e⟩
  ·rw [e1, Z] at e
   exact .inr (Img.now (e ▸ .nil _) more)
 ·exact .inr h
theorem safe_end {A r' : List UInt8} {k off : Nat} {more : List DOp} (V : off = base + A.length) (O : A.length + k = sz) (Z : r'.length + 1 ≤ k) :
  endOps (safeOps (off : Int) (ba (1 :: r')) ++ more) (H (A ++ zs k)) [] = endOps more (H (A ++ (1 :: r') ++ zs (k - (r'.length + 1)))) [] := by
 obtain ⟨a3, a2, a4, a5, a0, a1⟩ := safe_steps hH V O Z
 have M : ((off : Int) + 1).toNat = off + 1 := by omega
 simp only [safeOps, List.cons_append, List.nil_append, endOps, appl, M, Int.toNat_natCast, bts_tail, bts_head, a0, a1]
end safe
structure Gn (g : Int) (fs : List Fct) : Prop where
 one : 1 ≤ g
 ok : g ≤ 4611686018427387903
 numb : Numb fs 1
theorem Gn.okInt {g : Int} {fs : List Fct} (h : Gn g fs) : okInt g := by have M := h.one; have O := h.ok; unfold Wire.okInt maxInt; omega
def Oth (g : Int) (Y : List UInt8) : Prop := Ends Y ∨ ∃ fs' t, Gn (g - 1) fs' ∧ Y = cont (g - 1) fs' ++ t ∧ Ends t
def GoodAt (c sz : Nat) (R : List UInt8) (g : Int) (fs : List Fct) (b : List UInt8) : Prop :=
 ∃ t Y, b = lay c (cont g fs ++ t) Y R ∧ (cont g fs).length + t.length = sz ∧ Y.length = sz ∧ Ends t ∧ Oth g Y
def Good (sz : Nat) (R : List UInt8) (g : Int) (fs : List Fct) (b : List UInt8) : Prop := Gn g fs ∧ ∃ c, c ≤ 1 ∧ GoodAt c sz R g fs b
def ZW (c sz e : Nat) (q : Nat × BA) : Prop := (q.1 = (1 - c) * sz ∧ ∃ k, k ≤ sz ∧ bts q.2 = zs k) ∨ (q.1 = c * sz + e ∧ ∃ k, e + k ≤ sz ∧ bts q.2 = zs k)
theorem good_step {c sz : Nat} {R : List UInt8} {g : Int} {fs : List Fct} (a2 : c ≤ 1) : ∀ (b : List UInt8) (o : Nat) (s : BA) (t : Nat), GoodAt c sz R g fs b → ZW c sz (cont g fs).length (o, s) → GoodAt c sz R g fs (ovr b o ((bts s).take t)) := by
 rintro b o s n ⟨t, Y, rfl, O, M, a0, a1⟩ (⟨rfl, k, a4, Z⟩ | ⟨rfl, k, a4, Z⟩)
 ·rw [Z, zs_take]
  have V : (cont g fs ++ t).length = sz := by rw [List.length_append]; exact O
  have := lay_oth (c := c) (sz := sz) (o := 0) (X := cont g fs ++ t) (Y := Y) (R := R) (s := zs (min n k)) a2 V M (by rw [zs_len]; omega)
  rw [Nat.add_zero] at this
  rw [this]
  refine ⟨t, ovr Y 0 (zs (min n k)), rfl, O, by rw [ovr_len (by rw [zs_len]; omega)]; exact M, a0, ?_⟩
  rcases Nat.eq_zero_or_pos (min n k) with h0 | hp
  ·rw [h0]
   have : ovr Y 0 (zs 0) = Y := ovr_nil Y 0
   rw [this]; exact a1
  ·exact .inl (ovr_zero_ends (by omega) hp)
 ·rw [Z, zs_take]
  have V : (cont g fs ++ t).length = sz := by rw [List.length_append]; exact O
  have := lay_cur (c := c) (sz := sz) (o := (cont g fs).length) (X := cont g fs ++ t) (Y := Y) (R := R) (s := zs (min n k)) a2 V M (by rw [zs_len]; omega)
  rw [this]
  obtain ⟨t', e1, a3, a5⟩ := ovr_rest (A := cont g fs) (t := t) (k := min n k) (by omega) a0
  rw [e1]
  exact ⟨t', Y, rfl, by omega, M, a3, a1⟩
structure Clean (R : List UInt8) (m : JM) (d : DS) : Prop where
 ok : DOk d
 on : d.on = true
 pend : d.pend = []
 dur : d.dur = d.vis
 vis : d.vis = lay m.cu (cont m.gen m.fs ++ zs (m.sz - m.en)) (zs m.sz) R
 rest : R.length ≤ 1
 big : 64 ≤ d.vis.length
 en : m.en = (cont m.gen m.fs).length
 fit : m.en ≤ m.sz
 cu : m.cu ≤ 1
 gn : Gn m.gen m.fs
 br : m.br = false
theorem Clean.len {R : List UInt8} {m : JM} {d : DS} (h : Clean R m d) : d.vis.length = m.sz + m.sz + R.length := by
 have M := h.en; have O := h.fit
 rw [h.vis, lay_len, zs_len, List.length_append, zs_len]; omega
theorem numb_500 {fs : List Fct} (h : Numb fs 1) : fs.length ≤ 500 := by
 rcases h.len with h | h
 ·omega
 ·rw [h]; exact Nat.zero_le _
theorem Clean.mok {R : List UInt8} {m : JM} {d : DS} (h : Clean R m d) : MOk m :=
 ⟨h.fit, by have M := h.len; have O := h.ok.le; omega, h.cu, h.gn.numb.all, numb_500 h.gn.numb, by have M := h.gn.one; omega, h.gn.ok⟩
theorem Clean.coh {R : List UInt8} {m : JM} {d : DS} (h : Clean R m d) : Coh d := ⟨h.ok, by rw [h.pend, h.dur]; rfl⟩
theorem Clean.good {R : List UInt8} {m : JM} {d : DS} (h : Clean R m d) : Good m.sz R m.gen m.fs d.vis :=
 ⟨h.gn, m.cu, h.cu, zs (m.sz - m.en), zs m.sz, h.vis, by rw [zs_len, ← h.en]; have := h.fit; omega, zs_len _, zs_ends _, .inl (zs_ends _)⟩
def After (sz : Nat) (R : List UInt8) (n : Nat) (d : DS) (P : Int → List Fct → Prop) : Prop := DOk d ∧ d.vis.length = n ∧ ∀ x, Surv d.pend d.dur x → ∃ g fs, P g fs ∧ Good sz R g fs x
theorem run_clean {R : List UInt8} {m : JM} {d : DS} {a : List DOp} (h : Clean R m d) (a0 : ∀ o ∈ a ++ [DOp.sync], o.fits d.vis.length) {b : List UInt8} (Z : endOps (a ++ [.sync]) d.vis [] = (b, [])) :
  let r := runOps (a ++ [.sync]) d
  (r.1 = 0 ∧ DOk r.2 ∧ r.2.on = true ∧ r.2.pend = [] ∧ r.2.dur = r.2.vis ∧ r.2.vis = b ∧ r.2.vis.length = d.vis.length ∧ (d.cut = 0 → r.2.cut = 0)) ∨
  (r.1 = 231 ∧ DOk r.2 ∧ r.2.vis.length = d.vis.length ∧ (∀ x, Surv r.2.pend r.2.dur x → Img (a ++ [.sync]) d.vis [] x) ∧ d.cut ≠ 0) := by
 intro r
 have ro := runOps_out (a ++ [.sync]) d h.coh a0
 rcases ro.err with e | e
 ·refine .inl ⟨e, ro.coh.ok, runOps_on e, ?_, ?_, ?_, ro.len, fun V => (ro.pow h.on V).2.2⟩
  all_goals
   have M := ro.fin e
   rw [h.pend, h.dur, Z] at M
   simp only [Prod.mk.injEq] at M
  ·exact M.2
  ·have O := ro.coh.vis
   rw [M.2] at O
   exact O.symm
  ·have O := ro.coh.vis
   rw [M.2] at O
   exact O.trans M.1
 ·refine .inr ⟨e, ro.coh.ok, ro.len, fun x a1 => ?_, fun V => ?_⟩
  ·have := ro.img x a1
   rwa [h.pend, h.dur] at this
  ·have := (ro.pow h.on V).1
   rw [e] at this; exact absurd this (by decide)
theorem cutTail_sz (b : UInt8) (r : List UInt8) : (cutTail (ba (b :: r))).size = r.length := by rw [← bts_len, bts_tail]
theorem cutHead_sz (b : UInt8) (r : List UInt8) : (cutHead (ba (b :: r))).size = 1 := by rw [← bts_len, bts_head]; rfl
theorem safe_fits {off n : Nat} {r : List UInt8} (h : off + (r.length + 1) ≤ n) : ∀ o ∈ safeOps (off : Int) (ba (1 :: r)), o.fits n := by
 intro o M
 simp only [safeOps, List.mem_cons, List.not_mem_nil, or_false] at M
 rcases M with rfl | rfl | rfl | rfl
 ·show 0 ≤ (off : Int) + 1 ∧ (off : Int) + 1 + ((cutTail (ba (1 :: r))).size : Int) ≤ n
  rw [cutTail_sz]; omega
 ·trivial
 ·show 0 ≤ (off : Int) ∧ (off : Int) + ((cutHead (ba (1 :: r))).size : Int) ≤ n
  rw [cutHead_sz]; omega
 ·trivial
theorem flat_snoc (fs : List Fct) (f : Fct) : flat (fs ++ [f]) = flat fs ++ recL f := by simp
theorem cont_snoc (g : Int) (fs : List Fct) (f : Fct) : cont g (fs ++ [f]) = cont g fs ++ recL f := by rw [cont, flat_snoc, ← List.append_assoc]
inductive AppOut (R : List UInt8) (m : JM) (d : DS) (f : Fct) : Int × JM × DS → Prop
 | no (e : Int) (he : (e = 240 ∧ (f.ok = false ∨ f.n ≠ ((m.fs.length + 1 : Nat) : Int))) ∨ (e = 241 ∧ f.ok = true ∧ f.n = ((m.fs.length + 1 : Nat) : Int) ∧ m.sz - m.en < (recL f).length)) : AppOut R m d f (e, m, d)
 | yes (d' : DS) (hf : f.ok = true) (hn : f.n = ((m.fs.length + 1 : Nat) : Int)) (h : Clean R { m with fs := m.fs ++ [f], en := m.en + (recL f).length } d') (hl : d'.vis.length = d.vis.length) (hc : d.cut = 0 → d'.cut = 0) : AppOut R m d f (0, { m with fs := m.fs ++ [f], en := m.en + (recL f).length }, d')
 | pow (d' : DS) (hf : f.ok = true) (hc : d.cut ≠ 0) (h : After m.sz R d.vis.length d' fun g fs => g = m.gen ∧ (fs = m.fs ∨ fs = m.fs ++ [f])) : AppOut R m d f (231, { m with br := true }, d')
theorem append_out {R : List UInt8} {m : JM} {d : DS} (h : Clean R m d) (f : Fct) : AppOut R m d f (appendM m d f) := by
 have b3 := h.len; have b1 := h.fit; have V := h.cu
 rw [appendM, if_neg (by rw [h.br]; decide)]
 by_cases hok : f.ok = true
 ·rw [if_neg (by rw [hok]; decide)]
  by_cases hn : f.n = ((m.fs.length + 1 : Nat) : Int)
  ·rw [if_neg (by simpa using hn)]
   by_cases hr : m.sz - m.en < (recL f).length
   ·rw [if_pos hr]; exact .no 241 (.inr ⟨rfl, hok, hn, hr⟩)
   ·rw [if_neg hr]
    obtain ⟨r', O⟩ := recL_head f
    have a9 : (recL f).length = r'.length + 1 := by rw [O]; rfl
    have b0 : m.cu * m.sz ≤ 1 * m.sz := Nat.mul_le_mul_right _ V
    have hH : ∀ X o (s : List UInt8), X.length = m.sz → o + s.length ≤ m.sz → ovr ((fun X => lay m.cu X (zs m.sz) R) X) (m.cu * m.sz + o) s = (fun X => lay m.cu X (zs m.sz) R) (ovr X o s) := fun X o s a6 a7 => lay_cur V a6 (zs_len _) a7
    have a4 : (cont m.gen m.fs).length + (m.sz - m.en) = m.sz := by have := h.en; omega
    have a5 : m.cu * m.sz + m.en = m.cu * m.sz + (cont m.gen m.fs).length := by rw [← h.en]
    have a8 : safeOps ((m.cu * m.sz + m.en : Nat) : Int) (ba (recL f)) = [.write (((m.cu * m.sz + m.en : Nat) : Int) + 1) (cutTail (ba (recL f))), .sync, .write ((m.cu * m.sz + m.en : Nat) : Int) (cutHead (ba (recL f)))] ++ [.sync] := rfl
    have a2 : ∀ o ∈ safeOps ((m.cu * m.sz + m.en : Nat) : Int) (ba (recL f)), o.fits d.vis.length := by rw [O]; exact safe_fits (by omega)
    have a0 : Gn m.gen (m.fs ++ [f]) := ⟨h.gn.one, h.gn.ok, h.gn.numb.snoc hok (by rw [hn]; congr 1; omega)⟩
    have a1 : endOps (safeOps ((m.cu * m.sz + m.en : Nat) : Int) (ba (recL f))) d.vis [] = (lay m.cu (cont m.gen m.fs ++ recL f ++ zs (m.sz - m.en - (r'.length + 1))) (zs m.sz) R, []) := by
     have := safe_end hH (A := cont m.gen m.fs) (r' := r') (k := m.sz - m.en) (off := m.cu * m.sz + m.en) (more := []) a5 a4 (by omega)
     rw [List.append_nil, ← O, ← h.vis] at this
     exact this
    have a3 : ∀ x, Img (safeOps ((m.cu * m.sz + m.en : Nat) : Int) (ba (recL f))) d.vis [] x → ∃ g fs, (g = m.gen ∧ (fs = m.fs ∨ fs = m.fs ++ [f])) ∧ Good m.sz R g fs x := by
     intro x Z
     rw [h.vis, O] at Z
     have := safe_img hH (A := cont m.gen m.fs) (r' := r') (k := m.sz - m.en) (off := m.cu * m.sz + m.en) (more := []) a5 a4 (by omega) (x := x) (by rw [List.append_nil]; exact Z)
     rcases this with ⟨q, q1, q2, q3⟩ | hx2
     ·exact ⟨_, _, ⟨rfl, .inl rfl⟩, h.gn, m.cu, V, q, zs m.sz, q3, by omega, zs_len _, q1, .inl (zs_ends _)⟩
     ·have M := Surv.none hx2
      refine ⟨_, _, ⟨rfl, .inr rfl⟩, a0, m.cu, V, zs (m.sz - m.en - (r'.length + 1)), zs m.sz, ?_, ?_, zs_len _, zs_ends _, .inl (zs_ends _)⟩
      ·rw [M, cont_snoc, O]
      ·rw [cont_snoc, List.length_append, zs_len]; omega
    rw [a8] at a2 a1 a3 ⊢
    rcases run_clean h a2 a1 with ⟨e1, M, e3, e4, e5, e6, e7, e8⟩ | ⟨e1, M, e3, e4, e5⟩
    ·rw [if_pos e1]
     refine .yes _ hok hn ⟨M, e3, e4, e5, ?_, h.rest, by rw [e7]; exact h.big, ?_, by show m.en + (recL f).length ≤ m.sz; omega, V, a0, h.br⟩ e7 e8
     ·rw [e6]
      show _ = lay m.cu (cont m.gen (m.fs ++ [f]) ++ zs (m.sz - (m.en + (recL f).length))) (zs m.sz) R
      rw [cont_snoc, a9, Nat.sub_sub]
     ·show m.en + (recL f).length = (cont m.gen (m.fs ++ [f])).length
      rw [cont_snoc, List.length_append, h.en]
    ·rw [if_neg (by rw [e1]; decide), e1]
     exact .pow _ hok e5 ⟨M, e3, fun x Z => a3 x (e4 x Z)⟩
  ·rw [if_pos hn]; exact .no 240 (.inl ⟨rfl, .inr hn⟩)
 ·rw [if_pos (by simpa using hok)]; exact .no 240 (.inl ⟨rfl, .inl (by simpa using hok)⟩)
abbrev chkJ (m : JM) : JM := { gen := m.gen + 1, fs := redJ m.fs, en := (cont (m.gen + 1) (redJ m.fs)).length, sz := m.sz, cu := 1 - m.cu, br := m.br }
inductive ChkOut (R : List UInt8) (m : JM) (d : DS) : Int × JM × DS → Prop
 | no (he : 4611686018427387903 ≤ m.gen ∨ m.sz < (cont (m.gen + 1) (redJ m.fs)).length) : ChkOut R m d (241, m, d)
 | yes (d' : DS) (h : Clean R (chkJ m) d') (hl : d'.vis.length = d.vis.length) (hc : d.cut = 0 → d'.cut = 0) : ChkOut R m d (0, chkJ m, d')
 | pow (d' : DS) (hc : d.cut ≠ 0) (h : After m.sz R d.vis.length d' fun g fs => (g = m.gen ∧ fs = m.fs) ∨ (g = m.gen + 1 ∧ fs = redJ m.fs)) : ChkOut R m d (231, { m with br := true }, d')
theorem check_out {R : List UInt8} {m : JM} {d : DS} (h : Clean R m d) : ChkOut R m d (checkM m d) := by
 have c5 := h.len; have c2 := h.fit; have M := h.cu; have c4 := h.gn.ok; have c3 := h.gn.one
 rw [checkM, if_neg (by rw [h.br]; decide)]
 by_cases hg : 4611686018427387903 ≤ m.gen
 ·rw [if_pos hg]; exact .no (.inl hg)
 ·rw [if_neg hg]
  by_cases hbig : m.sz < (cont (m.gen + 1) (redJ m.fs)).length
  ·rw [if_pos hbig]; exact .no (.inr hbig)
  ·rw [if_neg hbig]
   obtain ⟨r', V⟩ : ∃ r', cont (m.gen + 1) (redJ m.fs) = 1 :: r' := ⟨_, by rw [cont, headL, frm]; rfl⟩
   have b6 : (cont (m.gen + 1) (redJ m.fs)).length = r'.length + 1 := by rw [V]; rfl
   have a3 : Gn (m.gen + 1) (redJ m.fs) := ⟨by omega, by omega, h.gn.numb.red⟩
   have b8 : (1 - m.cu) * m.sz ≤ 1 * m.sz := Nat.mul_le_mul_right _ (by omega)
   have b9 : m.cu * m.sz ≤ 1 * m.sz := Nat.mul_le_mul_right _ M
   have Z : (cont m.gen m.fs ++ zs (m.sz - m.en)).length = m.sz := by rw [List.length_append, zs_len, ← h.en]; omega
   have hH : ∀ X o (s : List UInt8), X.length = m.sz → o + s.length ≤ m.sz → ovr ((fun Y => lay m.cu (cont m.gen m.fs ++ zs (m.sz - m.en)) Y R) X) ((1 - m.cu) * m.sz + o) s = (fun Y => lay m.cu (cont m.gen m.fs ++ zs (m.sz - m.en)) Y R) (ovr X o s) := fun X o s a8 b0 => lay_oth M Z a8 b0
   have a1 : checkOps m = safeOps (((1 - m.cu) * m.sz : Nat) : Int) (ba (1 :: r')) ++ [.write ((m.cu * m.sz : Nat) : Int) (ba (zs m.sz)), .sync] := by rw [checkOps, V]; rfl
   have b4 : checkOps m = [.write (((1 - m.cu) * m.sz : Nat) + 1 : Int) (cutTail (ba (cont (m.gen + 1) (redJ m.fs)))), .sync, .write (((1 - m.cu) * m.sz : Nat) : Int) (cutHead (ba (cont (m.gen + 1) (redJ m.fs)))), .sync, .write ((m.cu * m.sz : Nat) : Int) (ba (zs m.sz))] ++ [.sync] := rfl
   have b7 : (ba (zs m.sz)).size = m.sz := by rw [ba_size (zs m.sz), zs_len]
   have a6 : ∀ o ∈ checkOps m, o.fits d.vis.length := by
    rw [a1]
    intro o O
    rcases List.mem_append.1 O with O | O
    ·exact safe_fits (by omega) o O
    ·simp only [List.mem_cons, List.not_mem_nil, or_false] at O
     rcases O with rfl | rfl
     ·show 0 ≤ ((m.cu * m.sz : Nat) : Int) ∧ ((m.cu * m.sz : Nat) : Int) + ((ba (zs m.sz)).size : Int) ≤ _
      rw [b7]; omega
     ·trivial
   have a2 := safe_end hH (A := []) (r' := r') (k := m.sz) (off := (1 - m.cu) * m.sz) (more := [.write ((m.cu * m.sz : Nat) : Int) (ba (zs m.sz)), .sync]) (by simp) (by simp) (by omega)
   simp only [List.nil_append] at a2
   rw [← V, ← h.vis] at a2
   have a9 : 1 - (1 - m.cu) = m.cu := by omega
   have a4 : bts (ba (zs m.sz)) = zs m.sz := bts_mk _
   have b1 : (cont (m.gen + 1) (redJ m.fs) ++ zs (m.sz - (r'.length + 1))).length = m.sz := by rw [List.length_append, zs_len]; omega
   have b3 : ovr (lay m.cu (cont m.gen m.fs ++ zs (m.sz - m.en)) (cont (m.gen + 1) (redJ m.fs) ++ zs (m.sz - (r'.length + 1))) R) (m.cu * m.sz) (zs m.sz) = lay (1 - m.cu) (cont (m.gen + 1) (redJ m.fs) ++ zs (m.sz - (r'.length + 1))) (zs m.sz) R := by
    have := lay_cur (c := m.cu) (sz := m.sz) (o := 0) (X := cont m.gen m.fs ++ zs (m.sz - m.en)) (Y := cont (m.gen + 1) (redJ m.fs) ++ zs (m.sz - (r'.length + 1))) (R := R) (s := zs m.sz) M Z b1 (by rw [zs_len]; omega)
    exact this.trans (by rw [ovr_zero_full Z, lay_swap M])
   have a5 : endOps (checkOps m) d.vis [] = (lay (1 - m.cu) (cont (m.gen + 1) (redJ m.fs) ++ zs (m.sz - (r'.length + 1))) (zs m.sz) R, []) := by
    rw [a1, ← V, a2]
    simp only [endOps, appl, List.nil_append, Int.toNat_natCast, a4, b3]
   have a7 : ∀ x, Img (checkOps m) d.vis [] x → ∃ g fs, ((g = m.gen ∧ fs = m.fs) ∨ (g = m.gen + 1 ∧ fs = redJ m.fs)) ∧ Good m.sz R g fs x := by
    intro x a0
    rw [h.vis, a1] at a0
    have := safe_img hH (A := []) (r' := r') (k := m.sz) (off := (1 - m.cu) * m.sz) (more := [.write ((m.cu * m.sz : Nat) : Int) (ba (zs m.sz)), .sync]) (by simp) (by simp) (by omega) (x := x) (by simpa using a0)
    rcases this with ⟨q, q1, q2, q3⟩ | hx2
    ·exact ⟨_, _, .inl ⟨rfl, rfl⟩, h.gn, m.cu, M, zs (m.sz - m.en), q, q3, by rw [zs_len, ← h.en]; omega, q2, zs_ends _, .inl q1⟩
    ·refine ⟨_, _, .inr ⟨rfl, rfl⟩, a3, 1 - m.cu, by omega, ?_⟩
     rw [List.nil_append, ← V] at hx2
     refine img_inv (good_step (c := 1 - m.cu) (sz := m.sz) (R := R) (g := m.gen + 1) (fs := redJ m.fs) (by omega)) hx2 (fun o s hm => ?_) ?_ (fun q b5 => by cases b5)
     ·simp only [List.mem_cons, List.not_mem_nil, or_false, DOp.write.injEq, reduceCtorEq] at hm
      obtain ⟨rfl, rfl⟩ := hm
      exact .inl ⟨by rw [a9]; rfl, m.sz, Nat.le_refl _, a4⟩
     ·refine ⟨zs (m.sz - (r'.length + 1)), cont m.gen m.fs ++ zs (m.sz - m.en), by rw [lay_swap M], by rw [zs_len]; omega, Z, zs_ends _, .inr ⟨m.fs, zs (m.sz - m.en), ?_, ?_, zs_ends _⟩⟩
      ·rw [show m.gen + 1 - 1 = m.gen by omega]; exact h.gn
      ·rw [show m.gen + 1 - 1 = m.gen by omega]
   rw [b4] at a6 a5 a7 ⊢
   rcases run_clean h a6 a5 with ⟨e1, e2, e3, e4, e5, e6, e7, e8⟩ | ⟨e1, e2, e3, e4, e5⟩
   ·rw [if_pos e1]
    refine .yes _ ⟨e2, e3, e4, e5, ?_, h.rest, by rw [e7]; exact h.big, rfl, by show (cont (m.gen + 1) (redJ m.fs)).length ≤ m.sz; omega, by show 1 - m.cu ≤ 1; omega, a3, h.br⟩ e7 e8
    rw [e6]
    show _ = lay (1 - m.cu) (cont (m.gen + 1) (redJ m.fs) ++ zs (m.sz - (cont (m.gen + 1) (redJ m.fs)).length)) (zs m.sz) R
    rw [b6]
   ·rw [if_neg (by rw [e1]; decide), e1]
    exact .pow _ e5 ⟨e2, e3, fun x a0 => a7 x (e4 x a0)⟩
theorem all_zero {l : List UInt8} (h : l.all (fun b => b == 0) = true) : l = zs l.length := by
 refine List.eq_replicate_iff.2 ⟨rfl, fun b M => ?_⟩
 simpa using List.all_eq_true.1 h b M
theorem dirty_cases (k sz fr : Nat) (M : List UInt8) : (dirtyOp k sz fr M = [] ∧ M.drop fr = zs (M.length - fr)) ∨ dirtyOp k sz fr M = [.write ((k * sz + fr : Nat) : Int) (ba (zs (M.length - fr)))] := by
 unfold dirtyOp
 split
 ·next h =>
  have := all_zero h
  rw [List.length_drop] at this
  exact .inl ⟨rfl, this⟩
 ·exact .inr rfl
theorem zs_clean (k sz fr n : Nat) : dirtyOp k sz fr (zs n) = [] := by
 unfold dirtyOp
 rw [if_pos]
 rw [zs_drop, List.all_eq_true]
 intro b M
 simp [List.eq_of_mem_replicate M]
theorem img_lay {c : Nat} {X Y R : List UInt8} {d : DS} {sz : Nat} (a3 : c ≤ 1) (Z : d.vis = lay c X Y R) (M : X.length = sz) (O : Y.length = sz) (a2 : R.length ≤ 1) : d.vis.length / 2 = sz ∧ img0 d = (if c = 0 then X else Y) ∧ img1 d = (if c = 0 then Y else X) := by
 have V : d.vis.length / 2 = sz := by rw [Z, lay_len]; omega
 have key : ∀ A B : List UInt8, A.length = sz → B.length = sz → (A ++ B ++ R).take sz = A ∧ ((A ++ B ++ R).drop sz).take sz = B := by
  intro A B a0 a1
  rw [List.append_assoc, ← a0, List.take_left, List.drop_left, a0, ← a1, List.take_left]
  exact ⟨rfl, rfl⟩
 refine ⟨V, ?_, ?_⟩
 ·rw [img0, V, Z]; unfold lay; split
  ·exact (key X Y M O).1
  ·exact (key Y X O M).1
 ·rw [img1, V, Z]; unfold lay; split
  ·exact (key X Y M O).2
  ·exact (key Y X O M).2
theorem oth_half {g : Int} {Y : List UInt8} (h : Oth g Y) : ∃ M O e', halfR Y = some (M, O, e') ∧ (M = 0 ∨ (M = g - 1 ∧ 1 ≤ M)) := by
 rcases h with h | ⟨O, t, h1, h2, h3⟩
 ·exact ⟨0, [], 0, halfR_ends h, .inl rfl⟩
 ·exact ⟨g - 1, O, _, by rw [h2]; exact halfR_fwd h1.okInt h1.one h1.numb h3, .inr ⟨rfl, h1.one⟩⟩
theorem openM_eq {c sz : Nat} {R : List UInt8} {g : Int} {fs : List Fct} {t Y : List UInt8} {d : DS} (a5 : c ≤ 1) (b0 : d.vis = lay c (cont g fs ++ t) Y R) (b1 : (cont g fs).length + t.length = sz) (b3 : Y.length = sz) (a9 : Ends t) (a6 : Oth g Y) (M : Gn g fs) (a3 : R.length ≤ 1) (b5 : 64 ≤ d.vis.length) (a7 : d.on = true) :
  openM d = openRun (img0 d) (img1 d) ⟨g, fs, (cont g fs).length, sz, c, false⟩ d ∧ openOps (img0 d) (img1 d) ⟨g, fs, (cont g fs).length, sz, c, false⟩ = syncIf (dirtyOp (1 - c) sz 0 Y ++ dirtyOp c sz (cont g fs).length (cont g fs ++ t)) := by
 have a4 : (cont g fs ++ t).length = sz := by rw [List.length_append]; exact b1
 obtain ⟨a8, e0, e1⟩ := img_lay a5 b0 a4 b3 a3
 have a2 := halfR_fwd M.okInt M.one M.numb a9
 obtain ⟨a0, Z, e', a1, b4⟩ := oth_half a6
 have b6 := M.one
 have O : ¬ g = 0 := by omega
 rw [openM, if_neg (by omega), if_neg (by rw [a7]; decide), a8]
 rcases (by omega : c = 0 ∨ c = 1) with rfl | rfl
 ·rw [if_pos rfl] at e0 e1
  rw [e0, e1, a2, a1]
  refine ⟨?_, ?_⟩
  ·simp only
   rw [if_neg (fun h => by omega)]
   have V : openJ sz (g, fs, (cont g fs).length) (a0, Z, e') = ⟨g, fs, (cont g fs).length, sz, 0, false⟩ := if_neg (by simp only; omega)
   rw [V]
  ·rw [openOps, if_neg O, cleanOps]
   simp only [if_pos]
   rw [if_neg O]
 ·rw [if_neg (by decide)] at e0 e1
  rw [e0, e1, a2, a1]
  refine ⟨?_, ?_⟩
  ·simp only
   rw [if_neg (fun h => by omega)]
   have V : openJ sz (a0, Z, e') (g, fs, (cont g fs).length) = ⟨g, fs, (cont g fs).length, sz, 1, false⟩ := if_pos (by simp only; omega)
   rw [V]
  ·rw [openOps, if_neg O, cleanOps]
   simp only
   rw [if_neg (by decide)]
theorem openOps_lay {c sz : Nat} {Y X : List UInt8} {e : Nat} (O : Y.length = sz) (M : X.length = sz) :
  ∀ o s, DOp.write o s ∈ syncIf (dirtyOp (1 - c) sz 0 Y ++ dirtyOp c sz e X) → (o = (((1 - c) * sz + 0 : Nat) : Int) ∧ bts s = zs sz) ∨ (o = ((c * sz + e : Nat) : Int) ∧ bts s = zs (sz - e)) := by
 intro o s h
 have h : DOp.write o s ∈ dirtyOp (1 - c) sz 0 Y ++ dirtyOp c sz e X := by
  unfold syncIf at h
  split at h
  ·cases h
  ·rcases List.mem_append.1 h with h | h
   ·exact h
   ·simp at h
 rcases List.mem_append.1 h with h | h
 ·rcases dirty_cases (1 - c) sz 0 Y with ⟨e1, _⟩ | e1
  ·rw [e1] at h; cases h
  ·rw [e1] at h
   simp only [List.mem_singleton, DOp.write.injEq] at h
   obtain ⟨rfl, rfl⟩ := h
   exact .inl ⟨rfl, by rw [bts_mk, O]; rfl⟩
 ·rcases dirty_cases c sz e X with ⟨e1, _⟩ | e1
  ·rw [e1] at h; cases h
  ·rw [e1] at h
   simp only [List.mem_singleton, DOp.write.injEq] at h
   obtain ⟨rfl, rfl⟩ := h
   exact .inr ⟨rfl, by rw [bts_mk, M]⟩
theorem ovr_tail {A t : List UInt8} {k : Nat} (h : t.length = k) : ovr (A ++ t) A.length (zs k) = A ++ zs k := by
 have := ovr_app (A := A) (t := t) (s := zs k) (o := 0) (by rw [zs_len]; omega)
 exact this.trans (by rw [ovr_zero_full h])
theorem open_final {c sz : Nat} {R A t Y : List UInt8} (a0 : c ≤ 1) (a3 : A.length + t.length = sz) (M : Y.length = sz) :
  endOps (syncIf (dirtyOp (1 - c) sz 0 Y ++ dirtyOp c sz A.length (A ++ t))) (lay c (A ++ t) Y R) [] = (lay c (A ++ zs t.length) (zs sz) R, []) := by
 have Z : (A ++ t).length = sz := by rw [List.length_append]; exact a3
 have a1 : (A ++ t).drop A.length = t := List.drop_left
 have V : (A ++ t).length - A.length = t.length := by omega
 have o1 : ovr (lay c (A ++ t) Y R) ((1 - c) * sz) (zs sz) = lay c (A ++ t) (zs sz) R := by
  have := lay_oth (c := c) (sz := sz) (o := 0) (X := A ++ t) (Y := Y) (R := R) (s := zs sz) a0 Z M (by rw [zs_len]; omega)
  exact this.trans (by rw [ovr_zero_full M])
 have a2 : ∀ O : List UInt8, O.length = sz → ovr (lay c (A ++ t) O R) (c * sz + A.length) (zs t.length) = lay c (A ++ zs t.length) O R := by
  intro O a4
  have := lay_cur (c := c) (sz := sz) (o := A.length) (X := A ++ t) (Y := O) (R := R) (s := zs t.length) a0 Z a4 (by rw [zs_len]; omega)
  exact this.trans (by rw [ovr_tail rfl])
 rcases dirty_cases (1 - c) sz 0 Y with ⟨e1, f1⟩ | e1 <;> rcases dirty_cases c sz A.length (A ++ t) with ⟨e2, f2⟩ | e2
 ·rw [e1, e2]
  rw [List.drop_zero, Nat.sub_zero, M] at f1
  rw [a1, V] at f2
  show ((lay c (A ++ t) Y R), []) = _
  rw [f1, ← f2]
 ·rw [e1, e2, V]
  rw [List.drop_zero, Nat.sub_zero, M] at f1
  show (ovr (lay c (A ++ t) Y R) (((c * sz + A.length : Nat) : Int)).toNat (bts (ba (zs t.length))), []) = _
  rw [Int.toNat_natCast, bts_mk, a2 Y M, ← f1]
 ·rw [e1, e2, M]
  rw [a1, V] at f2
  show (ovr (lay c (A ++ t) Y R) ((((1 - c) * sz + 0 : Nat) : Int)).toNat (bts (ba (zs (sz - 0)))), []) = _
  rw [Int.toNat_natCast, bts_mk, Nat.sub_zero, Nat.add_zero, o1, ← f2]
 ·rw [e1, e2, V, M]
  show (ovr (ovr (lay c (A ++ t) Y R) ((((1 - c) * sz + 0 : Nat) : Int)).toNat (bts (ba (zs (sz - 0))))) (((c * sz + A.length : Nat) : Int)).toNat (bts (ba (zs t.length))), []) = _
  rw [Int.toNat_natCast, Int.toNat_natCast, bts_mk, bts_mk, Nat.sub_zero, Nat.add_zero, o1, a2 _ (zs_len _)]
inductive OpnOut (sz : Nat) (R : List UInt8) (g : Int) (fs : List Fct) (d : DS) : Int × Option JM × DS → Prop
 | yes (m : JM) (d' : DS) (h : Clean R m d') (hg : m.gen = g) (hf : m.fs = fs) (hz : m.sz = sz) (hl : d'.vis.length = d.vis.length) (hc : d.cut = 0 → d'.cut = 0) : OpnOut sz R g fs d (0, some m, d')
 | pow (d' : DS) (hc : d.cut ≠ 0) (h : After sz R d.vis.length d' fun g' fs' => g' = g ∧ fs' = fs) : OpnOut sz R g fs d (231, none, d')
theorem open_out {sz : Nat} {R : List UInt8} {g : Int} {fs : List Fct} {d : DS} (h : Good sz R g fs d.vis) (b6 : DOk d) (a4 : d.on = true) (hp : d.pend = []) (a2 : d.dur = d.vis) (b0 : R.length ≤ 1) (c8 : 64 ≤ d.vis.length) : OpnOut sz R g fs d (openM d) := by
 obtain ⟨a3, c, V, t, Y, a6, Z, a1, b8, b5⟩ := h
 obtain ⟨e1, c7⟩ := openM_eq V a6 Z a1 b8 b5 a3 b0 c8 a4
 have b1 : (cont g fs ++ t).length = sz := by rw [List.length_append]; exact Z
 have d7 : d.vis.length = sz + sz + R.length := by rw [a6, lay_len, b1, a1]
 have b9 := openOps_lay (c := c) (e := (cont g fs).length) a1 b1
 have d5 : (1 - c) * sz ≤ 1 * sz := Nat.mul_le_mul_right _ (by omega)
 have d6 : c * sz ≤ 1 * sz := Nat.mul_le_mul_right _ V
 have b3 : ∀ o ∈ syncIf (dirtyOp (1 - c) sz 0 Y ++ dirtyOp c sz (cont g fs).length (cont g fs ++ t)), o.fits d.vis.length := by
  intro o hm
  cases o with
  | sync => trivial
  | write off s =>
   have a5 : s.size = (bts s).length := (bts_len s).symm
   rcases b9 off s hm with ⟨rfl, q⟩ | ⟨rfl, q⟩
   ·rw [q, zs_len] at a5
    show 0 ≤ _ ∧ _ ≤ _
    rw [a5]; omega
   ·rw [q, zs_len] at a5
    show 0 ≤ _ ∧ _ ≤ _
    rw [a5]; omega
 have O := open_final (R := R) V Z a1
 rw [e1, openRun, c7]
 have b4 : ∀ x, Img (syncIf (dirtyOp (1 - c) sz 0 Y ++ dirtyOp c sz (cont g fs).length (cont g fs ++ t))) d.vis [] x → Good sz R g fs x := by
  intro x d3
  refine ⟨a3, c, V, img_inv (good_step (sz := sz) (R := R) (g := g) (fs := fs) V) d3 (fun o s hm => ?_) ⟨t, Y, a6, Z, a1, b8, b5⟩ fun q d0 => by cases d0⟩
  rcases b9 o s hm with ⟨rfl, q⟩ | ⟨rfl, q⟩
  ·exact .inl ⟨rfl, sz, Nat.le_refl _, q⟩
  ·exact .inr ⟨rfl, sz - (cont g fs).length, by omega, q⟩
 have c9 : openF ⟨g, fs, (cont g fs).length, sz, c, false⟩ = ⟨g, fs, (cont g fs).length, sz, c, false⟩ := if_neg (by have := a3.one; show ¬ g = 0; omega)
 rw [c9]
 have a9 : ∀ M : DS, DOk M → M.on = true → M.pend = [] → M.dur = M.vis → M.vis = lay c (cont g fs ++ zs t.length) (zs sz) R → M.vis.length = d.vis.length → Clean R ⟨g, fs, (cont g fs).length, sz, c, false⟩ M := by
  intro M c2 c3 c4 c5 c6 d4
  refine ⟨c2, c3, c4, c5, ?_, b0, by omega, rfl, by show (cont g fs).length ≤ sz; omega, V, a3, rfl⟩
  rw [c6]
  show _ = lay c (cont g fs ++ zs (sz - (cont g fs).length)) (zs sz) R
  rw [show sz - (cont g fs).length = t.length by omega]
 rw [← a6] at O
 cases hl : dirtyOp (1 - c) sz 0 Y ++ dirtyOp c sz (cont g fs).length (cont g fs ++ t) with
 | nil =>
  rw [hl] at O
  have d2 : syncIf [] = [] := rfl
  rw [d2] at O ⊢
  have d1 : runOps [] d = (0, d) := rfl
  rw [d1, if_pos rfl]
  simp only [endOps, Prod.mk.injEq] at O
  exact .yes _ d (a9 d b6 a4 hp a2 O.1 rfl) rfl rfl rfl rfl id
 | cons a r =>
  have b7 : syncIf (a :: r) = (a :: r) ++ [.sync] := rfl
  rw [hl, b7] at b3 O b4
  rw [b7]
  have ro := runOps_out ((a :: r) ++ [.sync]) d ⟨b6, by rw [hp, a2]; rfl⟩ b3
  rcases ro.err with e | e
  ·rw [if_pos e]
   have a0 := ro.fin e
   rw [hp, a2, O] at a0
   simp only [Prod.mk.injEq] at a0
   have a8 := ro.coh.vis
   rw [a0.2] at a8
   exact .yes _ _ (a9 _ ro.coh.ok (runOps_on e) a0.2 a8.symm (a8.trans a0.1) ro.len) rfl rfl rfl ro.len fun a7 => (ro.pow a4 a7).2.2
  ·rw [if_neg (by rw [e]; decide), e]
   refine .pow _ (fun a7 => ?_) ⟨ro.coh.ok, ro.len, fun x Z => ⟨g, fs, ⟨rfl, rfl⟩, b4 x ?_⟩⟩
   ·have := (ro.pow a4 a7).1
    rw [e] at this; exact absurd this (by decide)
   ·have := ro.img x Z
    rwa [hp, a2] at this
theorem syncIf_nil : syncIf [] = [] := rfl
theorem dirty_rest (k sz : Nat) (A : List UInt8) (n : Nat) : dirtyOp k sz A.length (A ++ zs n) = [] := by
 unfold dirtyOp
 rw [if_pos]
 rw [List.drop_left, List.all_eq_true]
 intro b M
 simp [List.eq_of_mem_replicate M]
theorem openM_clean {R : List UInt8} {m : JM} {d : DS} (h : Clean R m d) : openM d = (0, some m, d) := by
 have a0 := h.fit; have Z := h.en
 obtain ⟨e1, M⟩ := openM_eq (sz := m.sz) h.cu h.vis (by rw [zs_len]; omega) (zs_len _) (zs_ends _) (.inl (zs_ends _)) h.gn h.rest h.big h.on
 rw [zs_clean, dirty_rest, List.append_nil, syncIf_nil] at M
 rw [e1, openRun, M]
 have V : runOps [] d = (0, d) := rfl
 rw [V, if_pos rfl]
 have O : openF ⟨m.gen, m.fs, (cont m.gen m.fs).length, m.sz, m.cu, false⟩ = m := by
  rw [openF, if_neg (by have := h.gn.one; show ¬ m.gen = 0; omega), ← h.en, ← h.br]
 rw [O]
theorem openM_new {d : DS} (b3 : DOk d) (a2 : d.on = true) (a8 : d.cut = 0) (hp : d.pend = []) (a0 : d.dur = d.vis) (b6 : d.vis = zs d.vis.length) (a7 : 64 ≤ d.vis.length) :
  ∃ O, openM d = (0, some ⟨1, [], (headL 1).length, d.vis.length / 2, 0, false⟩, O) ∧ Clean (zs (d.vis.length % 2)) ⟨1, [], (headL 1).length, d.vis.length / 2, 0, false⟩ O ∧ O.cut = 0 ∧ O.vis.length = d.vis.length := by
 have b5 : d.vis.length / 2 + d.vis.length / 2 + d.vis.length % 2 = d.vis.length := by omega
 generalize hn : d.vis.length / 2 = sz at *
 generalize hr : d.vis.length % 2 = r at *
 have a3 : r ≤ 1 := by omega
 have a1 : d.vis = lay 0 (zs sz) (zs sz) (zs r) := by
  rw [b6]; unfold lay; rw [if_pos rfl, zs_append, zs_append, b5]
 obtain ⟨a6, e0, e1⟩ := img_lay (c := 0) (by omega) a1 (zs_len _) (zs_len _) (by rw [zs_len]; exact a3)
 rw [if_pos rfl] at e0 e1
 have c3 := headL_len 1
 have b1 : halfR (zs sz) = some (0, [], 0) := halfR_ends (zs_ends _)
 obtain ⟨r', V⟩ : ∃ r', headL 1 = 1 :: r' := ⟨_, by rw [headL, frm]⟩
 have b4 : (headL 1).length = r'.length + 1 := by rw [V]; rfl
 have a4 : openM d = openRun (zs sz) (zs sz) ⟨0, [], 0, sz, 0, false⟩ d := by
  rw [openM, if_neg (by omega), if_neg (by rw [a2]; decide), e0, e1, b1]
  simp only
  rw [if_neg (by decide), a6]
  rfl
 have a5 : openOps (zs sz) (zs sz) ⟨0, [], 0, sz, 0, false⟩ = safeOps 0 (ba (headL 1)) := by
  rw [openOps, if_pos rfl, cleanOps, if_pos rfl, if_pos rfl, zs_clean, zs_clean]; rfl
 have b0 : ∀ o ∈ safeOps 0 (ba (headL 1)), o.fits d.vis.length := by
  rw [V]; exact safe_fits (off := 0) (by omega)
 have ro := runOps_out (safeOps 0 (ba (headL 1))) d ⟨b3, by rw [hp, a0]; rfl⟩ b0
 obtain ⟨p1, b7, b8⟩ := ro.pow a2 a8
 have hH : ∀ X o (s : List UInt8), X.length = sz → o + s.length ≤ sz → ovr ((fun X => lay 0 X (zs sz) (zs r)) X) (0 * sz + o) s = (fun X => lay 0 X (zs sz) (zs r)) (ovr X o s) := fun X o s b9 c2 => lay_cur (by omega) b9 (zs_len _) c2
 have a9 : endOps (safeOps 0 (ba (headL 1))) d.vis [] = (lay 0 (headL 1 ++ zs (sz - (headL 1).length)) (zs sz) (zs r), []) := by
  have := safe_end hH (A := []) (r' := r') (k := sz) (off := 0) (more := []) (by simp) (by simp) (by omega)
  simp only [List.nil_append, List.append_nil] at this
  rw [← V, ← a1, ← b4] at this
  exact this
 have M := ro.fin p1
 rw [hp, a0, a9] at M
 simp only [Prod.mk.injEq] at M
 have Z := ro.coh.vis
 rw [M.2] at Z
 refine ⟨_, ?_, ⟨ro.coh.ok, b7, M.2, Z.symm, ?_, by rw [zs_len]; exact a3, by rw [ro.len]; exact a7, ?_, by show (headL 1).length ≤ sz; omega, by show 0 ≤ 1; omega, ⟨by show (1 : Int) ≤ 1; omega, by show (1 : Int) ≤ _; omega, trivial⟩, rfl⟩, b8, ro.len⟩
 ·rw [a4, openRun, a5, if_pos p1]; rfl
 ·have := Z.trans M.1
  rw [this]
  show _ = lay 0 (cont 1 [] ++ zs (sz - (headL 1).length)) (zs sz) (zs r)
  have : cont 1 [] = headL 1 := List.append_nil _
  rw [this]
 ·show (headL 1).length = (cont 1 []).length
  have : cont 1 [] = headL 1 := List.append_nil _
  rw [this]
theorem crash_good {sz : Nat} {R : List UInt8} {n : Nat} {d : DS} {P : Int → List Fct → Prop} (h : After sz R n d P) (keep : List Int) (torn : Int) : ∃ g fs, P g fs ∧ Good sz R g fs (d.crash keep torn).vis := h.2.2 _ (crash_surv d keep torn)
theorem After.of_clean {R : List UInt8} {m : JM} {d : DS} (h : Clean R m d) : After m.sz R d.vis.length d fun g fs => g = m.gen ∧ fs = m.fs :=
 ⟨h.ok, rfl, fun x M => ⟨_, _, ⟨rfl, rfl⟩, by
  rw [h.pend] at M
  rw [M.none, h.dur]
  exact h.good⟩⟩
theorem After.mono {sz : Nat} {R : List UInt8} {n : Nat} {d : DS} {P Q : Int → List Fct → Prop} (h : After sz R n d P) (V : ∀ g fs, P g fs → Q g fs) : After sz R n d Q :=
 ⟨h.1, h.2.1, fun x Z => by
  obtain ⟨g, fs, M, O⟩ := h.2.2 x Z
  exact ⟨g, fs, V g fs M, O⟩⟩
theorem pq1 {x : Nat × Obj} {X L F T : SHeap} (h : L.Perm (x :: (F ++ T))) : (X ++ L).Perm (x :: (F ++ (X ++ T))) := perm_of fun c w M O V Z => by
 have := Z _ _ h
 simp only [M, O, V] at this ⊢; omega
theorem JD.more {JB D : Nat} {m : JM} {d : DS} {L : SHeap} (h : JD JB D m d L) (X : SHeap) : JD JB D m d (X ++ L) := by
 obtain ⟨F, p, c, T, M, O, V⟩ := h
 exact ⟨F, p, c, X ++ T, pq1 M, O, V.more X⟩
theorem pq9 {x : Nat × Obj} {N L F T : SHeap} (h : L.Perm (x :: (F ++ T))) : (N ++ L).Perm (F ++ (N ++ x :: T)) := perm_of fun c w M O V Z => by
 have := Z _ _ h
 simp only [M, O, V] at this ⊢; omega
theorem pq10 {x : Nat × Obj} {X N F T : SHeap} : (F ++ (X ++ (N ++ x :: T))).Perm (x :: (F ++ ((X ++ N) ++ T))) := perm_a
theorem JD.re {JB D : Nat} {m : JM} {M : DS} {F' X N T : SHeap} {p : OA} {c : Nat} (h : DRep D M F') (O : FRow noLk m.fs p c T) : JD JB D m M (F' ++ (X ++ (N ++ jH JB D (m.js p c) :: T))) :=
 ⟨F', p, c, (X ++ N) ++ T, pq10, h, O.more _⟩
theorem FRow.within {fs : List Fct} {p : OA} {c : Nat} {N L : SHeap} (h : FRow noLk fs p c N) (O : ∀ x ∈ N, x ∈ L) : FctsL (lkF L) p fs := h.fcts.mono fun b c M => lkF_mono O b c (lkU_no b c M)
theorem preOf {told F : SHeap} {w0 W : World} (hm : Mem (told ++ F) [] w0 W) (M : blkW w0 0 = some tabV) : APre (lkW w0) (F.map (·.1)) W :=
 ⟨lkX_of hm 0 tabV (.inr M), fun b c h => lkX_of hm b c (.inr h)⟩
section calls
variable {w0 : World} {JB D : Nat} {m : JM} {d : DS} {F N L : SHeap} {K : Value → SHeap → Prop} (told : SHeap)
theorem pq4 {told F N L : SHeap} (h : F.Perm (N ++ L)) : (L ++ (told ++ N)).Perm (told ++ F) := perm_of fun c w M O V Z => by
 have := Z _ _ h
 simp only [M, O, V] at this ⊢; omega
theorem pq5 {told N L : SHeap} : (L ++ (told ++ N)).Perm (told ++ (N ++ L)) := pq4 (List.Perm.refl _)
theorem preOfN {W : World} (M : F.Perm (N ++ L)) (hm : Mem (told ++ F) [] w0 W) (O : blkW w0 0 = some tabV) : APre (lkW w0) (L.map (·.1)) W := by
 have : Mem ((told ++ N) ++ L) [] w0 W := hm.perm (by rw [List.append_assoc]; exact (M.append_left told).symm)
 exact preOf this O
theorem CallH.app {f : Fct} {tp bp ap : OA} {tc bc ac : Nat} (M : F.Perm (N ++ L)) (h : JD JB D m d L) (hm : MOk m) (hp : d.pend.length < 900000) (Z : blkW w0 0 = some tabV) (V : FAt (lkW w0) f tp tc bp bc ap ac)
  (O : ∀ L', JD JB D (appendM m d f).2.1 (appendM m d f).2.2 L' → K (.int .i64 (appendM m d f).1) (told ++ (N ++ L'))) :
  CallH TP 16 ⟨[pt JB 0, .agg ⟨f.cells tp tc bp bc ap ac⟩]⟩ (told ++ F) [] w0 K :=
 CallH.effW (L1 := told ++ N) (append_e h hm hp V) (fun W a0 => preOfN told M a0 Z) (pq4 M) fun v L' ⟨e, hj⟩ => ⟨_, pq5, e ▸ O L' hj⟩
theorem CallH.appA {f : Fct} {tp bp ap : OA} {tc bc ac : Nat} {A : Array Value} (M : A = ⟨f.cells tp tc bp bc ap ac⟩) (O : F.Perm (N ++ L)) (h : JD JB D m d L) (hm : MOk m) (hp : d.pend.length < 900000) (a0 : blkW w0 0 = some tabV) (Z : FAt (lkW w0) f tp tc bp bc ap ac)
  (V : ∀ L', JD JB D (appendM m d f).2.1 (appendM m d f).2.2 L' → K (.int .i64 (appendM m d f).1) (told ++ (N ++ L'))) :
  CallH TP 16 ⟨[pt JB 0, .agg A]⟩ (told ++ F) [] w0 K := by
 subst M
 exact CallH.app told O h hm hp a0 Z V
theorem CallH.chk (M : F.Perm (N ++ L)) (h : JD JB D m d L) (hm : MOk m) (hp : d.pend.length < 900000) (V : blkW w0 0 = some tabV)
  (O : ∀ L', JD JB D (checkM m d).2.1 (checkM m d).2.2 L' → K (.int .i64 (checkM m d).1) (told ++ (N ++ L'))) :
  CallH TP 25 ⟨[pt JB 0]⟩ (told ++ F) [] w0 K :=
 CallH.effW (L1 := told ++ N) (check_e h hm hp) (fun W Z => ⟨(preOfN told M Z V).1, fun b c h => h.elim⟩) (pq4 M) fun v L' ⟨e, hj⟩ => ⟨_, pq5, e ▸ O L' hj⟩
theorem pq6 {x : Nat × Obj} {told F F0 T : SHeap} (h : F.Perm (x :: (F0 ++ T))) : ((x :: T) ++ (told ++ F0)).Perm (told ++ F) := perm_of fun c w M O V Z => by
 have := Z _ _ h
 simp only [M, O, V, List.cons_append] at this ⊢; omega
theorem pq7 {x : Nat × Obj} {told F F0 T N X : SHeap} (h : F.Perm (x :: (F0 ++ T))) (V : X.Perm (N ++ (x :: T))) : (X ++ (told ++ F0)).Perm (told ++ (N ++ F)) := perm_of fun c w O Z a0 M => by
 have := M _ _ h
 have := M _ _ V
 simp only [O, Z, a0, List.cons_append] at *; omega
theorem CallH.facts (h : JD JB D m d F) (hm : MOk m)
  (V : ∀ p c N, FRow noLk m.fs p c N → K (.slice p m.fs.length c) (told ++ (N ++ F))) :
  CallH TP 15 ⟨[pt JB 0]⟩ (told ++ F) [] w0 K := by
 obtain ⟨F0, p, c, T, M, a1, O⟩ := h
 have a2 := hm.len
 refine CallH.eff (L0 := jH JB D (m.js p c) :: T) (L1 := told ++ F0) (facts_e ⟨p, c, T, rfl, O⟩ (fun f Z => ok_small (hm.ok f Z)) (by omega)) (pq6 M) ?_
 rintro v L' ⟨p', c', N, rfl, hp, a0⟩
 exact ⟨_, pq7 M hp, V p' c' N a0⟩
theorem JD.here {W : World} {S : List Nat} (h : JD JB D m d F) (hm : Mem (told ++ F) S w0 W) : ∃ p c, W.heap[JB]? = some (jH JB D (m.js p c)).2 := by
 obtain ⟨F0, p, c, T, M, O, V⟩ := h
 exact ⟨p, c, hm.here (jH JB D (m.js p c)) (List.mem_append_right _ (M.mem_iff.2 List.mem_cons_self))⟩
theorem CallH.gen (h : JD JB D m d F) (M : K (.int .i64 m.gen) (told ++ F)) : CallH TP 26 ⟨[pt JB 0]⟩ (told ++ F) [] w0 K :=
 CallH.pw (fun W V => by
  obtain ⟨p, c, O⟩ := h.here told V
  exact gen_pw O) M
def OpnJ (D : Nat) (r : Int × Option JM × DS) (v : Value) (L' : SHeap) : Prop :=
 match r with
 | (e, none, d') => v = .tuple #[.pointer none, .int .i64 e]
 | (e, some m, d') => ∃ JB, v = .tuple #[pt JB 0, .int .i64 0] ∧ JD JB D m d' L'
theorem CallH.opn {Z T : SHeap} (a3 : F.Perm (Z ++ T)) (h : DRep D d Z) (hp : d.pend.length < 900000) (a6 : blkW w0 0 = some tabV)
  (a4 : ∀ v F' X, DRep D (openM d).2.2 F' → OpnJ D (openM d) v (F' ++ (X ++ T)) → K v (told ++ (F' ++ (X ++ T)))) :
  CallH TP 13 ⟨[pt D 0]⟩ (told ++ F) [] w0 K := by
 refine CallH.effW (L0 := Z) (L1 := told ++ T) (open_e h hp) (fun W a7 => ?_) (pq4 (N := T) (a3.trans List.perm_append_comm)) ?_
 ·have : Mem ((told ++ T) ++ Z) [] w0 W := a7.perm (by rw [List.append_assoc]; exact ((a3.trans List.perm_append_comm).append_left told).symm)
  exact lkX_of this 0 tabV (.inr a6)
 ·intro v L' a5
  generalize openM d = r at *
  obtain ⟨e, o, a9⟩ := r
  cases o with
  | none =>
   obtain ⟨rfl, F', X, k1, a1⟩ := a5
   refine ⟨_, ?_, a4 _ F' X a1 rfl⟩
   exact perm_of fun c w M O V a0 => by
    have := a0 _ _ k1
    simp only [M, O, V] at this ⊢; omega
  | some m =>
   obtain ⟨JB, rfl, F', p, c, a2, k1, a1, a8⟩ := a5
   refine ⟨_, ?_, a4 _ F' (jH JB D (m.js p c) :: a2) a1 ⟨JB, rfl, F', p, c, a2 ++ T, ?_, a1, (a8.more T).perm List.perm_append_comm⟩⟩
   ·exact perm_of fun c w M O V a0 => by
     have := a0 _ _ k1
     simp only [M, O, V, List.cons_append] at this ⊢; omega
   ·exact perm_of fun c w M O V a0 => by
     simp only [M, O, V, List.cons_append]; omega
theorem CallH.dsk {g : FuncId} {args : Array Value} {M T : SHeap} {v : Value} {O : DS} (V : F.Perm (M ++ T)) (h : EffC TP g args M (DRes D v O)) (Z : ∀ F', DRep D O F' → K v (told ++ (F' ++ T))) : CallH TP g args (told ++ F) [] w0 K :=
 CallH.eff (L1 := told ++ T) h (pq4 (N := T) (V.trans List.perm_append_comm)) fun a2 L' a0 => ⟨told ++ (L' ++ T), List.perm_append_comm_assoc _ _ _, by obtain ⟨rfl, a1⟩ := a0; exact Z _ a1⟩
theorem CallH.crash {M T : SHeap} {a0 : OA} {kc : Nat} {O : List Int} (Z : F.Perm (M ++ T)) (h : DRep D d M) (hp : d.pend.length < 900000) (V : O.length ≤ 9223372036854775807) (a5 : IntsL (lkW w0) a0 O) (torn : Int)
  (a4 : ∀ F', DRep D (d.crash O torn) F' → K (.int .i64 0) (told ++ (F' ++ T))) : CallH TP 34 ⟨[pt D 0, .slice a0 O.length kc, .int .i64 torn]⟩ (told ++ F) [] w0 K := by
 refine CallH.effW (L0 := M) (L1 := told ++ T) (Crash_e h (by omega) V torn) (fun W a6 => ?_) (pq4 (N := T) (Z.trans List.perm_append_comm)) fun b0 L' V => ⟨told ++ (L' ++ T), List.perm_append_comm_assoc _ _ _, by obtain ⟨rfl, a8⟩ := V; exact a4 _ a8⟩
 intro a7
 obtain ⟨b, o, c, a1, a2, a3⟩ := a5 a7
 have : Mem ((told ++ T) ++ M) [] w0 W := a6.perm (by rw [List.append_assoc]; exact ((Z.trans List.perm_append_comm).append_left told).symm)
 obtain ⟨k1, a9⟩ := lkX_of this b c (.inr a2)
 exact ⟨b, o, c, a1, k1, a9, a3⟩
end calls
structure JDeed where
 call : Int
 f : Fct
 num : Int
 keep : List Int
def DeedL (lk : Lk) (cs : List Value) (x : JDeed) : Prop := i64 x.call ∧ ∃ tp tc bp bc ap ac kp kc, cs = .int .i64 x.call :: (x.f.cells tp tc bp bc ap ac ++ [.int .i64 x.num, .slice kp x.keep.length kc]) ∧ FArg lk x.f tp tc bp bc ap ac ∧ IntsL lk kp x.keep ∧ x.keep.length ≤ 9223372036854775807 ∧ i64 x.num
theorem deed_get {lk : Lk} {p : OA} {l : List JDeed} (h : SlAt lk 26 (DeedL lk) p l) {i : Nat} (hi : i < l.length) :
  ∃ b o c tp tc bp bc ap ac, p = some ⟨b, o, none⟩ ∧ lk b c ∧ ((c.drop ((o + i * 26) + 1)).take 23 = l[i].f.cells tp tc bp bc ap ac ∧ (o + i * 26) + 1 + 23 ≤ c.length) ∧ c[o + i * 26]? = some (.int .i64 l[i].call) ∧ FArg lk l[i].f tp tc bp bc ap ac ∧ i64 l[i].call := by
 obtain ⟨b, o, c, e, O, V⟩ := h (by omega)
 obtain ⟨k1, Z, tp, tc, bp, bc, ap, ac, a1, kc, M, a0, _⟩ := V i hi
 refine ⟨b, o, c, tp, tc, bp, bc, ap, ac, e, O, ⟨?_, by omega⟩, ?_, a0, Z⟩
 ·have := congrArg (fun l => (l.drop 1).take 23) M
  simp only [List.drop_take, List.drop_drop, List.take_take] at this
  simpa [List.drop_succ_cons] using this
 ·have := congrArg (fun l => l[0]?) M
  simp only [List.getElem?_take_of_lt (show 0 < 26 by decide), List.getElem?_drop] at this
  simpa using this
abbrev zL3aa (a : Fct) (b x2 x3 : Nat) (x4 x5 c : OA) : Array Value := #[IV a.n, IV a.time, IV a.kind, IV a.story, .string a.lang, IV a.rev, IV a.base, .string a.title, .string a.author, .slice x4 a.topics.length b, .slice x5 a.blocks.length x2, IV a.lab.unt, .slice c a.lab.after.length x3, IV a.lab.appr, IV a.lab.den, IV a.editor, IV a.block, IV a.sentence, .string a.text, .string a.name, IV a.partner, IV a.cls, IV a.unt]
noncomputable def lRed_c0 (e : OA) (d c : Nat) (h : OA) (g f : Nat) (b : Int) (a : SHeap) : Cut := ⟨TP, [], 40, 52, (KC Tryz.f40 116), [(0, .slice e d c), (3, .slice h g f), (4, IV b)], (a)⟩
noncomputable def lRed_c1 (g : OA) (f e a : Nat) (Z : OA) (Y X : Nat) (c d h l z E : Int) (F : BA) (G M : Int) (N O : BA) (V : OA) (U Q : Nat) (k : OA) (j i : Nat) (m : Int) (p : OA) (o n : Nat) (q s t u w : Int) (x y : BA) (A C D : Int) (b : SHeap) : Cut := ⟨TP, [], 40, 52, (KC Tryz.f40 29844), [(0, .slice g f e), (3, .slice Z Y X), (4, IV c), (5, PP a), (6, IV d)], ((a, .cells #[IV h, IV l, IV z, IV E, .string F, IV G, IV M, .string N, .string O, .slice V U Q, .slice k j i, IV m, .slice p o n, IV q, IV s, IV t, IV u, IV w, .string x, .string y, IV A, IV C, IV D] 38) :: b)⟩
theorem lRed_c0_vc (f : OA) (d e : Nat) (j : OA) (i h : Nat) (b : Int) (c : SHeap) (H : VP [] w0 R (.P 8 10 (b < (d : Int)) (.r 8 <| .x2 fun k g => .iP f k g d e 23 b (g + ((Int.toNat b) * 23)) <| .x5 fun cw (a : Fct) m1tp m1tc m1bp => .x3 fun o m l => .lMa (c) k (g + ((Int.toNat b) * 23)) 23 38 cw [IV a.n, IV a.time, IV a.kind, IV a.story, .string a.lang, IV a.rev, IV a.base, .string a.title, .string a.author, .slice m1tp a.topics.length m1tc, .slice m1bp a.blocks.length o, IV a.lab.unt, .slice m a.lab.after.length l, IV a.lab.appr, IV a.lab.den, IV a.editor, IV a.block, IV a.sentence, .string a.text, .string a.name, IV a.partner, IV a.cls, IV a.unt] <| .nf 0 (.cells #[IV 0, IV 0, IV 0, IV 0, sZ, IV 0, IV 0, sZ, sZ, .slice none 0 0, .slice none 0 0, IV 0, .slice none 0 0, IV 0, IV 0, IV 0, IV 0, IV 0, sZ, sZ, IV 0, IV 0, IV 0] 38) fun B => .ru [200] <| .cT 8 [0] 1 (lRed_c1 f d e B j i h b 0 a.n a.time a.kind a.story a.lang a.rev a.base a.title a.author m1tp a.topics.length m1tc m1bp a.blocks.length o a.lab.unt m a.lab.after.length l a.lab.appr a.lab.den a.editor a.block a.sentence a.text a.name a.partner a.cls a.unt c)) <| .re 7 (.slice j i h) (c))) : lRed_c0 f d e j i h b c w0 R := VC.go Tryz.func40 _ H
theorem lRed_c1_vc (X : OA) (e V Y : Nat) (a3 : OA) (Z a2 : Nat) (c d f j y D : Int) (E : BA) (F G : Int) (M N : BA) (U : OA) (Q O : Nat) (i : OA) (h g : Nat) (k : Int) (o : OA) (m l : Nat) (p q s t u : Int) (w x : BA) (z A C : Int) (a0 : SHeap) (H : VP [] w0 R (.hp ((Y, .cells #[IV f, IV j, IV y, IV D, .string E, IV F, IV G, .string M, .string N, .slice U Q O, .slice i h g, IV k, .slice o m l, IV p, IV q, IV s, IV t, IV u, .string w, .string x, IV z, IV A, IV C] 38) :: a0) fun a1 => .P 8 20 (d < (e : Int)) (.r 5 <| .dr 19 <| .qu [2] <| .x2 fun b1 a4 => .iP X b1 a4 e V 23 d (a4 + ((Int.toNat d) * 23)) <| .qu [1] <| .x2 fun c5 b6 => .lM a1 b1 ((a4 + ((Int.toNat d) * 23)) + 2) 3 c5 (IV b6) <| .qu [2] <| .zP 29 (b6 = 6) (.qu [2] <| .x2 fun b3 a5 => .iP X b3 a5 e V 23 d (a5 + ((Int.toNat d) * 23)) <| .qu [1] <| .x2 fun c6 b7 => .lM a1 b3 ((a5 + ((Int.toNat d) * 23)) + 3) 3 c6 (IV b7) <| .qu [2] <| .x2 fun b4 a6 => .iP X b4 a6 e V 23 c (a6 + ((Int.toNat c) * 23)) <| .qu [1] <| .x2 fun c7 b8 => .lM a1 b4 ((a6 + ((Int.toNat c) * 23)) + 3) 3 c7 (IV b8) <| .qu [2] <| .dn <| .P 1 41 (b7 = b8) (.r 4 <| .x2 fun b5 a7 => .iP X b5 a7 e V 23 c (a7 + ((Int.toNat c) * 23)) <| .x5 fun cw4 (a : Fct) m261tp m261tc m261bp => .x3 fun c2 c0 b9 => .lMa a1 b5 (a7 + ((Int.toNat c) * 23)) 23 38 cw4 [IV a.n, IV a.time, IV a.kind, IV a.story, .string a.lang, IV a.rev, IV a.base, .string a.title, .string a.author, .slice m261tp a.topics.length m261tc, .slice m261bp a.blocks.length c2, IV a.lab.unt, .slice c0 a.lab.after.length b9, IV a.lab.appr, IV a.lab.den, IV a.editor, IV a.block, IV a.sentence, .string a.text, .string a.name, IV a.partner, IV a.cls, IV a.unt] <| .cl 0 81 [.agg (zL3aa a m261tc c2 b9 m261tp m261bp c0)] a1 <| .x5 fun (b : Fct) ztp ztc zbp zbc => .x3 fun c4 c3 a9 => .rt (.agg (zL3aa b ztc zbc c3 ztp zbp c4)) ((Y, .cells #[IV f, IV j, IV y, IV D, .string E, IV F, IV G, .string M, .string N, .slice U Q O, .slice i h g, IV k, .slice o m l, IV p, IV q, IV s, IV t, IV u, .string w, .string x, IV z, IV A, IV C] 38) :: a9) <| .ru [200] <| .li 6 6 (IntKind.i64.wrap (d + 1)) fun c9 => .cT 2 [0] 1 (lRed_c1 X e V Y a3 Z a2 c c9 b.n b.time b.kind b.story b.lang b.rev b.base b.title b.author ztp b.topics.length ztc zbp b.blocks.length zbc b.lab.unt c4 b.lab.after.length c3 b.lab.appr b.lab.den b.editor b.block b.sentence b.text b.name b.partner b.cls b.unt a9)) <| .li 7 6 (IntKind.i64.wrap (d + 1)) fun d0 => .cT 2 [0] 1 (lRed_c1 X e V Y a3 Z a2 c d0 f j y D E F G M N U Q O i h g k o m l p q s t u w x z A C a0)) <| .qu [12] <| .dn <| .li 8 6 (IntKind.i64.wrap (d + 1)) fun d1 => .cT 2 [0] 1 (lRed_c1 X e V Y a3 Z a2 c d1 f j y D E F G M N U Q O i h g k o m l p q s t u w x z A C a0)) <| .ru [4,200] <| .ns true 1 (.cells #[IV f, IV j, IV y, IV D, .string E, IV F, IV G, .string M, .string N, .slice U Q O, .slice i h g, IV k, .slice o m l, IV p, IV q, IV s, IV t, IV u, .string w, .string x, IV z, IV A, IV C] 38) fun a8 => .ap 0 a8 38 38 23 22 22 (.slice a3 Z a2) 1 1 [IV f, IV j, IV y, IV D, .string E, IV F, IV G, .string M, .string N, .slice U Q O, .slice i h g, IV k, .slice o m l, IV p, IV q, IV s, IV t, IV u, .string w, .string x, IV z, IV A, IV C] ((a8, .cells #[IV f, IV j, IV y, IV D, .string E, IV F, IV G, .string M, .string N, .slice U Q O, .slice i h g, IV k, .slice o m l, IV p, IV q, IV s, IV t, IV u, .string w, .string x, IV z, IV A, IV C] 38) :: (Y, .cells #[IV f, IV j, IV y, IV D, .string E, IV F, IV G, .string M, .string N, .slice U Q O, .slice i h g, IV k, .slice o m l, IV p, IV q, IV s, IV t, IV u, .string w, .string x, IV z, IV A, IV C] 38) :: a0) <| .x3 fun ap (b0 : Nat) F4 => .rt (.slice ap (Z + 1) b0) ((Y, .cells #[IV f, IV j, IV y, IV D, .string E, IV F, IV G, .string M, .string N, .slice U Q O, .slice i h g, IV k, .slice o m l, IV p, IV q, IV s, IV t, IV u, .string w, .string x, IV z, IV A, IV C] 38) :: F4) <| .li 7 4 (IntKind.i64.wrap (c + 1)) fun c8 => .cT 2 [] 1 (lRed_c0 X e V ap (Z + 1) b0 c8 F4))) : lRed_c1 X e V Y a3 Z a2 c d f j y D E F G M N U Q O i h g k o m l p q s t u w x z A C a0 w0 R := VC.go Tryz.func40 _ H
theorem lRed_vc (d : OA) (c b : Nat) (a : SHeap) (hm : Mem (a) [] w0 W) (H : VP [] w0 R (.cT 15 [] 0 (lRed_c0 d c b none 0 0 0 a))) : Calls TP 40 ⟨[.slice d c b]⟩ W R := VC.cs Tryz.func40 hm _ H
def LRedK (lk : Lk) (l : List Fct) (v : Value) (L' : SHeap) : Prop := ∃ p' c', v = .slice p' l.length c' ∧ FRow lk (redJ l) p' c' L'
theorem row_23 {c : List Value} {o : Nat} {f : Fct} {tp bp ap : OA} {tc bc ac : Nat} (h : (c.drop o).take 23 = f.cells tp tc bp bc ap ac) : c[o + 2]? = some (.int .i64 f.kind) ∧ c[o + 3]? = some (.int .i64 f.story) := by
 have M : ((c.drop o).take 23)[2]? = some (.int .i64 f.kind) := by rw [h]; rfl
 have O : ((c.drop o).take 23)[3]? = some (.int .i64 f.story) := by rw [h]; rfl
 rw [List.getElem?_take_of_lt (by decide), List.getElem?_drop] at M O
 exact ⟨M, O⟩
section perms
variable (x y : Nat × Obj) (X N F : SHeap)
theorem pz1 (h : F.Perm (X ++ N)) : (x :: y :: F).Perm (X ++ (N ++ [x, y])) := perm_of fun c w M O V Z => by
 have := Z _ _ h
 simp only [M, O, V] at this ⊢; omega
theorem pz2 : (N ++ [x, y]).Perm (y :: ([x] ++ N)) := perm_a
theorem pz3 (h : F.Perm (X ++ N)) (M : SHeap) : (M ++ F).Perm ((M ++ X) ++ N) := perm_of fun c w O V Z a0 => by
 have := a0 _ _ h
 simp only [O, V, Z] at this ⊢; omega
end perms
theorem lred_in {lk : Lk} {w0 : World} {R : Ending → World → Prop} {p : OA} {c : Nat} {l : List Fct} (O : FctsL lk p l) (M : ∀ b c, lk b c → lkW w0 b c) (a0 : ∀ f ∈ l, f.Small) (a2 : l.length ≤ 1000000) {i B : Nat} (hi : i < l.length) {q : OA} {qc : Nat}
  (next : ∀ (b5 : OA) (b6 : Nat) (a5 : SHeap), FRow lk (redG l (l.take (i + 1))) b5 b6 a5 → lRed_c0 p l.length c b5 (i + 1) b6 ((i + 1 : Nat) : Int) a5 w0 R) :
  ∀ (g k : Nat) (y : Fct) (tp : OA) (tc : Nat) (bp : OA) (bc : Nat) (ap : OA) (ac : Nat) (X N F : SHeap), g + k = l.length → FRow lk (redG l (l.take i)) q qc N → FAt (lkU X lk) y tp tc bp bc ap ac →
   y = (if takenB (l.take k) l[i].story = true then redF l[i] else l[i]) → F.Perm (X ++ N) →
   lRed_c1 p l.length c B q i qc (i : Int) (k : Int) y.n y.time y.kind y.story y.lang y.rev y.base y.title y.author tp y.topics.length tc bp y.blocks.length bc y.lab.unt ap y.lab.after.length ac y.lab.appr y.lab.den y.editor y.block y.sentence y.text y.name y.partner y.cls y.unt F w0 R
 | 0, k, y, tp, tc, bp, bc, ap, ac, X, N, F, hg, hN, hy, e, hF => by
  apply lRed_c1_vc
  obtain rfl : k = l.length := by omega
  rw [List.take_length] at e
  have d2 : (redG l (l.take i)).length = i := by rw [redG, List.length_map, List.length_take]; omega
  have V : redG l (l.take i) ++ [y] = redG l (l.take (i + 1)) := by
   rw [e, ← take_snoc hi, redG, redG, List.map_append]; rfl
  refine no (by omega) fun B2 => ?_
  refine (FRow.push (f := y) (Y := [_, _]) hN hy d2 (by omega) (pz1 _ _ _ _ _ hF)).monoP ?_
  rintro _ e2 ⟨p', c', e3, rfl, d1, b3, _, _⟩
  refine ⟨_, d1.trans (pz2 _ _ _), p', c', _, rfl, rfl, ?_⟩
  rintro _ rfl
  rw [wi64 (by omega), show (i : Int) + 1 = ((i + 1 : Nat) : Int) by omega]
  rw [V] at b3
  exact next _ _ _ (b3.more [_])
 | g + 1, k, y, tp, tc, bp, bc, ap, ac, X, N, F, hg, hN, hy, e, hF => by
  apply lRed_c1_vc
  have b4 : k < l.length := by omega
  have a4 : IntKind.i64.wrap ((k : Int) + 1) = ((k + 1 : Nat) : Int) := by rw [wi64 (by omega)]; omega
  obtain ⟨Z, o1, c1, rfl, a8, e4, _, _, _, _, _, _, c7, _⟩ := O.get b4
  obtain ⟨B2, e5, a7, b1, a9, c8, d9, d8, c6, c5, c4, c3, b0, c9⟩ := O.get hi
  simp only [Option.some.injEq, Addr.mk.injEq, and_true] at b1
  obtain ⟨rfl, rfl⟩ := b1
  have V : takenB (l.take (k + 1)) l[i].story = (takenB (l.take k) l[i].story || (decide (l[k].kind = 6) && decide (l[k].story = l[i].story))) := by rw [← take_snoc b4, takenB_snoc]
  obtain ⟨d5, d6⟩ := row_23 c7
  obtain ⟨_, d7⟩ := row_23 b0
  refine yes (by omega) ⟨Z, o1, rfl, by omega, c1, l[k].kind, .inr (M _ _ a8), by rw [Int.toNat_natCast]; exact d5, fun a1 => ?_, fun a1 => ?_⟩
  ·refine ⟨Z, o1, rfl, by omega, c1, l[k].story, .inr (M _ _ a8), by rw [Int.toNat_natCast]; exact d6, Z, o1, rfl, by omega, a7, l[i].story, .inr (M _ _ a9), by rw [Int.toNat_natCast]; exact d7, fun a3 => ?_, fun a3 => ?_⟩
   ·refine ⟨Z, o1, rfl, by omega, a7, l[i], d9, d8, c6, c5, c4, c3, .inr (M _ _ a9), by rw [Int.toNat_natCast]; exact ⟨b0, c8⟩, ?_⟩
    refine CallH.new (lk := lk) [_] (redact_e c9 (a0 _ (List.getElem_mem hi))) (fun W hm b c d0 => lkW_kept hm b c (M b c d0)) ?_
    rintro _ a6 ⟨b8, b7, c2, b9, zp, zc, rfl, d4⟩
    refine ⟨redF l[i], b8, b7, c2, b9, zp, zc, _, rfl, rfl, ?_⟩
    rintro _ rfl
    rw [a4]
    refine lred_in O M a0 a2 hi next g (k + 1) (redF l[i]) b8 b7 c2 b9 zp zc (a6 ++ X) N _ (by omega) hN (d4.mono (lkU_up fun x d3 => List.mem_append_left _ d3)) ?_ (pz3 _ _ _ hF a6)
    rw [V, decide_eq_true a1, decide_eq_true a3, Bool.and_self, Bool.or_true, if_pos rfl]
   ·rintro _ rfl
    rw [a4]
    refine lred_in O M a0 a2 hi next g (k + 1) y tp tc bp bc ap ac X N _ (by omega) hN hy ?_ hF
    rw [V, decide_eq_false a3, Bool.and_false, Bool.or_false]; exact e
  ·rintro _ rfl
   rw [a4]
   refine lred_in O M a0 a2 hi next g (k + 1) y tp tc bp bc ap ac X N _ (by omega) hN hy ?_ hF
   rw [V, decide_eq_false a1, Bool.false_and, Bool.or_false]; exact e
theorem lred_out {lk : Lk} {w0 : World} {p : OA} {c : Nat} {l : List Fct} (M : FctsL lk p l) (O : ∀ b c, lk b c → lkW w0 b c) (Z : ∀ f ∈ l, f.Small) (V : l.length ≤ 1000000) :
  ∀ (g i : Nat) (q : OA) (qc : Nat) (N : SHeap), g + i = l.length → FRow lk (redG l (l.take i)) q qc N → lRed_c0 p l.length c q i qc (i : Int) N w0 (fun e a2 => ∃ v L', e = .returned v ∧ Mem L' [] w0 a2 ∧ LRedK lk l v L')
 | 0, i, q, qc, N, hg, hN => by
  apply lRed_c0_vc
  obtain rfl : i = l.length := by omega
  rw [List.take_length] at hN
  exact no (by omega) (dkFin ⟨q, qc, rfl, hN⟩)
 | g + 1, i, q, qc, N, hg, hN => by
  apply lRed_c0_vc
  have hi : i < l.length := by omega
  obtain ⟨a0, o1, c1, rfl, a3, a4, tp, tc, bp, bc, ap, ac, a5, a6⟩ := M.get hi
  refine yes (by omega) ⟨a0, o1, rfl, by omega, c1, l[i], tp, tc, bp, bc, ap, ac, .inr (O _ _ a3), by rw [Int.toNat_natCast]; exact ⟨a5, a4⟩, fun B => ?_⟩
  exact lred_in M O Z V hi (fun a7 a8 a1 h => lred_out M O Z V g (i + 1) a7 a8 a1 (by omega) h) l.length 0 l[i] tp tc bp bc ap ac [] N N (by omega) hN (a6.mono lkU_r) rfl (List.Perm.refl _)
theorem lred_e {lk : Lk} {p : OA} {c : Nat} {l : List Fct} (M : FctsL lk p l) (Z : ∀ f ∈ l, f.Small) (O : l.length ≤ 1000000) : EffW TP 40 ⟨[.slice p l.length c]⟩ [] (fun W => ∀ b c, lk b c → lkW W b c) (LRedK lk l) := by
 intro W hm V
 exact lRed_vc p l.length c [] hm (lred_out M V Z O l.length 0 none 0 [] (by omega) FRow.nil0)
abbrev zL2aa : Array Value := #[IV 1, IV 0, IV 6, IV 5, sZ, IV 0, IV 0, sZ, sZ, .slice none 0 0, .slice none 0 0, IV 0, .slice none 0 0, IV 0, IV 0, IV 0, IV 0, IV 0, sZ, sZ, IV 0, IV 0, IV 0]
abbrev yL2aa (a : Nat) (b : SHeap) : SHeap := (a, .cells zL2aa 38) :: b
theorem sane24_vc (g : SHeap) (hm : Mem (g) [] w0 W) (H : VP [] w0 R (.cl 6 11 [IV 200] (g) <| .x3 fun (d : OA) r21 (h : SHeap) => .rt (.tuple #[.pointer d, IV r21]) (h) <| .cl 9 13 [.pointer d] (h) <| .x3 fun (b : OA) r41 (i : SHeap) => .rt (.tuple #[.pointer b, IV r41]) (i) <| .nf 9 (.cells #[IV 0, IV 0, IV 0, IV 0, sZ, IV 0, IV 0, sZ, sZ, .slice none 0 0, .slice none 0 0, IV 0, .slice none 0 0, IV 0, IV 0, IV 0, IV 0, IV 0, sZ, sZ, IV 0, IV 0, IV 0] 38) fun B => .ru [200,4,200] <| .cl 0 16 [.pointer b, .agg zL2aa] (yL2aa B i) <| .x2 fun t j => .rt (IV t) (yL2aa B j) <| .ru [5,200] <| .cl 0 16 [.pointer b, .agg zL2aa] (yL2aa B j) <| .x2 fun u k => .rt (IV u) (yL2aa B k) <| .cl 5 25 [.pointer b] (yL2aa B k) <| .x2 fun w l => .rt (IV w) (yL2aa B l) <| .cl 5 15 [.pointer b] (yL2aa B l) <| .x4 fun y e x m => .rt (.slice y e x) (yL2aa B m) <| .cl 5 13 [.pointer d] (yL2aa B m) <| .x3 fun (z : OA) r101 F7 => .rt (.tuple #[.pointer z, IV r101]) (yL2aa B F7) <| .cl 8 13 [.pointer none] (yL2aa B F7) <| .x3 fun (C : OA) r121 F8 => .rt (.tuple #[.pointer C, IV r121]) (yL2aa B F8) <| .hp (yL2aa B F8) fun a => .P 11 45 (r41 = 0) (.P 4 49 (t = 0) (.P 4 53 (u = 240) (.P 4 57 (w = 0) (.P 5 62 ((e : Int) = 1) (.r 1 <| .x2 fun f c => .sp y f c [9,33,58,63] <| .iL f c e x 23 0 (c + ((0) * 23)) <| .r 1 <| .x2 fun A p => .lM a f ((c + ((0) * 23)) + 3) 3 A (IV p) <| .P 3 69 (p = 5) (.cl 1 26 [.pointer b] a <| .ex fun q => .rt (IV q) a <| .P 3 74 (q = 2) (.P 4 78 (r101 = 0) (.cl 1 15 [.pointer z] a <| .x4 fun E s D n => .rt (.slice E s D) (yL2aa B n) <| .hp (yL2aa B n) fun o => .P 4 84 ((s : Int) = 1) (.re 5 (.bool (decide (r121 = 1))) o) <| .re 5 (.bool false) o) <| .re 11 (.bool false) a) <| .re 15 (.bool false) a) <| .re 20 (.bool false) a) <| .re 27 (.bool false) a) <| .re 32 (.bool false) a) <| .re 36 (.bool false) a) <| .re 40 (.bool false) a) <| .re 44 (.bool false) a)) : Calls TP 10 ⟨[]⟩ W R := VC.cs Tryz.func10 hm _ H
theorem jOpenN_vc  (hm : Mem [] [] w0 W) (H : VP [] w0 R (.il 9 Tryz.func42 [.pointer none] <| .rk 15 <| .re 8 (.tuple #[.pointer none, IV 1]) [])) : Calls TP 13 ⟨[.pointer none]⟩ W R := VC.cs Tryz.func13 hm _ H
theorem New_vc (a : Int) (hm : Mem [] [] w0 W)
 (H :
 Br (a < 1)
 (Fin R [] [] w0 (.tuple #[.pointer none, IV 2]))
 (Br ((4194304 : Int) < a)
 (Fin R [] [] w0 (.tuple #[.pointer none, IV 2]))
 ((0 ≤ a ∧ a ≤ a ∧ 1 * a ≤ 281474976710656 ∧ a ≤ 9223372036854775807) ∧
 ∀ B : Nat,
 (0 ≤ a ∧ a ≤ a ∧ 1 * a ≤ 281474976710656 ∧ a ≤ 9223372036854775807) ∧
 ∀ b d : Nat,
 Fin R [(B, .cells ⟨(List.replicate (Int.toNat a) (.int .u8 0))⟩ 5), (b, .cells ⟨(List.replicate (Int.toNat a) (.int .u8 0))⟩ 5), (d, .cells #[.bool true, IV 0, .slice (SO B) (Int.toNat a) (Int.toNat a), .slice (SO b) (Int.toNat a) (Int.toNat a), .slice none 0 0] 82)] [] w0 (.tuple #[PP d, IV 0])))) :
 Calls TP 11 ⟨[IV a]⟩ W R:= by
 refine AtE.cs 22 Tryz.func11 hm (.ru 11 (.sP 7 H (fun H => ?_) fun H => ?_))
 ·refine .ru 10 (.rt Tryz.func11 H)
 ·refine .ru 4 (.sP 10 H (fun H => ?_) fun H => ?_)
  ·refine .ru 6 (.rt Tryz.func11 H)
  ·refine .ru 3 ?_
   have H0 := H
   have hd0 : ∀ B b d : Nat, AtL TP 11 22 (regOps [.code (sub (Eng.body Tryz.f11) [1,1,0])]) 0 #[true, true, true, true, true, true, true] (KC Tryz.f11 15) [(4, PP d)] [(B, .cells ⟨(List.replicate (Int.toNat a) (.int .u8 0))⟩ 5), (b, .cells ⟨(List.replicate (Int.toNat a) (.int .u8 0))⟩ 5), (d, .cells #[.bool false, IV 0, .slice (SO B) (Int.toNat a) (Int.toNat a), .slice (SO b) (Int.toNat a) (Int.toNat a), .slice none 0 0] 82)] [] w0 (nrm R) := by
    intro B b d c
    have H := (((H0.2 B).2 b) d)
    refine .nm (KR Tryz.f11 14 []) [(4, PP d)] [(B, .cells ⟨(List.replicate (Int.toNat a) (.int .u8 0))⟩ 5), (b, .cells ⟨(List.replicate (Int.toNat a) (.int .u8 0))⟩ 5), (d, .cells #[.bool false, IV 0, .slice (SO B) (Int.toNat a) (Int.toNat a), .slice (SO b) (Int.toNat a) (Int.toNat a), .slice none 0 0] 82)] (.ru 6 (.il 41 [PP d] 8 Tryz.func41 (.ru 5 (.st 2 0 (.ru 2 (.st 2 1 (.ru 1 (.rk Tryz.func41 (.ru 7 (.rt Tryz.func11 H))))))))))
   have hd1 : ∀ B b d : Nat, AtL TP 11 22 (regOps [.code (sub (Eng.body Tryz.f11) [1,1,0])]) 1 #[true, true, true, true, true, true, false] (KC Tryz.f11 15) [(16, PP d)] [(B, .cells ⟨(List.replicate (Int.toNat a) (.int .u8 0))⟩ 5), (b, .cells ⟨(List.replicate (Int.toNat a) (.int .u8 0))⟩ 5), (d, .cells #[.bool false, IV 0, .slice (SO B) (Int.toNat a) (Int.toNat a), .slice (SO b) (Int.toNat a) (Int.toNat a), .slice none 0 0] 82)] [] w0 (nrm R) := by
    intro B b d
    refine .step [6] (by kernel_rfl) ⟨fun c => ?_, trivial⟩
    ·have H := (((H0.2 B).2 b) d)
     refine .ru 1 (.cut [0,1,2] (hd0 B b d c) (by kernel_rfl))
   have hd2 : ∀ B b : Nat, AtL TP 11 22 (regOps [.code (sub (Eng.body Tryz.f11) [1,1,0])]) 2 #[true, true, true, true, true, false, false] (KC Tryz.f11 15) [(15, .agg #[.bool false, IV 0, .slice (SO B) (Int.toNat a) (Int.toNat a), .slice (SO b) (Int.toNat a) (Int.toNat a), .slice none 0 0])] [(B, .cells ⟨(List.replicate (Int.toNat a) (.int .u8 0))⟩ 5), (b, .cells ⟨(List.replicate (Int.toNat a) (.int .u8 0))⟩ 5)] [] w0 (nrm R) := by
    intro B b
    refine .step [5] (by kernel_rfl) ⟨fun c => ?_, trivial⟩
    ·have H := ((H0.2 B).2 b)
     refine .nH (.cells #[.bool false, IV 0, .slice (SO B) (Int.toNat a) (Int.toNat a), .slice (SO b) (Int.toNat a) (Int.toNat a), .slice none 0 0] 82) H fun d H => (.cut [0,1,2] (hd1 B b d c) (by kernel_rfl))
   have hd3 : ∀ B b : Nat, AtL TP 11 22 (regOps [.code (sub (Eng.body Tryz.f11) [1,1,0])]) 3 #[true, true, true, true, false, false, false] (KC Tryz.f11 15) [(12, .slice (SO B) (Int.toNat a) (Int.toNat a)), (14, .slice (SO b) (Int.toNat a) (Int.toNat a))] [(B, .cells ⟨(List.replicate (Int.toNat a) (.int .u8 0))⟩ 5), (b, .cells ⟨(List.replicate (Int.toNat a) (.int .u8 0))⟩ 5)] [] w0 (nrm R) := by
    intro B b
    refine .step [4] (by kernel_rfl) ⟨fun c => ?_, trivial⟩
    ·have H := ((H0.2 B).2 b)
     refine .ru 1 (.cut [0,1] (hd2 B b c) (by kernel_rfl))
   have hd4 : ∀ B : Nat, AtL TP 11 22 (regOps [.code (sub (Eng.body Tryz.f11) [1,1,0])]) 4 #[true, true, true, false, false, false, false] (KC Tryz.f11 15) [(12, .slice (SO B) (Int.toNat a) (Int.toNat a)), (13, IV a)] [(B, .cells ⟨(List.replicate (Int.toNat a) (.int .u8 0))⟩ 5)] [] w0 (nrm R) := by
    intro B
    refine .step [3] (by kernel_rfl) ⟨fun c => ?_, trivial⟩
    ·have H := (H0.2 B)
     refine .make (E := 5) (kl := .i64) (kc := .i64) (n := a) (m := a) (z := .int .u8 0) (bytes := 1) (by kernel_rfl) H.1 (fun b => ?_)
     replace H := H.2 b
     exact .cut [0,1] (hd3 B b c) (by kernel_rfl)
   have hd5 : ∀ b : Nat, AtL TP 11 22 (regOps [.code (sub (Eng.body Tryz.f11) [1,1,0])]) 4 #[true, false, true, true, false, false, false] (KC Tryz.f11 15) [(11, IV a), (14, .slice (SO b) (Int.toNat a) (Int.toNat a))] [(b, .cells ⟨(List.replicate (Int.toNat a) (.int .u8 0))⟩ 5)] [] w0 (nrm R) := by
    intro b
    refine .step [1] (by kernel_rfl) ⟨fun c => ?_, trivial⟩
    ·have H := H0
     refine .make (E := 5) (kl := .i64) (kc := .i64) (n := a) (m := a) (z := .int .u8 0) (bytes := 1) (by kernel_rfl) H.1 (fun B => ?_)
     replace H := H.2 B
     exact .cut [1,0] (hd3 B b c) (by kernel_rfl)
   have hd6 : ∀ B : Nat, AtL TP 11 22 (regOps [.code (sub (Eng.body Tryz.f11) [1,1,0])]) 5 #[true, true, false, false, false, false, false] (KC Tryz.f11 15) [(0, IV a), (12, .slice (SO B) (Int.toNat a) (Int.toNat a))] [(B, .cells ⟨(List.replicate (Int.toNat a) (.int .u8 0))⟩ 5)] [] w0 (nrm R) := by
    intro B
    refine .step [2] (by kernel_rfl) ⟨fun c => ?_, trivial⟩
    ·have H := H0
     refine .ru 1 (.cut [0] (hd4 B c) (by kernel_rfl))
   have hd7 : AtL TP 11 22 (regOps [.code (sub (Eng.body Tryz.f11) [1,1,0])]) 5 #[true, false, true, false, false, false, false] (KC Tryz.f11 15) [(11, IV a), (13, IV a)] [] [] w0 (nrm R) := by
    refine .step [1,3] (by kernel_rfl) ⟨fun c => ?_, fun c => ?_, trivial⟩
    ·have H := H0
     refine .make (E := 5) (kl := .i64) (kc := .i64) (n := a) (m := a) (z := .int .u8 0) (bytes := 1) (by kernel_rfl) H.1 (fun B => ?_)
     replace H := H.2 B
     exact .cut [0] (hd4 B c) (by kernel_rfl)
    ·have H := (H0.2 0)
     refine .make (E := 5) (kl := .i64) (kc := .i64) (n := a) (m := a) (z := .int .u8 0) (bytes := 1) (by kernel_rfl) H.1 (fun b => ?_)
     replace H := H.2 b
     exact .cut [0] (hd5 b c) (by kernel_rfl)
   have hd8 : ∀ b : Nat, AtL TP 11 22 (regOps [.code (sub (Eng.body Tryz.f11) [1,1,0])]) 5 #[false, false, true, true, false, false, false] (KC Tryz.f11 15) [(0, IV a), (14, .slice (SO b) (Int.toNat a) (Int.toNat a))] [(b, .cells ⟨(List.replicate (Int.toNat a) (.int .u8 0))⟩ 5)] [] w0 (nrm R) := by
    intro b
    refine .step [0] (by kernel_rfl) ⟨fun c => ?_, trivial⟩
    ·have H := H0
     refine .ru 1 (.cut [0] (hd5 b c) (by kernel_rfl))
   have hd9 : AtL TP 11 22 (regOps [.code (sub (Eng.body Tryz.f11) [1,1,0])]) 6 #[true, false, false, false, false, false, false] (KC Tryz.f11 15) [(0, IV a), (11, IV a)] [] [] w0 (nrm R) := by
    refine .step [1,2] (by kernel_rfl) ⟨fun c => ?_, fun c => ?_, trivial⟩
    ·have H := H0
     refine .make (E := 5) (kl := .i64) (kc := .i64) (n := a) (m := a) (z := .int .u8 0) (bytes := 1) (by kernel_rfl) H.1 (fun B => ?_)
     replace H := H.2 B
     exact .cut [0] (hd6 B c) (by kernel_rfl)
    ·have H := H0
     refine .ru 1 (.cut [] (hd7  c) (by kernel_rfl))
   have hd10 : AtL TP 11 22 (regOps [.code (sub (Eng.body Tryz.f11) [1,1,0])]) 6 #[false, false, true, false, false, false, false] (KC Tryz.f11 15) [(0, IV a), (13, IV a)] [] [] w0 (nrm R) := by
    refine .step [0,3] (by kernel_rfl) ⟨fun c => ?_, fun c => ?_, trivial⟩
    ·have H := H0
     refine .ru 1 (.cut [] (hd7  c) (by kernel_rfl))
    ·have H := (H0.2 0)
     refine .make (E := 5) (kl := .i64) (kc := .i64) (n := a) (m := a) (z := .int .u8 0) (bytes := 1) (by kernel_rfl) H.1 (fun b => ?_)
     replace H := H.2 b
     exact .cut [0] (hd8 b c) (by kernel_rfl)
   have hd11 : AtL TP 11 22 (regOps [.code (sub (Eng.body Tryz.f11) [1,1,0])]) 7 #[false, false, false, false, false, false, false] (KC Tryz.f11 15) [(0, IV a)] [] [] w0 (nrm R) := by
    refine .step [0,2] (by kernel_rfl) ⟨fun c => ?_, fun c => ?_, trivial⟩
    ·have H := H0
     refine .ru 1 (.cut [] (hd9  c) (by kernel_rfl))
    ·have H := H0
     refine .ru 1 (.cut [] (hd10  c) (by kernel_rfl))
   exact .cut [] (.drawAny (k := (KC Tryz.f11 14)) (by kernel_rfl) hd11) (by kernel_rfl)
def DS.new (n : Nat) : DS := { on := true, cut := 0, dur := List.replicate n 0, vis := List.replicate n 0, pend := [] }
theorem bytesL_zero (n : Nat) : (List.replicate n (.int .u8 0) : List Value) = bytesL (List.replicate n 0) := by simp [bytesL]
theorem New_e {n : Int} {N : Nat} (O : n = N) (V : 1 ≤ N) (Z : N ≤ 4194304) : EffC TP 11 ⟨[.int .i64 n]⟩ [] (fun v L' => ∃ D, v = .tuple #[DP D, .int .i64 0] ∧ DRep D (DS.new N) L') := by
 subst O
 intro W hm
 refine New_vc _ hm ?_
 refine no (by omega) (no (by omega) ⟨by omega, fun B => ⟨by omega, fun M B2 => ?_⟩⟩)
 rw [Int.toNat_natCast, bytesL_zero]
 refine DK.fin' [2, 0, 1] rfl ⟨B2, rfl, ⟨rfl, ?_, ?_, ?_, ?_⟩, B, M, .inl ⟨rfl, ?_⟩⟩
 ·simp [DS.new]; omega
 ·simp [DS.new]; omega
 ·simp [DS.new]
 ·intro p hp; cases hp
 ·simp only [DS.new, List.length_replicate]; rfl
theorem openN_c : PureC TP 13 ⟨[.pointer none]⟩ (.tuple #[.pointer none, .int .i64 1]) := fun W => jOpenN_vc (Mem.start [] W) (finPure rfl)
theorem new_ok {n : Nat} (M : 64 ≤ n) (O : n ≤ 4194304) : DOk (DS.new n) :=
 ⟨by simp [DS.new], by simp [DS.new]; omega, by simp [DS.new]; omega, by simp [DS.new], fun p hp => by cases hp⟩
theorem openM_new' {n : Nat} (V : 64 ≤ n) (Z : n ≤ 4194304) : ∃ M, openM (DS.new n) = (0, some ⟨1, [], (headL 1).length, n / 2, 0, false⟩, M) ∧ Clean (zs (n % 2)) ⟨1, [], (headL 1).length, n / 2, 0, false⟩ M ∧ M.cut = 0 ∧ M.vis.length = n := by
 have O : (DS.new n).vis.length = n := List.length_replicate
 have := openM_new (new_ok V Z) rfl rfl rfl rfl (by rw [O]; rfl) (by rw [O]; exact V)
 rwa [O] at this
def sgF : Fct := ⟨1, 0, 6, 5, ⟨#[]⟩, 0, 0, ⟨#[]⟩, ⟨#[]⟩, [], [], Lab.zero, 0, 0, 0, ⟨#[]⟩, ⟨#[]⟩, 0, 0, 0⟩
theorem sgF_ok : sgF.ok = true := by kernel_rfl
theorem sgF_enc : (encS (encF sgF)).length = 5 := by kernel_rfl
theorem sgR : redJ [sgF] = [redF sgF] := by kernel_rfl
theorem sgR_enc : (encS (encF (redF sgF))).length = 5 := by kernel_rfl
theorem sg_at : FAt lk sgF none 0 none 0 none 0 := noLists rfl rfl rfl ⟨e0_sz, e0_sz, e0_sz, e0_sz, e0_sz⟩
theorem sg_rec : (recL sgF).length ≤ 16 := by have := frm_len (encS (encF sgF)); rw [sgF_enc] at this; exact this
theorem sg_rec2 : (recL (redF sgF)).length ≤ 16 := by have := frm_len (encS (encF (redF sgF))); rw [sgR_enc] at this; exact this
theorem sane24_c {W : World} (a1 : blkW W 0 = some tabV) : Calls TP 10 ⟨[]⟩ W (fun e a5 => e = .returned (.bool true) ∧ Below W.heap.size W a5) := by
 obtain ⟨b0, o1, c1, k1, n1⟩ := openM_new' (n := 200) (by decide) (by decide)
 have e4 := headL_len 1; have e5 := headL_len 2
 have e8 := sg_rec; have e9 := sg_rec2

 obtain ⟨M, O, b6, a0, a7, a4, b9, b1⟩ : ∃ M O, appendM ⟨1, [], (headL 1).length, 200 / 2, 0, false⟩ b0 sgF = (0, M, O) ∧ Clean (zs (200 % 2)) M O ∧ O.cut = 0 ∧ M.fs = [sgF] ∧ M.sz = 100 ∧ M.gen = 1 := by
  have V := append_out c1 sgF
  generalize hr : appendM ⟨1, [], (headL 1).length, 200 / 2, 0, false⟩ b0 sgF = r at V
  cases V with
  | no e he =>
   rcases he with ⟨_, he | he⟩ | ⟨_, _, _, he⟩
   ·rw [sgF_ok] at he; cases he
   ·exact absurd rfl he
   ·simp only at he; omega
  | yes d' _ _ h hl hc => exact ⟨_, d', rfl, h, hc k1, rfl, rfl, rfl⟩
  | pow d' _ hc _ => exact absurd k1 hc

 have b7 : appendM M O sgF = (240, M, O) := by
  have V := append_out a0 sgF
  generalize hr : appendM M O sgF = r at V
  cases V with
  | no e he =>
   rcases he with ⟨rfl, _⟩ | ⟨_, _, he, _⟩
   ·rfl
   ·rw [a4] at he; exact absurd he (by decide)
  | yes d' _ he _ _ _ => rw [a4] at he; exact absurd he (by decide)
  | pow d' _ hc _ => exact absurd a7 hc

 obtain ⟨Z, a3, b8, a2, f2, b3, c2⟩ : ∃ Z a3, checkM M O = (0, Z, a3) ∧ Clean (zs (200 % 2)) Z a3 ∧ a3.cut = 0 ∧ Z.fs = [redF sgF] ∧ Z.gen = 2 := by
  have V := check_out a0
  generalize hr : checkM M O = r at V
  cases V with
  | no he =>
   rcases he with he | he
   ·omega
   ·rw [a4, sgR, b1, b9] at he
    have : (cont (1 + 1) [redF sgF]).length = (headL 2).length + (recL (redF sgF)).length := by
     rw [cont, List.length_append]; simp
    omega
  | yes d' h hl hc => exact ⟨_, d', rfl, h, hc a7, by show redJ M.fs = _; rw [a4, sgR], by show M.gen + 1 = 2; rw [b1]; rfl⟩
  | pow d' hc _ => exact absurd a7 hc
 have fin : ∀ {F : SHeap}, Fin (fun e a5 => e = .returned (.bool true) ∧ Below W.heap.size W a5) F [] W (.bool true) := finPW rfl
 refine sane24_vc [] (Mem.start [] W) (CallH.effT [] (New_e (N := 200) rfl (by decide) (by decide)) ?_)
 rintro _ d5 ⟨D, rfl, c4⟩
 refine ⟨_, _, _, rfl, rfl, CallH.opn [] (T := []) (by simp) c4 (by decide) a1 ?_⟩
 rw [o1]
 rintro _ d6 X e7 ⟨JB, rfl, c6⟩
 refine ⟨_, _, _, rfl, rfl, fun B => ?_⟩
 refine CallH.app (f := sgF) (N := []) [_] (List.Perm.refl _) c6 c1.mok (by rw [c1.pend]; decide) a1 sg_at ?_
 rw [b6]
 intro d7 c7
 refine ⟨_, _, rfl, rfl, ?_⟩
 refine CallH.app (f := sgF) (N := []) [_] (List.Perm.refl _) c7 a0.mok (by rw [a0.pend]; decide) a1 sg_at ?_
 rw [b7]
 intro d8 c8
 refine ⟨_, _, rfl, rfl, ?_⟩
 refine CallH.chk (N := []) [_] (List.Perm.refl _) c8 a0.mok (by rw [a0.pend]; decide) a1 ?_
 rw [b8]
 intro d9 b5
 refine ⟨_, _, rfl, rfl, CallH.facts [_] b5 a2.mok fun p c N b4 => ⟨_, _, _, _, rfl, rfl, ?_⟩⟩
 rw [b3] at b4 ⊢
 obtain ⟨F0, p', c', a9, d2, d3, d4⟩ := b5
 refine CallH.opn [_] (pq9 (N := N) d2) d3 (by rw [a2.pend]; decide) a1 ?_
 rw [openM_clean a2]
 rintro _ a8 a6 c5 ⟨e2, rfl, d0⟩
 have c9 := JD.re (JB := JB) (X := a6) (N := N) c5 d4
 have c3 := b4.within (L := a8 ++ (a6 ++ (N ++ jH JB D (Z.js p' c') :: a9))) fun x d1 => by simp [d1]
 generalize a8 ++ (a6 ++ (N ++ jH JB D (Z.js p' c') :: a9)) = F7 at *
 refine ⟨_, _, _, rfl, rfl, CallH.pure openN_c ⟨_, _, _, rfl, rfl, ?_⟩⟩
 obtain ⟨b, o, cs, rfl, z2, z3, tp, tc, bp, bc, ap, ac, z4, z5⟩ := c3.get (i := 0) (by decide)
 refine yes rfl (yes rfl (yes rfl (yes rfl (yes rfl ⟨b, o, rfl, by decide, cs, 5, .inl ?_, ?_, yes rfl ?_⟩))))
 ·obtain ⟨t, fz, z⟩ := z2
  exact ⟨t, fz, List.mem_cons_of_mem _ z⟩
 ·have := (row_23 z4).2
  exact this
 refine CallH.gen [_] c9 ⟨_, rfl, rfl, yes c2 (yes rfl ?_)⟩
 refine CallH.facts [_] d0 a2.mok fun p c e3 e6 => ⟨_, _, _, _, rfl, rfl, ?_⟩
 rw [b3]
 exact yes rfl fin
theorem CallH.sane24 {L : SHeap} (O : blkW w0 0 = some tabV) (M : K (.bool true) L) : CallH TP 10 ⟨[]⟩ L [] w0 K :=
 CallH.ex (Q := fun v => v = .bool true) (fun W hm => (sane24_c (lkW_kept hm 0 tabV O)).mono fun e W' ⟨h1, h2⟩ => ⟨_, h1, h2, rfl⟩) fun v V => V ▸ M
abbrev RT (w0 : World) : Ending → World → Prop := fun e W' => e = .returned (.bool true) ∧ Below w0.heap.size w0 W'
theorem numF_at {f : Fct} (h : FAt lk f tp tc bp bc ap ac) (n : Int) : FAt lk { f with n := n } tp tc bp bc ap ac := ⟨h.tops, h.blks, h.ints, h.ct, h.cb, h.ca, h.fits⟩
theorem cut_on {d : DS} (M : d.on = true) {n : Int} (hn : 1 ≤ n) : d.cutAt n = (0, { d with cut := n.toNat }) := by
 rw [DS.cutAt, if_neg (by rw [M]; decide), if_neg (by omega), if_neg (by omega)]
theorem Clean.cut {R : List UInt8} {m : JM} {d : DS} (h : Clean R m d) {n : Nat} (hn : n ≤ 9223372036854775807) : Clean R m { d with cut := n } :=
 ⟨⟨h.ok.len, h.ok.pos, h.ok.le, hn, h.ok.pend⟩, h.on, h.pend, h.dur, h.vis, h.rest, h.big, h.en, h.fit, h.cu, h.gn, h.br⟩
theorem sizeN_bounds (n : Int) : 64 ≤ sizeN n ∧ sizeN n ≤ 4194304 := by
 have := Nat.mod_lt (pickN n) (show 1500 > 0 by decide)
 unfold sizeN; omega
theorem crash_open {sz n : Nat} {R : List UInt8} {d : DS} {P : Int → List Fct → Prop} (h : After sz R n d P) (Z : R.length ≤ 1) (a2 : 64 ≤ n) (keep : List Int) (torn : Int) {k : Nat} (a0 : k ≤ 9223372036854775807) :
  ∃ g fs, P g fs ∧ OpnOut sz R g fs { d.crash keep torn with cut := k } (openM { d.crash keep torn with cut := k }) ∧ (d.crash keep torn).vis.length = n := by
 obtain ⟨g, fs, O, V⟩ := crash_good h keep torn
 have a1 : (d.crash keep torn).vis.length = n := (crashed_len h.1 keep torn).trans h.2.1
 have M := DOk.crash h.1 keep torn
 exact ⟨g, fs, O, open_out (d := { d.crash keep torn with cut := k }) V ⟨M.len, M.pos, M.le, a0, M.pend⟩ rfl rfl rfl Z (by show 64 ≤ (d.crash keep torn).vis.length; omega), a1⟩
theorem crash_cut0 (d : DS) (keep : List Int) (torn : Int) : { d.crash keep torn with cut := 0 } = d.crash keep torn := rfl
theorem pick_cut (c : Int) {q : Nat} (M : 0 < q) (O : q ≤ 100) : IntKind.i64.wrap ((1 : Int) + ((pickN c % q : Nat) : Int)) = ((1 + pickN c % q : Nat) : Int) := by
 have := Nat.mod_lt (pickN c) M
 rw [wi64 (by omega)]; omega
theorem runOps_pend : ∀ (ops : List DOp) (d : DS), (runOps ops d).2.pend.length ≤ d.pend.length + ops.length
 | [], d => Nat.le_refl _
 | o :: r, d => by
  have M := run_pend o d
  rw [runOps]
  split
  ·have := runOps_pend r (o.run d).2
   rw [List.length_cons]; omega
  ·rw [List.length_cons]; omega
theorem append_pend (m : JM) (d : DS) (f : Fct) : (appendM m d f).2.2.pend.length ≤ d.pend.length + 10 := by
 have h := runOps_pend (safeOps ((m.cu * m.sz + m.en : Nat) : Int) (ba (recL f))) d
 have M : (safeOps ((m.cu * m.sz + m.en : Nat) : Int) (ba (recL f))).length = 4 := rfl
 unfold appendM
 generalize runOps (safeOps ((m.cu * m.sz + m.en : Nat) : Int) (ba (recL f))) d = r at *
 repeat' split
 all_goals simp only <;> omega
theorem check_pend (m : JM) (d : DS) : (checkM m d).2.2.pend.length ≤ d.pend.length + 10 := by
 have h := runOps_pend (checkOps m) d
 have M : (checkOps m).length = 6 := rfl
 unfold checkM
 generalize runOps (checkOps m) d = r at *
 repeat' split
 all_goals simp only <;> omega
theorem lkU_lkF {F N : SHeap} : ∀ b c, lkU F (lkF N) b c → lkF (F ++ N) b c := by
 rintro b c (h | h)
 ·exact lkF_mono (fun x M => List.mem_append_left _ M) b c h
 ·exact lkF_mono (fun x M => List.mem_append_right _ M) b c h
abbrev zL5aa (a : Fct) (b x2 x3 : Nat) (x4 x5 c : OA) : Array Value := #[IV a.n, IV a.time, IV a.kind, IV a.story, .string a.lang, IV a.rev, IV a.base, .string a.title, .string a.author, .slice x4 a.topics.length b, .slice x5 a.blocks.length x2, IV a.lab.unt, .slice c a.lab.after.length x3, IV a.lab.appr, IV a.lab.den, IV a.editor, IV a.block, IV a.sentence, .string a.text, .string a.name, IV a.partner, IV a.cls, IV a.unt]
noncomputable def law5_c0 (m : Int) (j : OA) (i h : Nat) (cut : Int) (g : OA) (f e : Nat) (k : Int) (l : Bool) (b d : OA) (c : Int) (a : SHeap) : Cut := ⟨TP, [], 8, 153, (KC Tryz.f8 1012), [(1, .slice j i h), (2, IV cut), (3, .slice g f e), (4, IV k), (11, .bool l), (12, .pointer b), (14, .pointer d), (16, IV c)], (a)⟩
noncomputable def law5_c1 (C : Int) (l : OA) (k j : Nat) (cut : Int) (i : OA) (h g : Nat) (n : Int) (a : Nat) (u : Bool) (d f : OA) (e : Int) (A : OA) (z y : Nat) (c m : Bool) (o : Fct) (x : OA) (w : Nat) (t : OA) (s : Nat) (q : OA) (p : Nat) (b : SHeap) : Cut := ⟨TP, [], 8, 153, (KC Tryz.f8 518462), [(1, .slice l k j), (2, IV cut), (3, .slice i h g), (4, IV n), (11, .bool u), (12, .pointer d), (14, .pointer f), (16, IV e), (17, .slice A z y), (18, PP a), (19, .bool c), (20, .bool m)], ((a, .cells (zL5aa o w s p x t q) 38) :: b)⟩
noncomputable def law5_c2 (C : Int) (l : OA) (k j : Nat) (cut : Int) (i : OA) (h g : Nat) (n : Int) (a : Nat) (x : Bool) (d f : OA) (e : Int) (A : OA) (z y : Nat) (c m : Bool) (o : Fct) (w : OA) (u : Nat) (t : OA) (s : Nat) (q : OA) (p : Nat) (b : SHeap) : Cut := ⟨TP, [], 8, 153, (KC Tryz.f8 518463), [(1, .slice l k j), (2, IV cut), (3, .slice i h g), (4, IV n), (11, .bool x), (12, .pointer d), (14, .pointer f), (16, IV e), (17, .slice A z y), (18, PP a), (19, .bool c), (20, .bool m)], ((a, .cells (zL5aa o u s p w t q) 38) :: b)⟩
noncomputable def law5_c3 (u : Int) (j : OA) (i h : Nat) (cut : Int) (g : OA) (f e : Nat) (l : Int) (m : Bool) (b d : OA) (ev c : Int) (t : OA) (s q : Nat) (k : Bool) (p : OA) (o n : Nat) (a : SHeap) : Cut := ⟨TP, [], 8, 153, (KC Tryz.f8 4147710), [(1, .slice j i h), (2, IV cut), (3, .slice g f e), (4, IV l), (11, .bool m), (12, .pointer b), (14, .pointer d), (15, IV ev), (16, IV c), (17, .slice t s q), (20, .bool k), (21, .slice p o n)], (a)⟩
noncomputable def law5_c4 (s : Int) (q : OA) (p o : Nat) (cut : Int) (f : OA) (e d : Nat) (g : Int) (h : Bool) (b : OA) (c : Int) (n : OA) (m l : Nat) (k : OA) (j i : Nat) (a : SHeap) : Cut := ⟨TP, [], 8, 153, (KC Tryz.f8 16590842), [(3, .slice f e d), (4, IV g), (11, .bool h), (12, .pointer b), (15, IV c), (17, .slice n m l), (21, .slice k j i)], (a)⟩
noncomputable def law5_c5 (q : Int) (k : OA) (j i : Nat) (cut : Int) (h : OA) (g f : Nat) (l : Int) (m : Bool) (b e : OA) (c d : Int) (p : OA) (o n : Nat) (a : SHeap) : Cut := ⟨TP, [], 8, 153, (KC Tryz.f8 4147711), [(1, .slice k j i), (2, IV cut), (3, .slice h g f), (4, IV l), (11, .bool m), (12, .pointer b), (14, .pointer e), (15, IV c), (16, IV d), (21, .slice p o n)], (a)⟩
noncomputable def law5_c6 (k : Int) (j : OA) (i h : Nat) (cut : Int) (g : OA) (f e : Nat) (l : Int) (d : Bool) (c : Int) (b after : Bool) (a : SHeap) : Cut := ⟨TP, [], 8, 153, (KC Tryz.f8 1061813951), [(11, .bool d), (15, IV c), (25, .bool b), (26, .bool after)], (a)⟩
theorem law5_c0_vc (n : Int) (h : OA) (e g : Nat) (cut : Int) (t : OA) (s q : Nat) (y : Int) (i : Bool) (o k : OA) (c : Int) (j : SHeap) (H : VP [] w0 R (.P 8 46 (c < (e : Int)) (.P 4 49 (c < 30) (.cl 7 15 [.pointer k] (j) <| .x4 fun r71_p f r71_c (d : SHeap) => .rt (.slice r71_p f r71_c) (d) <| .r 6 <| .x2 fun z u => .iP h z u e g 26 c (u + ((Int.toNat c) * 26)) <| .r 1 <| .x5 fun cw (b : Fct) m1tp m1tc m1bp => .x3 fun E D C => .lMa (d) z ((u + ((Int.toNat c) * 26)) + 1) 23 38 cw [IV b.n, IV b.time, IV b.kind, IV b.story, .string b.lang, IV b.rev, IV b.base, .string b.title, .string b.author, .slice m1tp b.topics.length m1tc, .slice m1bp b.blocks.length E, IV b.lab.unt, .slice D b.lab.after.length C, IV b.lab.appr, IV b.lab.den, IV b.editor, IV b.block, IV b.sentence, .string b.text, .string b.name, IV b.partner, IV b.cls, IV b.unt] <| .cl 0 14 [.agg (zL5aa b m1tc E C m1tp m1bp D)] (d) <| .x5 fun (a : Fct) r81tp r81tc r81bp r81bc => .x2 fun m l => .rt (.agg (zL5aa a r81tc r81bc l r81tp r81bp m)) (d) <| .nf 0 (.cells #[IV 0, IV 0, IV 0, IV 0, sZ, IV 0, IV 0, sZ, sZ, .slice none 0 0, .slice none 0 0, IV 0, .slice none 0 0, IV 0, IV 0, IV 0, IV 0, IV 0, sZ, sZ, IV 0, IV 0, IV 0] 38) fun B => .hp ((B, .cells #[IV (IntKind.i64.wrap ((f : Int) + 1)), IV a.time, IV a.kind, IV a.story, .string a.lang, IV a.rev, IV a.base, .string a.title, .string a.author, .slice r81tp a.topics.length r81tc, .slice r81bp a.blocks.length r81bc, IV a.lab.unt, .slice m a.lab.after.length l, IV a.lab.appr, IV a.lab.den, IV a.editor, IV a.block, IV a.sentence, .string a.text, .string a.name, IV a.partner, IV a.cls, IV a.unt] 38) :: d) fun p => .ru [200,7,200] <| .r 5 <| .x2 fun A w => .iP h A w e g 26 c (w + ((Int.toNat c) * 26)) <| .r 1 <| .x2 fun G F => .lM p A (w + ((Int.toNat c) * 26)) 3 G (IV F) <| .cl 0 17 [IV F, IV 4] p <| .ex fun x => .rt (IV x) p <| .P 11 76 (c = (IntKind.i64.wrap ((e : Int) - 1))) (.cT 6 [0] 1 (law5_c1 n h e g cut t s q y B i o k c r71_p f r71_c (decide (x = 3)) true ({ a with n := (IntKind.i64.wrap ((f : Int) + 1)) } : Fct) r81tp r81tc r81bp r81bc m l d)) <| .cT 6 [0] 1 (law5_c1 n h e g cut t s q y B i o k c r71_p f r71_c (decide (x = 3)) (decide (c = 29)) ({ a with n := (IntKind.i64.wrap ((f : Int) + 1)) } : Fct) r81tp r81tc r81bp r81bc m l d)) <| .re 7 (.bool i) (j)) <| .re 11 (.bool i) (j))) : law5_c0 n h e g cut t s q y i o k c j w0 R := VC.go Tryz.func8 _ H
theorem law5_c1_vc (x : Int) (w : OA) (u t : Nat) (cut : Int) (s : OA) (q p : Nat) (y : Int) (a : Nat) (z : Bool) (i o : OA) (n : Int) (D : OA) (C A : Nat) (l j : Bool) (b : Fct) (h : OA) (g : Nat) (f : OA) (e : Nat) (d : OA) (c : Nat) (k : SHeap) (H : VP [] w0 R (.hp ((a, .cells (zL5aa b g e c h f d) 38) :: k) fun m => .B 4 80 j (.cl 4 17 [IV cut, IV 4] m <| .ex fun F => .rt (IV F) m <| .cl 1 29 [.pointer i, IV (IntKind.i64.wrap (1 + F))] m <| .x2 fun G E => .rt (IV G) ((a, .cells (zL5aa b g e c h f d) 38) :: E) <| .cT 1 [0] 1 (law5_c2 x w u t cut s q p y a z i o n D C A l j b h g f e d c E)) <| .cT 2 [0] 1 (law5_c2 x w u t cut s q p y a z i o n D C A l j b h g f e d c k))) : law5_c1 x w u t cut s q p y a z i o n D C A l j b h g f e d c k w0 R := VC.go Tryz.func8 _ H
theorem law5_c2_vc (y : Int) (w : OA) (u t : Nat) (cut : Int) (s : OA) (q p : Nat) (z : Int) (h : Nat) (A : Bool) (n j : OA) (o : Int) (l : OA) (i k : Nat) (M x : Bool) (a : Fct) (g : OA) (f : Nat) (e : OA) (d : Nat) (c : OA) (b : Nat) (m : SHeap) (H : VP [] w0 R (.B 10 87 M (.cl 4 40 [.slice l i k] ((h, .cells (zL5aa a f d b g e c) 38) :: m) <| .x4 fun Q O N E => .rt (.slice Q O N) ((h, .cells (zL5aa a f d b g e c) 38) :: E) <| .cl 4 25 [.pointer j] ((h, .cells (zL5aa a f d b g e c) 38) :: E) <| .x2 fun U F => .rt (IV U) ((h, .cells (zL5aa a f d b g e c) 38) :: F) <| .cT 3 [] 1 (law5_c3 y w u t cut s q p z A n j U o l i k x Q O N F)) <| .ru [4,200] <| .ns true 1 (.cells (zL5aa a f d b g e c) 38) fun C => .ap 0 C 38 38 23 22 22 (.slice l i k) 1 1 [IV a.n, IV a.time, IV a.kind, IV a.story, .string a.lang, IV a.rev, IV a.base, .string a.title, .string a.author, .slice g a.topics.length f, .slice e a.blocks.length d, IV a.lab.unt, .slice c a.lab.after.length b, IV a.lab.appr, IV a.lab.den, IV a.editor, IV a.block, IV a.sentence, .string a.text, .string a.name, IV a.partner, IV a.cls, IV a.unt] ((C, .cells (zL5aa a f d b g e c) 38) :: (h, .cells (zL5aa a f d b g e c) 38) :: m) <| .x3 fun ap (G : Nat) F11 => .rt (.slice ap (i + 1) G) ((h, .cells (zL5aa a f d b g e c) 38) :: F11) <| .ru [4,200] <| .cl 0 16 [.pointer j, .agg (zL5aa a f d b g e c)] ((h, .cells (zL5aa a f d b g e c) 38) :: F11) <| .x2 fun V D => .rt (IV V) ((h, .cells (zL5aa a f d b g e c) 38) :: D) <| .cT 3 [] 1 (law5_c3 y w u t cut s q p z A n j V o l i k x ap (i + 1) G D))) : law5_c2 y w u t cut s q p z h A n j o l i k M x a g f e d c b m w0 R := VC.go Tryz.func8 _ H
theorem law5_c3_vc (i : Int) (h : OA) (g f : Nat) (cut : Int) (e : OA) (d c : Nat) (j : Int) (k : Bool) (b t : OA) (ev s : Int) (q : OA) (p o : Nat) (u : Bool) (n : OA) (m l : Nat) (a : SHeap) (H : VP [] w0 R (.P 5 101 (ev = 231) (.cT 4 [] 0 (law5_c4 i h g f cut e d c j k b ev q p o n m l a)) <| .B 3 103 u (.cT 1 [] 0 (law5_c4 i h g f cut e d c j k b ev q p o n m l a)) <| .cT 2 [] 0 (law5_c5 i h g f cut e d c j k b t ev s n m l a))) : law5_c3 i h g f cut e d c j k b t ev s q p o u n m l a w0 R := VC.go Tryz.func8 _ H
theorem law5_c4_vc (n : Int) (m : OA) (l k : Nat) (cut : Int) (f : OA) (e d : Nat) (g : Int) (s : Bool) (c : OA) (j : Int) (z : OA) (y x : Nat) (w : OA) (u t : Nat) (h : SHeap) (H : VP [] w0 R (.cl 5 34 [.pointer c, .slice f e d, IV g] (h) <| .x2 fun r151 (i : SHeap) => .rt (IV r151) (i) <| .cl 4 13 [.pointer c] (i) <| .x3 fun (o : OA) r171 (b : SHeap) => .rt (.tuple #[.pointer o, IV r171]) (b) <| .I 12 114 (r171 = 0) (.re 5 (.bool false) (b)) <| .cl 5 15 [.pointer o] (b) <| .x4 fun r181_p r181_l r181_c (a : SHeap) => .rt (.slice r181_p r181_l r181_c) (a) <| .cl 6 30 [.slice r181_p r181_l r181_c, .slice z y x] (a) <| .ex fun p => .rt (.bool p) (a) <| .cl 6 30 [.slice r181_p r181_l r181_c, .slice w u t] (a) <| .ex fun q => .rt (.bool q) (a) <| .cT 2 [] 0 (law5_c6 n m l k cut f e d g s j p q a))) : law5_c4 n m l k cut f e d g s c j z y x w u t h w0 R := VC.go Tryz.func8 _ H
theorem law5_c5_vc (k : Int) (j : OA) (i h : Nat) (cut : Int) (g : OA) (f e : Nat) (l : Int) (m : Bool) (c b : OA) (o d : Int) (t : OA) (s q : Nat) (n : SHeap) (H : VP [] w0 R (.cl 3 15 [.pointer b] (n) <| .x4 fun r221_p r221_l r221_c (a : SHeap) => .rt (.slice r221_p r221_l r221_c) (a) <| .cl 1 30 [.slice r221_p r221_l r221_c, .slice t s q] (a) <| .ex fun p => .rt (.bool p) (a) <| .P 7 148 (o = 0) (.B 1 149 p (.li 10 16 (IntKind.i64.wrap (d + 1)) fun u => .cT 2 [] 0 (law5_c0 k j i h cut g f e l m c b u a)) <| .re 8 (.bool false) (a)) <| .li 11 16 (IntKind.i64.wrap (d + 1)) fun w => .cT 2 [] 0 (law5_c0 k j i h cut g f e l m c b w a))) : law5_c5 k j i h cut g f e l m c b o d t s q n w0 R := VC.go Tryz.func8 _ H
theorem law5_c6_vc (l : Int) (k : OA) (j i : Nat) (cut : Int) (h : OA) (g f : Nat) (m : Int) (e : Bool) (b : Int) (c after : Bool) (a : SHeap) (H : VP [] w0 R (.B 4 124 e (.B 2 126 c (.r 4 <| .bn 130 (b = 0) _ dF (fun d => .re 13 (.bool true) (a)) fun d => .B 2 132 after (.r 3 <| .kn 135 (decide (b = 0)) true (decide_eq_true d) <| .re 8 (.bool true) (a)) <| .re 11 (.bool false) (a)) <| .B 6 132 after (.P 3 135 (b = 0) (.re 8 (.bool true) (a)) <| .re 8 (.bool (decide (b = 231))) (a)) <| .re 11 (.bool false) (a)) <| .re 19 (.bool false) (a))) : law5_c6 l k j i cut h g f m e b c after a w0 R := VC.go Tryz.func8 _ H
theorem law5_vc (c : Int) (k : OA) (j i : Nat) (cut : Int) (h : OA) (g f : Nat) (o : Int) (a : SHeap) (hm : Mem (a) [] w0 W) (H : VP [] w0 R (.cl 6 10 [] (a) <| .ex fun l => .rt (.bool l) (a) <| .cl 5 12 [IV c] (a) <| .ex fun m => .rt (IV m) (a) <| .cl 0 11 [IV m] (a) <| .x3 fun (d : OA) r41 (e : SHeap) => .rt (.tuple #[.pointer d, IV r41]) (e) <| .cl 9 13 [.pointer d] (e) <| .x3 fun (n : OA) r61 (b : SHeap) => .rt (.tuple #[.pointer n, IV r61]) (b) <| .I 12 41 (r61 = 0) (.re 5 (.bool false) (b)) <| .cT 9 [] 0 (law5_c0 c k j i cut h g f o l d n 0 b))) : Calls TP 8 ⟨[IV c, .slice k j i, IV cut, .slice h g f, IV o]⟩ W R := VC.cs Tryz.func8 hm _ H
def Out5 (R : List UInt8) (n cut0 : Nat) (was want : List Fct) (e : Int) (m : JM) (d : DS) : Prop :=
 (e = 0 ∧ Clean R m d ∧ m.fs = want ∧ d.vis.length = n ∧ (cut0 = 0 → d.cut = 0)) ∨ ((e = 240 ∨ e = 241) ∧ Clean R m d ∧ m.fs = was ∧ d.vis.length = n ∧ (cut0 = 0 → d.cut = 0)) ∨
  (e = 231 ∧ cut0 ≠ 0 ∧ After m.sz R n d fun g fs => fs = was ∨ fs = want)
theorem Out5.after {R : List UInt8} {n V : Nat} {O M : List Fct} {e : Int} {m : JM} {d : DS} (h : Out5 R n V O M e m d) : After m.sz R n d fun g fs => (fs = O ∧ e ≠ 0) ∨ (fs = M ∧ (e = 0 ∨ e = 231)) := by
 rcases h with ⟨rfl, h, hf, hl, _⟩ | ⟨he, h, hf, hl, _⟩ | ⟨rfl, _, h⟩
 ·have := After.of_clean h
  rw [hl] at this
  exact this.mono fun g fs ⟨_, h2⟩ => .inr ⟨h2.trans hf, .inl rfl⟩
 ·have := After.of_clean h
  rw [hl] at this
  exact this.mono fun g fs ⟨_, h2⟩ => .inl ⟨h2.trans hf, by omega⟩
 ·exact h.mono fun g fs Z => Z.elim (fun h => .inl ⟨h, by decide⟩) fun h => .inr ⟨h, .inr rfl⟩
theorem append_out5 {R : List UInt8} {m : JM} {d : DS} (h : Clean R m d) (f : Fct) : Out5 R d.vis.length d.cut m.fs (m.fs ++ [f]) (appendM m d f).1 (appendM m d f).2.1 (appendM m d f).2.2 := by
 have M := append_out h f
 generalize appendM m d f = r at M
 cases M with
 | no e he => exact .inr (.inl ⟨by rcases he with he | he <;> simp [he.1], h, rfl, rfl, id⟩)
 | yes d' _ _ h' hl hc => exact .inl ⟨rfl, h', rfl, hl, hc⟩
 | pow d' _ hc h' => exact .inr (.inr ⟨rfl, hc, h'.mono fun g fs O => O.2⟩)
theorem check_out5 {R : List UInt8} {m : JM} {d : DS} (h : Clean R m d) : Out5 R d.vis.length d.cut m.fs (redJ m.fs) (checkM m d).1 (checkM m d).2.1 (checkM m d).2.2 := by
 have M := check_out h
 generalize checkM m d = r at M
 cases M with
 | no he => exact .inr (.inl ⟨.inr rfl, h, rfl, rfl, id⟩)
 | yes d' h' hl hc => exact .inl ⟨rfl, h', rfl, hl, hc⟩
 | pow d' hc h' => exact .inr (.inr ⟨rfl, hc, h'.mono fun g fs O => O.elim (fun h => .inl h.2) fun h => .inr h.2⟩)
theorem lkU_W {w0 W : World} {A L : SHeap} (hm : Mem L [] w0 W) (h : ∀ x ∈ A, x ∈ L) : ∀ b c, lkU A (lkW w0) b c → lkW W b c := by
 rintro b c (M | M)
 ·exact lkF_W hm h b c M
 ·exact lkW_kept hm b c M
theorem CallH.sameU {w0 : World} {F : SHeap} {K : Value → SHeap → Prop} {p q : OA} {V Z : Nat} {a b : List Fct} (a1 : FctsL (lkU F (lkW w0)) p a) (a2 : FctsL (lkU F (lkW w0)) q b) (a4 : a.length ≤ 1000000) (a0 : K (.bool (decide (a = b))) F) : CallH TP 30 ⟨[.slice p a.length V, .slice q b.length Z]⟩ F [] w0 K :=
 CallH.pw (fun a3 O => fSameL_c (a1.mono (lkU_W O fun x M => M)) (a2.mono (lkU_W O fun x M => M)) (by omega)) a0
section l5
variable {w0 : World} {n : Int} {lp : Option Addr} {lc JB D : Nat} {cut torn : Int} {kp : Option Addr} {kc : Nat} {ks : List Int} {R : List UInt8} {l : List JDeed}
theorem l5_c6 {a1 : Nat} {e : Int} {F : SHeap} {fs a0 Z : List Fct} (h : (fs = a0 ∧ e ≠ 0) ∨ (fs = Z ∧ (e = 0 ∨ e = 231))) :
  law5_c6 n lp a1 lc cut kp ks.length kc torn true e (decide (fs = a0)) (decide (fs = Z)) F w0 (RT w0) := by
 apply law5_c6_vc
 refine tt rfl ⟨fun V => ⟨fun M => finPW rfl, fun M => ⟨fun O => finPW rfl, fun O => ?_⟩⟩, fun V => ⟨fun M => ⟨fun O => finPW rfl, fun O => finPW ?_⟩, fun M => ?_⟩⟩
 ·rcases h with h | h
  ·exact absurd M h.2
  ·exact absurd h.1 (of_decide_eq_false O)
 ·rcases h with h | h
  ·exact absurd h.1 (of_decide_eq_false V)
  ·rcases h.2 with h | h
   ·exact absurd h O
   ·rw [decide_eq_true h]
 ·rcases h with h | h
  ·exact absurd h.1 (of_decide_eq_false V)
  ·exact absurd h.1 (of_decide_eq_false M)
def Next5 (w0 : World) (n : Int) (lp : OA) (ll lc JB D : Nat) (cut torn : Int) (kp : OA) (kl kc : Nat) (R : List UInt8) (i : Nat) : Prop :=
 ∀ (m : JM) (d : DS) (F : SHeap), JD JB D m d F → Clean R m d → d.cut = 0 → law5_c0 n lp ll lc cut kp kl kc torn true (SO D) (SO JB) (i : Int) F w0 (RT w0)
theorem l5_c4 {c7 N a8 : Nat} {e : Int} {m : JM} {d : DS} {A L : SHeap} {Z V : List Fct} {a3 a2 : OA} {wc gc : Nat} (b5 : blkW w0 0 = some tabV) (b9 : IntsL (lkW w0) kp ks) (b8 : ks.length ≤ 9223372036854775807)
  (b1 : R.length ≤ 1) (a9 : 64 ≤ N) (c2 : Out5 R N a8 Z V e m d) (b7 : JD JB D m d L) (hp : d.pend.length ≤ 100)
  (c3 : FctsL (lkU A (lkW w0)) a3 Z) (b6 : FctsL (lkU A (lkW w0)) a2 V) :
  law5_c4 n lp c7 lc cut kp ks.length kc torn true (SO D) e a3 Z.length wc a2 V.length gc (A ++ L) w0 (RT w0) := by
 apply law5_c4_vc
 obtain ⟨F0, p, c, T, c9, d0, d6⟩ := b7
 refine CallH.crash [] (pq9 (N := A) c9) d0 (by omega) b8 b9 torn fun d1 b3 => ⟨_, _, rfl, rfl, ?_⟩
 obtain ⟨g, fs, b4, a5, d4⟩ := crash_open c2.after b1 a9 ks torn (k := 0) (by omega)
 rw [crash_cut0] at a5
 refine CallH.opn [] (List.Perm.refl _) b3 (by show 0 < _; decide) b5 ?_
 generalize hr2 : openM (d.crash ks torn) = r2 at a5 ⊢
 cases a5 with
 | pow d' hc _ => exact absurd rfl hc
 | yes m' d' h hg' hf hz hl3 hc =>
  rintro _ a0 a1 d3 ⟨a7, rfl, a4⟩
  have k1 : FctsL (lkU (a0 ++ (a1 ++ (A ++ jH JB D (m.js p c) :: T))) (lkW w0)) a3 Z := c3.mono (lkU_up fun x M => by simp [M])
  have c6 : FctsL (lkU (a0 ++ (a1 ++ (A ++ jH JB D (m.js p c) :: T))) (lkW w0)) a2 V := b6.mono (lkU_up fun x M => by simp [M])
  replace a4 : JD a7 D m' d' (a0 ++ (a1 ++ (A ++ jH JB D (m.js p c) :: T))) := a4
  show ∃ _ _ _, _
  generalize a0 ++ (a1 ++ (A ++ jH JB D (m.js p c) :: T)) = G at *
  refine ⟨_, _, _, rfl, rfl, fun h => absurd rfl h, fun _ => CallH.facts [] a4 h.mok fun c8 d2 O b0 => ⟨_, _, _, _, rfl, rfl, ?_⟩⟩
  have a6 : FctsL (lkU (O ++ G) (lkW w0)) c8 m'.fs := (b0.within (L := O ++ G) fun x M => by simp [M]).mono fun b c h => .inl h
  have c4 : FctsL (lkU (O ++ G) (lkW w0)) a3 Z := k1.mono (lkU_up fun x M => by simp [M])
  have c5 : FctsL (lkU (O ++ G) (lkW w0)) a2 V := c6.mono (lkU_up fun x M => by simp [M])
  have d5 := h.mok.len
  refine CallH.sameU (F := O ++ G) a6 c4 (by omega) ⟨_, rfl, rfl, CallH.sameU (F := O ++ G) a6 c5 (by omega) ⟨_, rfl, rfl, ?_⟩⟩
  rw [hf]
  exact l5_c6 b4
theorem l5_c3 {b8 N a7 i : Nat} {e : Int} {m : JM} {d : DS} {A L : SHeap} {a6 V : List Fct} {b9 a0 : OA} {wc gc : Nat} {last : Bool} (b3 : blkW w0 0 = some tabV) (b5 : IntsL (lkW w0) kp ks) (b4 : ks.length ≤ 9223372036854775807)
  (next : Next5 w0 n lp b8 lc JB D cut torn kp ks.length kc R (i + 1)) (hi : i < 1000) (b6 : last = false → a7 = 0) (a9 : R.length ≤ 1) (a8 : 64 ≤ N) (a4 : Out5 R N a7 a6 V e m d) (Z : JD JB D m d L) (hp : d.pend.length ≤ 100)
  (b7 : FctsL (lkU A (lkW w0)) b9 a6) (a2 : FctsL (lkU A (lkW w0)) a0 V) :
  law5_c3 n lp b8 lc cut kp ks.length kc torn true (SO D) (SO JB) e (i : Int) b9 a6.length wc last a0 V.length gc (A ++ L) w0 (RT w0) := by
 apply law5_c3_vc
 have c4 : IntKind.i64.wrap ((i : Int) + 1) = ((i + 1 : Nat) : Int) := by rw [wi64 (by omega)]; omega
 refine ⟨fun b1 => l5_c4 b3 b5 b4 a9 a8 a4 Z hp b7 a2, fun b1 => ⟨fun a3 => l5_c4 b3 b5 b4 a9 a8 a4 Z hp b7 a2, fun a3 => ?_⟩⟩
 ·apply law5_c5_vc
  obtain ⟨b0, O, c3⟩ : Clean R m d ∧ d.cut = 0 ∧ (e = 0 → m.fs = V) := by
   rcases a4 with ⟨_, h, hf, _, O⟩ | ⟨a1, h, hf, _, O⟩ | ⟨h, _⟩
   ·exact ⟨h, O (b6 a3), fun _ => hf⟩
   ·exact ⟨h, O (b6 a3), fun h => by omega⟩
   ·exact absurd h b1
  have hm := b0.mok
  have c6 := hm.len
  refine CallH.facts [] (Z.more A) hm fun p c M c2 => ⟨_, _, _, _, rfl, rfl, ?_⟩
  have k1 : FctsL (lkU (M ++ (A ++ L)) (lkW w0)) p m.fs := (c2.within (L := M ++ (A ++ L)) fun x a5 => by simp [a5]).mono fun b c h => .inl h
  have c5 : FctsL (lkU (M ++ (A ++ L)) (lkW w0)) a0 V := a2.mono (lkU_up fun x a5 => by simp [a5])
  refine CallH.sameU (F := M ++ (A ++ L)) k1 c5 (by omega) ⟨_, rfl, rfl, fun a1 => tt (decide_eq_true (c3 a1)) ?_, fun a1 => ?_⟩
  all_goals
   rintro _ rfl
   rw [c4]
   exact next m d _ ((Z.more A).more M) b0 O
section perms
variable {x y : Nat × Obj} {F A N N2 L T X : SHeap}
theorem pn1 (M : F.Perm (N ++ L)) : (N2 ++ F).Perm ((N2 ++ N) ++ L) := by rw [List.append_assoc]; exact M.append_left N2
theorem pn2 (a0 : F.Perm (N ++ L)) : (x :: y :: F).Perm ([] ++ (N ++ (x :: y :: L))) := perm_of fun c w M O V Z => by
 have := Z _ _ a0
 simp only [M, O, V, List.nil_append] at *; omega
theorem pn4 : (F ++ (N ++ (x :: T))).Perm (N ++ (F ++ (x :: T))) := perm_a
theorem pn3 : (N ++ (x :: y :: L)).Perm (y :: (N ++ (x :: L))) := perm_a
end perms
theorem FRow.onto {lk : Lk} {fs : List Fct} {p : OA} {c : Nat} {G : SHeap} (h : FRow noLk fs p c G) : FRow lk fs p c G := h.mono fun b c h => h.elim
theorem l5_c2 {b1 i B : Nat} {m : JM} {d : DS} {N L F : SHeap} {a2 : OA} {wc : Nat} {chk last : Bool} {u : Fct} {tp bp ap : OA} {tc bc ac : Nat} (V : blkW w0 0 = some tabV) (a7 : IntsL (lkW w0) kp ks) (a6 : ks.length ≤ 9223372036854775807)
  (next : Next5 w0 n lp b1 lc JB D cut torn kp ks.length kc R (i + 1)) (hi : i < 1000) (a8 : last = false → d.cut = 0) (M : Clean R m d) (a0 : F.Perm (N ++ L)) (a5 : JD JB D m d L) (a4 : FRow noLk m.fs a2 wc N) (a9 : FAt (lkW w0) u tp tc bp bc ap ac) :
  law5_c2 n lp b1 lc cut kp ks.length kc torn B true (SO D) (SO JB) (i : Int) a2 m.fs.length wc chk last u tp tc bp bc ap ac F w0 (RT w0) := by
 apply law5_c2_vc
 have hm := M.mok
 have c6 := hm.len
 have c7 : d.pend.length = 0 := by rw [M.pend]; rfl
 have b0 : FctsL (lkF N) a2 m.fs := a4.within fun x O => O
 refine ⟨fun b5 => ?_, fun b5 B3 => ?_⟩
 ·refine CallH.new (lk := lkF N) [_] (T := F) (lred_e b0 (fun f b9 => ok_small (hm.ok f b9)) (by omega)) (fun W hm => lkF_W hm fun x O => List.mem_cons_of_mem _ (a0.mem_iff.2 (List.mem_append_left _ O))) ?_
  rintro _ Z ⟨b3, b4, rfl, b8⟩
  have c4 : FctsL (lkF (Z ++ N)) b3 (redJ m.fs) := b8.fcts.mono lkU_lkF
  have c2 : (redJ m.fs).length = m.fs.length := List.length_map _
  refine ⟨b3, (redJ m.fs).length, b4, _, by rw [c2], rfl, ?_⟩
  refine CallH.chk (N := Z ++ N) [_] (pn1 a0) a5 hm (by omega) V fun L' a1 => ⟨_, _, rfl, rfl, ?_⟩
  have hp := check_pend m d
  exact l5_c3 (A := Z ++ N) (L := L') V a7 a6 next hi a8 M.rest M.big (check_out5 M) a1 (by omega) (b0.mono fun b c h => .inl (lkF_mono (fun x O => List.mem_append_right _ O) b c h)) (c4.mono fun b c h => .inl h)
 ·refine (FRow.push (lk := lkW w0) (f := u) (X := []) a4.onto (a9.mono lkU_r) rfl (by omega) (pn2 a0)).monoP ?_
  rintro _ c5 ⟨p', c', a3, rfl, c3, b6, b7, _⟩
  refine ⟨_, c3.trans pn3, p', c', _, rfl, rfl, ?_⟩
  refine CallH.appA (f := u) (N := a3) [_] rfl (List.Perm.refl _) (a5.more [_]) hm (by omega) V a9 fun L' a1 => ⟨_, _, rfl, rfl, ?_⟩
  have hp := append_pend m d u
  have := l5_c3 (A := a3) (L := L') (wc := wc) (gc := c') V a7 a6 next hi a8 M.rest M.big (append_out5 M u) a1 (by omega) b7.fcts b6.fcts
  rw [List.length_append] at this
  exact this
theorem l5_c1 {a5 i B : Nat} {m : JM} {d : DS} {N L F : SHeap} {a6 : OA} {wc : Nat} {chk last : Bool} {u : Fct} {tp bp ap : OA} {tc bc ac : Nat} (a9 : i64 cut) (a0 : blkW w0 0 = some tabV) (a3 : IntsL (lkW w0) kp ks) (a2 : ks.length ≤ 9223372036854775807)
  (next : Next5 w0 n lp a5 lc JB D cut torn kp ks.length kc R (i + 1)) (hi : i < 1000) (a8 : d.cut = 0) (M : Clean R m d) (V : F.Perm (N ++ L)) (a1 : JD JB D m d L) (Z : FRow noLk m.fs a6 wc N) (a4 : FAt (lkW w0) u tp tc bp bc ap ac) :
  law5_c1 n lp a5 lc cut kp ks.length kc torn B true (SO D) (SO JB) (i : Int) a6 m.fs.length wc chk last u tp tc bp bc ap ac F w0 (RT w0) := by
 apply law5_c1_vc
 refine ⟨fun O => ?_, fun O => l5_c2 a0 a3 a2 next hi (fun _ => a8) M V a1 Z a4⟩
 have b3 := pick_cut cut (show 0 < 4 by decide) (by decide)
 have b8 := Nat.mod_lt (pickN cut) (show 4 > 0 by decide)
 refine CallH.pure (pick24_c cut 4 a9 (by decide)) ⟨_, rfl, rfl, ?_⟩
 rw [b3]
 obtain ⟨q, b4⟩ : ∃ q, q = 1 + pickN cut % 4 := ⟨_, rfl⟩
 rw [← b4]
 obtain ⟨F0, p, c, T, b5, b6, b7⟩ := a1
 refine CallH.dsk [_] (V.trans ((b5.append_left N).trans (pq9 (List.Perm.refl _)))) (Cut_e b6 (n := (q : Int)) (by omega)) ?_
 rw [cut_on M.on (by omega), Int.toNat_natCast]
 intro a7 b0
 have b1 : JD JB D m { d with cut := q } (a7 ++ (jH JB D (m.js p c) :: T)) := JD.re (X := []) (N := []) b0 b7
 refine ⟨_, _, rfl, rfl, ?_⟩
 exact l5_c2 a0 a3 a2 next hi (fun h => by rw [O] at h; cases h) (M.cut (n := q) (by omega)) pn4 b1 Z a4
theorem l5_loop (O : i64 cut) (V : blkW w0 0 = some tabV) (a0 : IntsL (lkW w0) kp ks) (Z : ks.length ≤ 9223372036854775807) (M : SlAt (lkW w0) 26 (DeedL (lkW w0)) lp l) :
  ∀ (g i : Nat), g + i = 30 → Next5 w0 n lp l.length lc JB D cut torn kp ks.length kc R i
 | 0, i, hgi, m, d, F, hj, hc, h0 => by
  apply law5_c0_vc
  exact ⟨fun _ => no (by omega) (finPW rfl), fun _ => finPW rfl⟩
 | g + 1, i, hgi, m, d, F, hj, hc, h0 => by
  apply law5_c0_vc
  have ih := l5_loop O V a0 Z M g (i + 1) (by omega)
  refine ⟨fun hi => yes (by omega) ?_, fun _ => finPW rfl⟩
  have hi : i < l.length := by omega
  have hm := hc.mok
  have a8 := hm.len
  obtain ⟨b, o, cs, tp, tc, bp, bc, ap, ac, rfl, a2, a5, a6, a3, a7⟩ := deed_get M hi
  refine CallH.facts [] hj hm fun p c N a4 => ⟨_, _, _, _, rfl, rfl, b, o, rfl, by omega, cs, l[i].f, tp, tc, bp, bc, ap, ac, .inr a2, a5, CallH.pure (few24_c a3.cb) ⟨cutF l[i].f, tp, tc, bp, bc, ap, ac, rfl, rfl, ?_⟩⟩
  have a1 := cutF_at a3.at
  generalize cutF l[i].f = z at a1 ⊢
  intro B
  refine ⟨b, o, rfl, by omega, cs, l[i].call, .inr a2, a6, CallH.pure (pick24_c l[i].call 4 a7 (by decide)) ⟨_, rfl, rfl, fun _ => ?_, fun _ => ?_⟩⟩
  all_goals exact l5_c1 (N := N) (L := F) O V a0 Z ih (by omega) h0 hc (List.Perm.refl _) hj a4 (numF_at a1 _)
theorem jrn5 {W : World} (hn : i64 n) (V : i64 cut) (M : blkW W 0 = some tabV) (a2 : IntsL (lkW W) kp ks) (a1 : ks.length ≤ 9223372036854775807) (a3 : SlAt (lkW W) 26 (DeedL (lkW W)) lp l) :
  PW TP 8 ⟨[.int .i64 n, .slice lp l.length lc, .int .i64 cut, .slice kp ks.length kc, .int .i64 torn]⟩ W (.bool true) := by
 obtain ⟨O, b2⟩ := sizeN_bounds n
 refine law5_vc n lp l.length lc cut kp ks.length kc torn [] (Mem.start [] W) (CallH.sane24 M ⟨_, rfl, rfl, CallH.pure (size24_c n hn) ⟨_, rfl, rfl, CallH.effT [] (New_e (N := sizeN n) rfl (by omega) b2) ?_⟩⟩)
 rintro _ a4 ⟨D, rfl, Z⟩
 obtain ⟨a6, o1, c1, k1, n1⟩ := openM_new' O b2
 refine ⟨_, _, _, rfl, rfl, CallH.opn [] (T := []) (by simp) Z (by show 0 < 900000; decide) M ?_⟩
 rw [o1]
 rintro _ a5 X a7 ⟨JB, rfl, a0⟩
 exact ⟨_, _, _, rfl, rfl, fun h => absurd rfl h, fun _ => l5_loop V M a2 a1 a3 30 0 rfl _ _ _ a0 c1 k1⟩
end l5
end Go.Eng
