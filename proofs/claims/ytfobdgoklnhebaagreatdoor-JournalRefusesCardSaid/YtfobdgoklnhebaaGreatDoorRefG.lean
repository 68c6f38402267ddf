/- A part of the proof. -/
import Derived.Test.YtfobdgoklnhebaaGreatDoorChecked
import Derived.Test.YtfobdgoklnhebaaGreatDoorRefF
set_option linter.unusedVariables false
set_option linter.unusedSimpArgs false
set_option maxRecDepth 100000
namespace Go.Eng
open Go Go.RowKit Go.Proofs Wire
variable {P : Program} {R : Ending → World → Prop} {S : List Nat} {w0 W : World} {lk : Lk} {tp bp ap : OA} {tc bc ac : Nat} {K K' : Value → SHeap → Prop} {args : Array Value} {g : FuncId}
theorem crc_okInt (s : List UInt8) : okInt (crc s : Int) := by
 have := crc_lt s
 unfold okInt maxInt; omega
theorem frm_int {g : Int} (h : okInt g) (r : List UInt8) : frmR rdInt (headL g ++ r) = some (g, (headL g).length) := by
 have e : headL g ++ r = 1 :: (Wire.enc g ++ (Wire.enc (crc (Wire.enc g) : Int) ++ r)) := by rw [headL, frm]; simp
 rw [e, frmR, if_pos rfl, rdInt_enc h]
 simp only [List.drop_left, rdInt_enc (crc_okInt _), List.take_left, if_true]
 rw [headL, frm]; simp; omega
theorem frm_str {t : List UInt8} (h : t.length ≤ 65536) (r : List UInt8) : frmR rdStrB (frm (encS t) ++ r) = some (ba t, (frm (encS t)).length) := by
 have e : frm (encS t) ++ r = 1 :: (encS t ++ (Wire.enc (crc (encS t) : Int) ++ r)) := by rw [frm]; simp
 have M : rdStrB (encS t ++ (Wire.enc (crc (encS t) : Int) ++ r)) = some (ba t, (encS t).length) := by rw [rdStrB, rdStr_enc h]; rfl
 rw [e, frmR, if_pos rfl, M]
 simp only [List.drop_left, rdInt_enc (crc_okInt _), List.take_left, if_true]
 rw [frm]; simp; omega
theorem frm_int_inv {l : List UInt8} {g : Int} {k : Nat} (h : frmR rdInt l = some (g, k)) : okInt g ∧ k = (headL g).length ∧ l = headL g ++ l.drop k := by
 obtain ⟨r, rfl⟩ := frmR_one h
 rw [frmR, if_pos rfl] at h
 split at h
 ·cases h
 ·next v k1 hv =>
  split at h
  ·cases h
  ·next c k2 hc =>
   split at h
   ·next hcrc =>
    simp only [Option.some.injEq, Prod.mk.injEq] at h
    obtain ⟨rfl, rfl⟩ := h
    obtain ⟨O, a2, V, a3⟩ := rdInt_inv hv
    have a1 := rdInt_split hv
    have M := rdInt_split hc
    obtain ⟨a4, b2, a5, Z⟩ := rdInt_inv hc
    subst hcrc
    rw [V] at M Z
    have a0 : (headL v).length = 1 + k1 + k2 := by rw [headL, frm]; simp; omega
    refine ⟨O, a0.symm, ?_⟩
    have e : (1 :: r).drop (1 + k1 + k2) = (r.drop k1).drop k2 := by rw [List.drop_drop, show 1 + k1 + k2 = (k1 + k2) + 1 by omega, List.drop_succ_cons]
    rw [e, headL, frm]
    simp only [List.cons_append, List.append_assoc, List.cons.injEq, true_and]
    rw [← M, ← a1]
   ·cases h
theorem frm_str_inv {l : List UInt8} {t : BA} {k : Nat} (h : frmR rdStrB l = some (t, k)) : (bts t).length ≤ 65536 ∧ k = (frm (encS (bts t))).length ∧ l = frm (encS (bts t)) ++ l.drop k := by
 obtain ⟨r, rfl⟩ := frmR_one h
 rw [frmR, if_pos rfl] at h
 split at h
 ·cases h
 ·next v k1 M =>
  split at h
  ·cases h
  ·next c k2 hc =>
   split at h
   ·next hcrc =>
    simp only [Option.some.injEq, Prod.mk.injEq] at h
    obtain ⟨rfl, rfl⟩ := h
    rw [rdStrB, Option.map_eq_some_iff] at M
    obtain ⟨⟨u, k'⟩, M, O⟩ := M
    simp only [Prod.mk.injEq] at O
    obtain ⟨rfl, rfl⟩ := O
    have a2 : bts (⟨u.toArray⟩ : BA) = u := bts_mk u
    rw [a2]
    obtain ⟨Z, a5, a0, a6⟩ := rdStr_inv M
    have a4 := rdStr_split M
    have V := rdInt_split hc
    obtain ⟨a7, b2, a8, a1⟩ := rdInt_inv hc
    subst hcrc
    rw [a0] at V a1
    have a3 : (frm (encS u)).length = 1 + k' + k2 := by rw [frm]; simp; omega
    refine ⟨Z, a3.symm, ?_⟩
    have e : (1 :: r).drop (1 + k' + k2) = (r.drop k').drop k2 := by rw [List.drop_drop, show 1 + k' + k2 = (k' + k2) + 1 by omega, List.drop_succ_cons]
    rw [e, frm]
    simp only [List.cons_append, List.append_assoc, List.cons.injEq, true_and]
    rw [← V, ← a4]
   ·cases h
def Numb : List Fct → Nat → Prop
 | [], _ => True
 | f :: r, n => f.ok = true ∧ f.n = (n : Int) ∧ Numb r (n + 1)
theorem Numb.snoc : ∀ {l : List Fct} {n : Nat} {f : Fct}, Numb l n → f.ok = true → f.n = ((n + l.length : Nat) : Int) → Numb (l ++ [f]) n
 | [], n, f, _, h1, h2 => ⟨h1, by simpa using h2, trivial⟩
 | a :: l, n, f, h, h1, h2 => ⟨h.1, h.2.1, Numb.snoc h.2.2 h1 (by rw [h2]; simp; omega)⟩
theorem Numb.all : ∀ {l : List Fct} {n : Nat}, Numb l n → ∀ f ∈ l, f.ok = true
 | [], _, _, f, hf => by cases hf
 | a :: l, n, h, f, hf => by
  rcases List.mem_cons.1 hf with rfl | hf
  ·exact h.1
  ·exact Numb.all h.2.2 f hf
theorem Numb.len : ∀ {l : List Fct} {n : Nat}, Numb l n → n + l.length ≤ 501 ∨ l = []
 | [], _, _ => .inr rfl
 | a :: l, n, h => by
  refine .inl ?_
  have := (Fct.good h.1).n
  have hn := h.2.1
  rcases Numb.len h.2.2 with h2 | h2
  ·rw [List.length_cons]; omega
  ·subst h2; simp; omega
theorem Numb.red {t : List Fct} : ∀ {l : List Fct} {n : Nat}, Numb l n → Numb (redG t l) n
 | [], _, _ => trivial
 | a :: l, n, h => ⟨red_ok' h.1, by
   show (if takenB t a.story = true then redF a else a).n = _
   split
   ·rw [red_n]; exact h.2.1
   ·exact h.2.1, Numb.red h.2.2⟩
theorem recL_head (f : Fct) : ∃ r, recL f = 1 :: r := ⟨_, by rw [recL, frm]⟩
theorem pR_fwd : ∀ (fs : List Fct) (n : Nat) (t : List UInt8), Numb fs n → Ends t → pR (flat fs ++ t) n = some (fs, (flat fs).length)
 | [], n, t, _, ht => by
  rcases ht with rfl | ⟨r, rfl⟩
  ·rfl
  ·exact pR_zero
 | f :: r, n, t, h, ht => by
  obtain ⟨Z, a2, a3⟩ := h
  have a6 := encF_small Z
  have e : flat (f :: r) ++ t = recL f ++ (flat r ++ t) := by simp
  obtain ⟨q, a4⟩ := recL_head f
  have O := frm_str (t := encF f) (by omega) (flat r ++ t)
  have O : frmR rdStrB (recL f ++ (flat r ++ t)) = some (ba (encF f), (recL f).length) := O
  have V : recL f ++ (flat r ++ t) = 1 :: (q ++ (flat r ++ t)) := by rw [a4]; rfl
  rw [e]
  have a0 := O
  rw [V] at a0
  have a1 := pR_step (n := n) (show (1 : UInt8) ≠ 0 by decide) a0
  have M : decF (bts (ba (encF f))) = (f, 0) := by rw [bts_mk]; exact decF_enc Z
  have a5 : Takes (ba (encF f)) n := ⟨by rw [M], by rw [M]; exact a2⟩
  rw [if_pos a5, ← V, List.drop_left, pR_fwd r (n + 1) t a3 ht, M] at a1
  rw [a1]
  simp
theorem pR_inv : ∀ (g : Nat) (l : List UInt8) (n : Nat) (fs : List Fct) (m : Nat), l.length ≤ g → pR l n = some (fs, m) → Numb fs n ∧ m = (flat fs).length ∧ ∃ t, l = flat fs ++ t ∧ Ends t
 | 0, l, n, fs, m, hg, h => by
  obtain rfl : l = [] := List.length_eq_zero_iff.1 (by omega)
  rw [pR_nil] at h
  simp only [Option.some.injEq, Prod.mk.injEq] at h
  obtain ⟨rfl, rfl⟩ := h
  exact ⟨trivial, rfl, [], rfl, .inl rfl⟩
 | g + 1, l, n, fs, m, hg, h => by
  cases l with
  | nil =>
   rw [pR_nil] at h
   simp only [Option.some.injEq, Prod.mk.injEq] at h
   obtain ⟨rfl, rfl⟩ := h
   exact ⟨trivial, rfl, [], rfl, .inl rfl⟩
  | cons b r =>
   by_cases hb : b = 0
   ·subst hb
    rw [pR_zero] at h
    simp only [Option.some.injEq, Prod.mk.injEq] at h
    obtain ⟨rfl, rfl⟩ := h
    exact ⟨trivial, rfl, 0 :: r, rfl, .inr ⟨r, rfl⟩⟩
   ·cases hf : frmR rdStrB (b :: r) with
    | none => rw [pR_none hb hf] at h; cases h
    | some q =>
     obtain ⟨t, k⟩ := q
     rw [pR_step hb hf] at h
     have a7 := frmR_pos hf
     obtain ⟨a8, Z, a0⟩ := frm_str_inv hf
     split at h
     ·next ht =>
      rw [Option.map_eq_some_iff] at h
      obtain ⟨⟨a6, a9⟩, V, O⟩ := h
      simp only [Prod.mk.injEq] at O
      obtain ⟨rfl, rfl⟩ := O
      obtain ⟨a1, a2, t', a3, a4⟩ := pR_inv g _ _ _ _ (by rw [List.length_drop, List.length_cons]; simp at hg; omega) V
      obtain ⟨o1, a5⟩ := enc_decF (s := bts t) (f := (decF (bts t)).1) (Prod.ext rfl ht.1)
      have M : recL (decF (bts t)).1 = frm (encS (bts t)) := by rw [recL, a5]
      refine ⟨⟨o1, ht.2, a1⟩, ?_, t', ?_, a4⟩
      ·rw [a2, Z, ← M]; simp
      ·rw [a0, a3, ← M]; simp
     ·cases h
theorem halfR_fwd {g : Int} {fs : List Fct} {t : List UInt8} (V : okInt g) (a1 : 1 ≤ g) (hn : Numb fs 1) (a0 : Ends t) : halfR (cont g fs ++ t) = some (g, fs, (cont g fs).length) := by
 have O := frm_int V (flat fs ++ t)
 have e : cont g fs ++ t = headL g ++ (flat fs ++ t) := by rw [cont, List.append_assoc]
 obtain ⟨q, Z⟩ : ∃ q, headL g = 1 :: q := ⟨_, by rw [headL, frm]⟩
 have M : headL g ++ (flat fs ++ t) = 1 :: (q ++ (flat fs ++ t)) := by rw [Z]; rfl
 rw [e, M, halfR, if_neg (by decide), ← M, O]
 simp only
 rw [if_neg (by omega), List.drop_left, pR_fwd fs 1 t hn a0]
 simp
theorem halfR_ends {l : List UInt8} (h : Ends l) : halfR l = some (0, [], 0) := by
 rcases h with rfl | ⟨r, rfl⟩
 ·rfl
 ·rw [halfR, if_pos rfl]
theorem halfR_inv {l : List UInt8} {g : Int} {fs : List Fct} {e : Nat} (h : halfR l = some (g, fs, e)) : (g = 0 ∧ fs = [] ∧ e = 0 ∧ Ends l) ∨ (1 ≤ g ∧ okInt g ∧ Numb fs 1 ∧ e = (cont g fs).length ∧ ∃ t, l = cont g fs ++ t ∧ Ends t) := by
 cases l with
 | nil =>
  rw [halfR] at h
  simp only [Option.some.injEq, Prod.mk.injEq] at h
  obtain ⟨rfl, rfl, rfl⟩ := h
  exact .inl ⟨rfl, rfl, rfl, .inl rfl⟩
 | cons b r =>
  rw [halfR] at h
  split at h
  ·next hb =>
   simp only [Option.some.injEq, Prod.mk.injEq] at h
   obtain ⟨rfl, rfl, rfl⟩ := h
   exact .inl ⟨rfl, rfl, rfl, .inr ⟨r, by rw [hb]⟩⟩
  ·split at h
   ·cases h
   ·next v k hf =>
    split at h
    ·cases h
    ·next hg =>
     rw [Option.map_eq_some_iff] at h
     obtain ⟨⟨a5, a6⟩, O, M⟩ := h
     simp only [Prod.mk.injEq] at M
     obtain ⟨rfl, rfl, rfl⟩ := M
     obtain ⟨V, Z, a0⟩ := frm_int_inv hf
     obtain ⟨a1, a2, t', a3, a4⟩ := pR_inv _ _ _ _ _ (Nat.le_refl _) O
     refine .inr ⟨by omega, V, a1, ?_, t', ?_, a4⟩
     ·rw [cont, List.length_append, Z, a2]
     ·rw [a0, a3, cont, List.append_assoc]
abbrev zK7aa : Array Value := #[IV 0, .slice none 0 0, IV 0, IV 0, .slice none 0 0, IV 0]
abbrev yK7aa (d e : BA) (x2 x3 x4 x5 m : Int) (n b c f g h i j : Nat) (a k : OA) (l : SHeap) : SHeap := (n, .cells #[IV x2, .slice a b c, IV x3, PP f, IV x4, IV 1, .bool false] 86) :: (g, .cells #[.string d, .string e] 87) :: (h, .cells #[IV x5, .slice k i j, IV m, IV x2, .slice a b c, IV x3] 89) :: l
abbrev yK7ab (d e : BA) (x2 x3 x4 x5 m : Int) (n b c f g h i j : Nat) (a k : OA) (l : SHeap) : SHeap := (n, .cells #[IV x2, .slice a b c, IV x3, PP f, IV x4, IV 0, .bool false] 86) :: (g, .cells #[.string d, .string e] 87) :: (h, .cells #[IV x2, .slice a b c, IV x3, IV x5, .slice k i j, IV m] 89) :: l
noncomputable def jOpen_c0 (w a b c : Nat) (e u : Int) (n : Nat) (o : Int) (f h : BA) (g : Int) (k : OA) (j i : Nat) (l m : Int) (s : OA) (q p : Nat) (t : Int) (d : SHeap) (S : List Nat) : Cut := ⟨TP, S, 13, 139, (KC Tryz.f13 4094), [(4, PP a), (5, PP b), (9, PP c), (14, IV e), (15, IV u)], ((a, .cells #[IV 0, .slice none 0 0, IV 0, PP n, IV o, IV 0, .bool false] 86) :: (b, .cells #[.string f, .string h] 87) :: (c, .cells #[IV g, .slice k j i, IV l, IV m, .slice s q p, IV t] 89) :: d)⟩
theorem jOpen_c0_vc (c0 a n o : Nat) (a5 b7 : Int) (p : Nat) (q : Int) (d e : BA) (b : Int) (h : OA) (g f : Nat) (i c : Int) (l : OA) (k j : Nat) (m : Int) (y : SHeap) (H : VP S w0 R (.P 6 95 (a5 < b7) (.ru [5,200,7,200,1,202,2,200,4,201] <| .cl 0 46 [PP a, .agg #[.string d, .string e]] (yK7aa d e c m q b i a k j p n o g f l h y) <| .x4 fun sp sl E Y => .rt (.slice sp sl E) (yK7aa d e c m q b i a k j p n o g f l h Y) <| .hp (yK7aa d e c m q b i a k j p n o g f l h Y) fun s => .ru [9,200] <| .P 2 116 (c = 0) (.cl 3 48 [IV 1] s <| .x2 fun b0 b1 => .rt (.tuple #[.string b0, IV b1]) s <| .cl 2 47 [.string b0, IV b1] s <| .ex fun u => .rt (.string u) s <| .cl 7 49 [PP a, IV 0, .string u] s <| .x3 fun b8 b5 M => .rt (.slice b8 4 b5) (yK7aa d e c m q b i a k j p n o g f l h M) <| .ex fun (c2 : List Value) => .aq 1 92 92 (.slice sp sl E) (.slice b8 4 b5) 4 c2 (yK7aa d e c m q b i a k j p n o g f l h M) <| .x3 fun ap (Z : Nat) F11 => .rt (.slice ap (sl + 4) Z) (yK7aa d e c m q b i a k j p n o g f l h F11) <| .ru [9,200] <| .cl 6 50 [PP a, .slice ap (sl + 4) Z] ((a, .cells #[IV 1, .slice none 0 0, IV (u.size : Int), PP p, IV q, IV 1, .bool false] 86) :: (n, .cells #[.string d, .string e] 87) :: (o, .cells #[IV b, .slice h g f, IV i, IV c, .slice l k j, IV m] 89) :: F11) <| .x3 fun N z a1 => .rt (IV z) ((a, .cells #[IV 1, .slice none 0 0, IV (u.size : Int), PP p, IV q, IV 1, .bool a1] 86) :: (n, .cells #[.string d, .string e] 87) :: (o, .cells #[IV b, .slice h g f, IV i, IV c, .slice l k j, IV m] 89) :: N) <| .hp ((a, .cells #[IV 1, .slice none 0 0, IV (u.size : Int), PP p, IV q, IV 1, .bool a1] 86) :: (n, .cells #[.string d, .string e] 87) :: (o, .cells #[IV b, .slice h g f, IV i, IV c, .slice l k j, IV m] 89) :: N) fun a6 => .I 7 136 (z = 0) (.re 7 (.tuple #[.pointer none, IV z]) a6) <| .re 8 (.tuple #[PP a, IV 0]) a6) <| .cl 7 50 [PP a, .slice sp sl E] s <| .x3 fun O A a2 => .rt (IV A) ((a, .cells #[IV c, .slice l k j, IV m, PP p, IV q, IV 1, .bool a2] 86) :: (n, .cells #[.string d, .string e] 87) :: (o, .cells #[IV b, .slice h g f, IV i, IV c, .slice l k j, IV m] 89) :: O) <| .hp ((a, .cells #[IV c, .slice l k j, IV m, PP p, IV q, IV 1, .bool a2] 86) :: (n, .cells #[.string d, .string e] 87) :: (o, .cells #[IV b, .slice h g f, IV i, IV c, .slice l k j, IV m] 89) :: O) fun a7 => .I 7 136 (A = 0) (.re 7 (.tuple #[.pointer none, IV A]) a7) <| .re 8 (.tuple #[PP a, IV 0]) a7) <| .ru [8,200,1,202,2,200,4,201] <| .cl 0 46 [PP a, .agg #[.string d, .string e]] (yK7ab d e b i q c m a g f p n o k j h l y) <| .x4 fun G x F Q => .rt (.slice G x F) (yK7ab d e b i q c m a g f p n o k j h l Q) <| .hp (yK7ab d e b i q c m a g f p n o k j h l Q) fun t => .ru [9,200] <| .P 2 116 (b = 0) (.cl 3 48 [IV 1] t <| .x2 fun b3 b4 => .rt (.tuple #[.string b3, IV b4]) t <| .cl 2 47 [.string b3, IV b4] t <| .ex fun w => .rt (.string w) t <| .cl 7 49 [PP a, IV 0, .string w] t <| .x3 fun b9 b6 U => .rt (.slice b9 4 b6) (yK7ab d e b i q c m a g f p n o k j h l U) <| .ex fun (c3 : List Value) => .aq 1 92 92 (.slice G x F) (.slice b9 4 b6) 4 c3 (yK7ab d e b i q c m a g f p n o k j h l U) <| .x3 fun ap1 (a0 : Nat) F16 => .rt (.slice ap1 (x + 4) a0) (yK7ab d e b i q c m a g f p n o k j h l F16) <| .ru [9,200] <| .cl 6 50 [PP a, .slice ap1 (x + 4) a0] ((a, .cells #[IV 1, .slice none 0 0, IV (w.size : Int), PP p, IV q, IV 0, .bool false] 86) :: (n, .cells #[.string d, .string e] 87) :: (o, .cells #[IV b, .slice h g f, IV i, IV c, .slice l k j, IV m] 89) :: F16) <| .x3 fun V C a3 => .rt (IV C) ((a, .cells #[IV 1, .slice none 0 0, IV (w.size : Int), PP p, IV q, IV 0, .bool a3] 86) :: (n, .cells #[.string d, .string e] 87) :: (o, .cells #[IV b, .slice h g f, IV i, IV c, .slice l k j, IV m] 89) :: V) <| .hp ((a, .cells #[IV 1, .slice none 0 0, IV (w.size : Int), PP p, IV q, IV 0, .bool a3] 86) :: (n, .cells #[.string d, .string e] 87) :: (o, .cells #[IV b, .slice h g f, IV i, IV c, .slice l k j, IV m] 89) :: V) fun a8 => .I 7 136 (C = 0) (.re 7 (.tuple #[.pointer none, IV C]) a8) <| .re 8 (.tuple #[PP a, IV 0]) a8) <| .cl 7 50 [PP a, .slice G x F] t <| .x3 fun X D a4 => .rt (IV D) ((a, .cells #[IV b, .slice h g f, IV i, PP p, IV q, IV 0, .bool a4] 86) :: (n, .cells #[.string d, .string e] 87) :: (o, .cells #[IV b, .slice h g f, IV i, IV c, .slice l k j, IV m] 89) :: X) <| .hp ((a, .cells #[IV b, .slice h g f, IV i, PP p, IV q, IV 0, .bool a4] 86) :: (n, .cells #[.string d, .string e] 87) :: (o, .cells #[IV b, .slice h g f, IV i, IV c, .slice l k j, IV m] 89) :: X) fun a9 => .I 7 136 (D = 0) (.re 7 (.tuple #[.pointer none, IV D]) a9) <| .re 8 (.tuple #[PP a, IV 0]) a9)) : jOpen_c0 c0 a n o a5 b7 p q d e b h g f i c l k j m y S w0 R := VC.go Tryz.func13 _ H
theorem jOpen_vc (a : Nat) (x : SHeap) (hm : Mem (x) S w0 W) (H : VP S w0 R (.cl 9 42 [PP a] (x) <| .x2 fun (o : SHeap) dn => .rt (IV dn) (o) <| .P 2 21 (dn = 0) (.re 6 (.tuple #[.pointer none, IV 1]) (o)) <| .cl 6 42 [PP a] (o) <| .x2 fun (p : SHeap) dn1 => .rt (IV dn1) (p) <| .P 2 24 (dn1 < 64) (.re 6 (.tuple #[.pointer none, IV 240]) (p)) <| .cl 6 42 [PP a] (p) <| .x2 fun (y : SHeap) dn2 => .rt (IV dn2) (y) <| .nf 2 (.cells #[IV 0, .slice none 0 0, IV 0, PP a, IV (IntKind.i64.wrap (dn2.tdiv 2)), IV 0, .bool false] 86) fun B => .nf 4 (.cells #[sZ, sZ] 87) fun c => .r 23 <| .dD <| .nm [0,4,5,6,31] <| .ph 9 [0,1,2,3,4,5,6,7] [8] 2 <| .qu [3] <| .ex fun A => .qc 44 [PP B, IV 0] [(c, .cells #[sZ, sZ] 87), (B, .cells #[IV 0, .slice none 0 0, IV 0, PP a, IV (IntKind.i64.wrap (dn2.tdiv 2)), IV 0, .bool false] 86)] (IV A) <| .qu [3,101] <| .dn <| .cl 43 [PP a, IV A, IV (IntKind.i64.wrap (dn2.tdiv 2))] ((c, .cells #[sZ, sZ] 87) :: (B, .cells #[IV 0, .slice none 0 0, IV 0, PP a, IV (IntKind.i64.wrap (dn2.tdiv 2)), IV 0, .bool false] 86) :: y) <| .x3 fun q d re => .rt (.tuple #[.string d, IV re]) ((c, .cells #[sZ, sZ] 87) :: (B, .cells #[IV 0, .slice none 0 0, IV 0, PP a, IV (IntKind.i64.wrap (dn2.tdiv 2)), IV 0, .bool false] 86) :: q) <| .dn <| .nm [0,4,5,6,31,43] <| .ph 14 [9,10,11,12,13] [] 2 <| .qu [5] <| .dn <| .dn <| .tl <| .I 7 47 (re = 0) (.re 7 (.tuple #[.pointer none, IV re]) ((c, .cells #[sZ, sZ] 87) :: (B, .cells #[IV 0, .slice none 0 0, IV 0, PP a, IV (IntKind.i64.wrap (dn2.tdiv 2)), IV 0, .bool false] 86) :: q)) <| .ru [6,200] <| .r 22 <| .dD <| .nm [0,4,5,6,31] <| .ph 9 [0,1,2,3,4,5,6,7] [8] 2 <| .qu [3] <| .ex fun C => .qc 44 [PP B, IV 1] [(c, .cells #[.string d, sZ] 87), (B, .cells #[IV 0, .slice none 0 0, IV 0, PP a, IV (IntKind.i64.wrap (dn2.tdiv 2)), IV 0, .bool false] 86)] (IV C) <| .qu [3,101] <| .dn <| .cl 43 [PP a, IV C, IV (IntKind.i64.wrap (dn2.tdiv 2))] ((c, .cells #[.string d, sZ] 87) :: (B, .cells #[IV 0, .slice none 0 0, IV 0, PP a, IV (IntKind.i64.wrap (dn2.tdiv 2)), IV 0, .bool false] 86) :: q) <| .x3 fun s j u => .rt (.tuple #[.string j, IV u]) ((c, .cells #[.string d, sZ] 87) :: (B, .cells #[IV 0, .slice none 0 0, IV 0, PP a, IV (IntKind.i64.wrap (dn2.tdiv 2)), IV 0, .bool false] 86) :: s) <| .dn <| .nm [0,4,5,6,31,43] <| .ph 14 [9,10,11,12,13] [] 2 <| .qu [5] <| .dn <| .dn <| .tl <| .I 7 47 (u = 0) (.re 7 (.tuple #[.pointer none, IV u]) ((c, .cells #[.string d, sZ] 87) :: (B, .cells #[IV 0, .slice none 0 0, IV 0, PP a, IV (IntKind.i64.wrap (dn2.tdiv 2)), IV 0, .bool false] 86) :: s)) <| .ru [6,200] <| .nf 16 (.cells zK7aa 89) fun k => .ru [4,201] <| .cl 23 45 [.string d] ((k, .cells zK7aa 89) :: (c, .cells #[.string d, .string j] 87) :: (B, .cells #[IV 0, .slice none 0 0, IV 0, PP a, IV (IntKind.i64.wrap (dn2.tdiv 2)), IV 0, .bool false] 86) :: s) <| .x5 fun b i h f g => .x2 fun good t => .rt (.tuple #[.agg #[IV b, .slice i h f, IV g], .bool good]) ((k, .cells zK7aa 89) :: (c, .cells #[.string d, .string j] 87) :: (B, .cells #[IV 0, .slice none 0 0, IV 0, PP a, IV (IntKind.i64.wrap (dn2.tdiv 2)), IV 0, .bool false] 86) :: t) <| .nf 3 (.cells #[IV 0, .slice none 0 0, IV 0] 84) fun n => .ru [200] <| .B 6 63 good (.ru [6,200,1,201] <| .cl 26 45 [.string j] ((n, .cells #[IV b, .slice i h f, IV g] 84) :: (k, .cells #[IV b, .slice i h f, IV g, IV 0, .slice none 0 0, IV 0] 89) :: (c, .cells #[.string d, .string j] 87) :: (B, .cells #[IV 0, .slice none 0 0, IV 0, PP a, IV (IntKind.i64.wrap (dn2.tdiv 2)), IV 0, .bool false] 86) :: t) <| .x5 fun e pp1 pl1 pc1 l => .x2 fun z m => .rt (.tuple #[.agg #[IV e, .slice pp1 pl1 pc1, IV l], .bool z]) ((n, .cells #[IV b, .slice i h f, IV g] 84) :: (k, .cells #[IV b, .slice i h f, IV g, IV 0, .slice none 0 0, IV 0] 89) :: (c, .cells #[.string d, .string j] 87) :: (B, .cells #[IV 0, .slice none 0 0, IV 0, PP a, IV (IntKind.i64.wrap (dn2.tdiv 2)), IV 0, .bool false] 86) :: m) <| .nf 3 (.cells #[IV 0, .slice none 0 0, IV 0] 84) fun w => .ru [200] <| .B 6 63 z (.ru [6,200,1,202] <| .r 15 <| .dr 8 <| .qu [2,102,2,102,2] <| .dn <| .P 7 77 (0 < b) (.P 4 81 (0 < e) (.I 6 87 ((IntKind.i64.wrap (b - e)) = 1) (.I 6 92 ((IntKind.i64.wrap (e - b)) = 1) (.re 6 (.tuple #[.pointer none, IV 242]) ((w, .cells #[IV e, .slice pp1 pl1 pc1, IV l] 84) :: (n, .cells #[IV b, .slice i h f, IV g] 84) :: (k, .cells #[IV b, .slice i h f, IV g, IV e, .slice pp1 pl1 pc1, IV l] 89) :: (c, .cells #[.string d, .string j] 87) :: (B, .cells #[IV 0, .slice none 0 0, IV 0, PP a, IV (IntKind.i64.wrap (dn2.tdiv 2)), IV 0, .bool false] 86) :: m)) <| .cT 3 [4,3,2] 5 (jOpen_c0 a B c k b e a (IntKind.i64.wrap (dn2.tdiv 2)) d j b i h f g e pp1 pl1 pc1 l m S)) <| .cT 9 [4,3,2] 5 (jOpen_c0 a B c k b e a (IntKind.i64.wrap (dn2.tdiv 2)) d j b i h f g e pp1 pl1 pc1 l m S)) <| .cT 15 [4,3,2] 5 (jOpen_c0 a B c k b e a (IntKind.i64.wrap (dn2.tdiv 2)) d j b i h f g e pp1 pl1 pc1 l m S)) <| .cT 19 [4,3,2] 5 (jOpen_c0 a B c k b e a (IntKind.i64.wrap (dn2.tdiv 2)) d j b i h f g e pp1 pl1 pc1 l m S)) <| .re 8 (.tuple #[.pointer none, IV 242]) ((w, .cells #[IV e, .slice pp1 pl1 pc1, IV l] 84) :: (n, .cells #[IV b, .slice i h f, IV g] 84) :: (k, .cells #[IV b, .slice i h f, IV g, IV 0, .slice none 0 0, IV 0] 89) :: (c, .cells #[.string d, .string j] 87) :: (B, .cells #[IV 0, .slice none 0 0, IV 0, PP a, IV (IntKind.i64.wrap (dn2.tdiv 2)), IV 0, .bool false] 86) :: m)) <| .re 8 (.tuple #[.pointer none, IV 242]) ((n, .cells #[IV b, .slice i h f, IV g] 84) :: (k, .cells zK7aa 89) :: (c, .cells #[.string d, .string j] 87) :: (B, .cells #[IV 0, .slice none 0 0, IV 0, PP a, IV (IntKind.i64.wrap (dn2.tdiv 2)), IV 0, .bool false] 86) :: t))) : Calls TP 13 ⟨[PP a]⟩ W R := VC.cs Tryz.func13 hm _ H
def img0 (d : DS) : List UInt8 := d.vis.take (d.vis.length / 2)
def img1 (d : DS) : List UInt8 := (d.vis.drop (d.vis.length / 2)).take (d.vis.length / 2)
def openJ (sz : Nat) (h0 h1 : Int × List Fct × Nat) : JM := if h0.1 < h1.1 then ⟨h1.1, h1.2.1, h1.2.2, sz, 1, false⟩ else ⟨h0.1, h0.2.1, h0.2.2, sz, 0, false⟩
def openOps (i0 i1 : List UInt8) (j : JM) : List DOp := if j.gen = 0 then cleanOps j.gen j.cu j.en j.sz i0 i1 ++ safeOps 0 (ba (headL 1)) else cleanOps j.gen j.cu j.en j.sz i0 i1
def openF (j : JM) : JM := if j.gen = 0 then ⟨1, [], (headL 1).length, j.sz, j.cu, j.br⟩ else j
def openRun (i0 i1 : List UInt8) (j : JM) (d : DS) : Int × Option JM × DS :=
 if (runOps (openOps i0 i1 j) d).1 = 0 then (0, some (openF j), (runOps (openOps i0 i1 j) d).2) else ((runOps (openOps i0 i1 j) d).1, none, (runOps (openOps i0 i1 j) d).2)
def openM (d : DS) : Int × Option JM × DS :=
 if d.vis.length < 64 then (240, none, d) else if d.on = false then (231, none, d) else
 match halfR (img0 d), halfR (img1 d) with
 | some h0, some h1 => if 0 < h0.1 ∧ 0 < h1.1 ∧ ¬ (h0.1 - h1.1 = 1) ∧ ¬ (h1.1 - h0.1 = 1) then (242, none, d) else openRun (img0 d) (img1 d) (openJ (d.vis.length / 2) h0 h1) d
 | _, _ => (242, none, d)
def OpnK (D : Nat) (r : Int × Option JM × DS) (v : Value) (L' : SHeap) : Prop :=
 match r with
 | (e, none, d') => v = .tuple #[.pointer none, .int .i64 e] ∧ ∃ F' X, L'.Perm (F' ++ X) ∧ DRep D d' F'
 | (e, some m, d') => ∃ JB, v = .tuple #[pt JB 0, .int .i64 0] ∧ JD JB D m d' L'
theorem run_s {JB D : Nat} {ops : List DOp} {q : OA} {qc n : Nat} {N F : SHeap} {j : JS} {d : DS} (a0 : SRow JB D ops q qc N) (hn : ops.length = n) (Z : n ≤ 1000) (O : DRep D d F) (hp : d.pend.length < 900000) :
  EffC TP 50 ⟨[pt JB 0, .slice q n qc]⟩ (jH JB D j :: (F ++ N)) (RunK JB D j N (runOps ops d)) := by
 subst hn
 obtain ⟨a4, ⟨rfl, rfl, rfl⟩ | ⟨Q, cs, a3, rfl, M, a5, V⟩⟩ := a0
 ·intro W hm
  refine jRun_vc JB none 0 0 j.gen j.fp j.fl j.fc j.en D j.sz j.cu j.br (F ++ N) hm ?_
  apply jRun_c0_vc
  exact no (by omega) (dkFin ⟨F, rfl, rfl, O⟩)
 ·refine run_e (Bs := Q) (vs := cs) (sc := qc) (M.mem_iff.2 List.mem_cons_self) (by omega) (fun i hi => ?_) Z O hp
  obtain ⟨v, k1, a2⟩ := V i hi
  have : cs[i]'(by omega) = v := by
   rw [List.getElem?_eq_getElem (by omega)] at k1
   exact Option.some.inj k1
  rw [this]
  exact a2.mono fun x a1 => M.mem_iff.2 (List.mem_cons_of_mem _ a1)
theorem CallH.monoP {P : Program} {L : SHeap} {S : List Nat} {w0 : World} {g : FuncId} {args : Array Value} {K K' : Value → SHeap → Prop} (h : CallH P g args L S w0 K) (Z : ∀ v L', K v L' → ∃ M, L'.Perm M ∧ K' v M) : CallH P g args L S w0 K' :=
 fun W hm => (h W hm).mono fun _ _ ⟨v, L', h1, h2, h3⟩ => by
  obtain ⟨M, O, V⟩ := Z v L' h3
  exact ⟨v, M, h1, h2.perm O.symm, V⟩
section perms
variable (x y z q u : Nat × Obj) (A F T X Z N G Y L F8 : SHeap)
theorem po0 : ((x :: X) ++ (y :: z :: A)).Perm (x :: y :: z :: (X ++ A)) := perm_a
theorem po1 (hp : L.Perm (x :: (N ++ (Y ++ (y :: z :: F8))))) : L.Perm (x :: y :: z :: (N ++ (Y ++ F8))) := perm_of fun c w M O V Z => by
 have := Z _ _ hp
 simp only [M, O, V] at this ⊢; omega
theorem po2 (hp : F8.Perm (F ++ T)) : ((x :: (F ++ N)) ++ (y :: z :: (Y ++ T))).Perm (x :: y :: z :: (N ++ (Y ++ F8))) := perm_of fun c w M O V Z => by
 have := Z _ _ hp
 simp only [M, O, V] at this ⊢; omega
theorem po3 : ((x :: (F ++ N)) ++ (y :: z :: (Y ++ T))).Perm (x :: y :: z :: (F ++ (N ++ (Y ++ T)))) := perm_a
theorem po4 : (x :: y :: z :: (F ++ A)).Perm (F ++ (x :: y :: z :: A)) := perm_a
theorem po5 : (x :: y :: z :: (F ++ (N ++ (Y ++ T)))).Perm (x :: (F ++ ((y :: z :: (N ++ Y)) ++ T))) := perm_a
theorem po6 (hp : F8.Perm (F ++ T)) : (x :: y :: z :: (X ++ (N ++ (Y ++ F8)))).Perm (X ++ (N ++ (x :: y :: z :: (Y ++ (F ++ T))))) := perm_of fun c w M O V Z => by
 have := Z _ _ hp
 simp only [M, O, V] at this ⊢; omega
theorem po7 : (N ++ (x :: y :: z :: (Y ++ (F ++ T)))).Perm (x :: y :: z :: (N ++ (Y ++ (F ++ T)))) := perm_a
end perms
section opn
variable {JB D : Nat} {m : JM} {p : Option Addr} {c : Nat} {T F F8 : SHeap} {S : List Nat} {w0 : World} (y z : Nat × Obj)
abbrev OpnR (S : List Nat) (w0 : World) (D : Nat) (r : Int × Option JM × DS) : Ending → World → Prop := fun e W' => ∃ v L', e = .returned v ∧ Mem L' S w0 W' ∧ OpnK D r v L'
theorem open_end {d : DS} {O V : List UInt8} {M : JM} {ops : List DOp} {q : OA} {qc n : Nat} {N Y : SHeap} (b0 : openF M = m) (b4 : openOps O V M = ops) (a5 : F8.Perm (F ++ T)) (a6 : FRow noLk m.fs p c T) (b5 : SRow JB D ops q qc N) (hn : ops.length = n) (b3 : n ≤ 1000) (a9 : DRep D d F) (hp : d.pend.length < 900000) :
    CallH TP 50 ⟨[pt JB 0, .slice q n qc]⟩ (jH JB D (m.js p c) :: y :: z :: (N ++ (Y ++ F8))) S w0 (fun v L' => ∃ (a0 : SHeap) (Z : Int) (a1 : Bool), v = (.int .i64 Z) ∧ L' = (jH JB D { m.js p c with br := a1 } :: y :: z :: a0) ∧
              ((¬ (Z = (0 : Int))) →
                Fin (OpnR S w0 D (openRun O V M d)) (jH JB D { m.js p c with br := a1 } :: y :: z :: a0) S w0 (.tuple #[.pointer none, .int .i64 Z])) ∧
               ((Z = (0 : Int)) →
                Fin (OpnR S w0 D (openRun O V M d)) (jH JB D { m.js p c with br := a1 } :: y :: z :: a0) S w0 (.tuple #[.pointer (SO JB), .int .i64 (0 : Int)]))) := by
  refine CallH.eff (L0 := jH JB D (m.js p c) :: (F ++ N)) (L1 := y :: z :: (Y ++ T)) (run_s (j := m.js p c) b5 hn b3 a9 hp) (po2 _ _ _ _ _ _ _ _ a5) ?_
  rintro _ _ ⟨F', rfl, rfl, a3⟩
  have a2 : openRun O V M d = if (runOps ops d).1 = 0 then (0, some m, (runOps ops d).2) else ((runOps ops d).1, none, (runOps ops d).2) := by rw [openRun, b4, b0]
  generalize runOps ops d = r at *
  have a7 : jH JB D ((m.js p c).after r.1) = jH JB D { m.js p c with br := ((m.js p c).after r.1).br } := by
    unfold JS.after; split <;> rfl
  rw [a7]
  refine ⟨_, po3 _ _ _ _ _ _ _, _, r.1, ((m.js p c).after r.1).br, rfl, rfl, fun b1 => ?_, fun a4 => ?_⟩
  · rw [a2, if_neg b1]
    exact dkFin ⟨rfl, F', _, po4 _ _ _ _ _, a3⟩
  · rw [a2, if_pos a4]
    have a8 : ((m.js p c).after r.1).br = m.br := by rw [JS.after, if_pos a4]
    rw [a8]
    exact dkFin ⟨JB, rfl, F', p, c, _, po5 _ _ _ _ _ _ _, a3, a6.more _⟩
theorem dirtyOp_len (k sz fr : Nat) (M : List UInt8) : (dirtyOp k sz fr M).length ≤ 1 := by
 unfold dirtyOp; split
 ·exact Nat.zero_le _
 ·exact Nat.le_refl 1
theorem cleanOps_len (gen : Int) (cu en sz : Nat) (M O : List UInt8) : (cleanOps gen cu en sz M O).length ≤ 3 := by
 have V := dirtyOp_len 0 sz en M; have Z := dirtyOp_len 1 sz 0 O; have a0 := dirtyOp_len 0 sz 0 M; have a1 := dirtyOp_len 1 sz en O
 have key : ∀ l : List DOp, l.length ≤ 2 → (syncIf l).length ≤ 3 := by
  intro l a2
  unfold syncIf; split
  ·exact Nat.zero_le _
  ·rw [List.length_append]; simp; omega
 unfold cleanOps
 apply key
 repeat' split
 all_goals rw [List.length_append]; omega
theorem src_steps {L X : SHeap} {ops : List DOp} {Bs : Nat} (hn : ops.length = 4) (h : StepsAt X JB D ops Bs) (a2 : ∀ x ∈ X, x ∈ L) : ∃ V : List Value, (∀ W, Mem L S w0 W → Go.Src TP 1 92 (.slice (SO Bs) 4 4) 4 V W) ∧ ∃ a0 : ops.length = V.length, ∀ i (hi : i < ops.length), StepAt X JB D ops[i] (V[i]'(by omega)) := by
 obtain ⟨vs, t, fz, a1, a3, Z⟩ := h
 have a0 : (vs.take 4).length = 4 := by rw [List.length_take]; omega
 refine ⟨vs.take 4, fun W hm => Go.Src.ofSlice W (e' := 53) (by kernel_rfl) ⟨Bs, 0, none⟩ 4 4 (vs.take 4) a0 (fun j u M => ?_) (fun u M => ?_), by omega, fun i hi => ?_⟩
 ·rw [addr_add, Nat.zero_add, cell_of_heap (hm.here _ (a2 _ a1))]
  rw [List.getElem?_take] at M
  split at M
  ·exact M
  ·cases M
 ·obtain ⟨i, hi, rfl⟩ := List.mem_iff_getElem.1 M
  have O := Z i (by omega)
  rw [List.getElem_take]
  revert O
  generalize ops[i]'(by omega) = o
  intro O
  cases o with
  | sync => rw [show vs[i]'(by omega) = _ from O]; rfl
  | write off s => obtain ⟨a, b, c, e, _⟩ := O; rw [e]; rfl
 ·rw [List.getElem_take]; exact Z i hi
theorem open_c0 {d : DS} {rs rs1 : BA} {sz : Nat} {g0 g1 : Int} {f0 f1 : List Fct} {e0 e1 : Nat} {p0 p1 : OA} {c0 c1 : Nat} {B6 B7 : Nat} (b5 : blkW w0 0 = some tabV) (a9 : 0 ∉ S) (a6 : sz ≤ 2097152) (a3 : rs.size ≤ 2097152) (a4 : rs1.size ≤ 2097152) (b3 : e0 ≤ rs.size) (b4 : e1 ≤ rs1.size) (d1 : 0 ≤ g0)
  (V : F8.Perm (F ++ T)) (b0 : FRow noLk f0 p0 c0 T) (b1 : FRow noLk f1 p1 c1 T) (Z : DRep D d F) (hp : d.pend.length < 900000) :
  jOpen_c0 D JB B6 B7 g0 g1 D (sz : Int) rs rs1 g0 p0 f0.length c0 (e0 : Int) g1 p1 f1.length c1 (e1 : Int) F8 S w0 (OpnR S w0 D (openRun (bts rs) (bts rs1) (openJ sz (g0, f0, e0) (g1, f1, e1)) d)) := by
 apply jOpen_c0_vc
 refine ⟨fun a5 => ?_, fun b6 => ?_⟩
 ·have a0 : openJ sz (g0, f0, e0) (g1, f1, e1) = ⟨g1, f1, e1, sz, 1, false⟩ := if_pos a5
  rw [a0]
  refine CallH.monoP (fun W hm => cleaning1 (JB := JB) (D := D) (p := p1) (c := c1) (gen := g1) (fs := f1) (en := e1) (br := false) a6 a3 a4 b4 hm) ?_
  rintro _ L' ⟨q, qc, N, Y, rfl, a1, O⟩
  have b7 := cleanOps_len g1 1 e1 sz (bts rs) (bts rs1)
  refine ⟨_, po1 _ _ _ _ _ _ _ a1, q, _, qc, _, rfl, rfl, fun M => absurd a5 (by omega), fun M => ?_⟩
  exact open_end (m := ⟨g1, f1, e1, sz, 1, false⟩) (p := p1) (c := c1) _ _ (if_neg M) (if_neg M) V b1 O rfl (by omega) Z hp
 ·have a0 : openJ sz (g0, f0, e0) (g1, f1, e1) = ⟨g0, f0, e0, sz, 0, false⟩ := if_neg b6
  rw [a0]
  refine CallH.monoP (fun W hm => cleaning0 (JB := JB) (D := D) (p := p0) (c := c0) (gen := g0) (fs := f0) (en := e0) (br := false) a6 a3 a4 b3 hm) ?_
  rintro _ L' ⟨q, qc, N, Y, rfl, a1, O⟩
  have b7 := cleanOps_len g0 0 e0 sz (bts rs) (bts rs1)
  refine ⟨_, po1 _ _ _ _ _ _ _ a1, q, _, qc, _, rfl, rfl, fun M => ?_, fun M => ?_⟩
  ·refine CallH.pure (PutInt_c _) ⟨encB 1, 0, if_pos (okI (by omega)), rfl, ?_⟩
   have c9 := enc_len 1
   refine CallH.pureG (framing_c (by rw [encB_size]; omega)) a9 b5 ⟨_, rfl, rfl, ?_⟩
   have a7 : frm (bts (encB 1)) = headL 1 := by rw [encB_bts]; rfl
   rw [a7]
   have d0 := headL_len 1
   have a8 : (ba (headL 1)).size = (headL 1).length := ba_size _
   have d2 : 1 ≤ (headL 1).length := by rw [headL, frm]; simp
   refine CallH.eff (L0 := [jH JB D ((JM.mk g0 f0 e0 sz 0 false).js p0 c0)]) (L1 := (B6, _) :: (B7, _) :: (N ++ (Y ++ F8))) (safely_e (j := (JM.mk g0 f0 e0 sz 0 false).js p0 c0) (by omega) (by omega)) (List.Perm.refl _) ?_
   rintro _ _ ⟨Bs, X, rfl, rfl, c4⟩
   refine ⟨_, po0 _ _ _ _ _, some ⟨Bs, 0, none⟩, 4, _, rfl, rfl, ?_⟩
   obtain ⟨a2, n1, n2, c6⟩ := src_steps (S := S) (w0 := w0) (L := (JB, .cells #[.int .i64 g0, .slice p0 f0.length c0, .int .i64 (e0 : Int), .pointer (SO D), .int .i64 (sz : Int), .int .i64 (0 : Int), .bool false] 86) :: (B6, .cells #[.string rs, .string rs1] 87) :: (B7, .cells #[.int .i64 g0, .slice p0 f0.length c0, .int .i64 (e0 : Int), .int .i64 g1, .slice p1 f1.length c1, .int .i64 (e1 : Int)] 89) :: (X ++ (N ++ (Y ++ F8)))) rfl c4 (fun x c5 => by simp [c5])
   refine ⟨a2, n1, ?_⟩
   have b9 : 4 = a2.length := n2
   refine (SRow.push (os := safeOps 0 (ba (headL 1))) (vs := a2) O rfl (by omega) n2 (by omega) (by omega) c6 (po6 _ _ _ _ _ _ _ _ _ V) b9).monoP ?_
   rintro _ c7 ⟨p', c', c8, rfl, c2, c3⟩
   refine ⟨_, c2.trans (po7 _ _ _ _ _ _ _), p', c', _, rfl, rfl, ?_⟩
   have b8 : (cleanOps g0 0 e0 sz (bts rs) (bts rs1) ++ safeOps 0 (ba (headL 1))).length = (cleanOps g0 0 e0 sz (bts rs) (bts rs1)).length + 4 := by rw [List.length_append]; rfl
   rw [a8]
   exact open_end (m := ⟨1, [], (headL 1).length, sz, 0, false⟩) (p := none) (c := 0) (F8 := F ++ T) _ _ (if_pos M) (if_pos M) (List.Perm.refl _) FRow.nil0 c3 b8 (by omega) Z hp
  ·exact open_end (m := ⟨g0, f0, e0, sz, 0, false⟩) (p := p0) (c := c0) _ _ (if_neg M) (if_neg M) V b0 O rfl (by omega) Z hp
end opn
theorem CallH.newP {P : Program} {S : List Nat} {g : FuncId} {args : Array Value} {w0 : World} {M : World → Prop} {K K' : Value → SHeap → Prop} (told : SHeap) {T : SHeap} (h : EffW P g args [] M K) (Z : ∀ W, Mem (told ++ T) S w0 W → M W)
  (O : ∀ v F', K v F' → K' v (told ++ (F' ++ T))) : CallH P g args (told ++ T) S w0 K' :=
 CallH.effW (L0 := []) (L1 := told ++ T) h Z (List.Perm.refl _) fun v F' V => ⟨told ++ (F' ++ T), List.perm_append_comm_assoc _ _ _, O v F' V⟩
theorem halfR_gen {l : List UInt8} {g : Int} {fs : List Fct} {e : Nat} (h : halfR l = some (g, fs, e)) : 0 ≤ g ∧ g ≤ 4611686018427387903 ∧ e ≤ l.length := by
 rcases halfR_inv h with ⟨rfl, _, rfl, _⟩ | ⟨h1, h2, _, h4, t, h5, _⟩
 ·exact ⟨by omega, by omega, Nat.zero_le _⟩
 ·unfold okInt maxInt at h2
  refine ⟨by omega, by omega, ?_⟩
  have := congrArg List.length h5
  rw [@List.length_append _ (cont g fs) t] at this
  omega
theorem po8 {F M O : SHeap} : (O ++ (M ++ F)).Perm (F ++ (O ++ M)) := perm_a
section perms
variable (x y z u v : Nat × Obj) (F N0 N1 : SHeap)
theorem po9 : (x :: y :: z :: u :: (N0 ++ F)).Perm (F ++ (x :: y :: z :: u :: N0)) := perm_a
theorem po10 : (x :: y :: z :: u :: v :: (N1 ++ (N0 ++ F))).Perm (F ++ (x :: y :: z :: u :: v :: (N1 ++ N0))) := perm_a
end perms
theorem open_e {D : Nat} {d : DS} {F : SHeap} (b5 : DRep D d F) (hp : d.pend.length < 900000) : EffW TP 13 ⟨[pt D 0]⟩ F (fun W => 0 ∉ F.map (·.1) ∧ blkW W 0 = some tabV) (OpnK D (openM d)) := by
 intro W hm ⟨hS, hg⟩
 generalize F.map (·.1) = S at *
 have b9 := b5.1
 have e9 := b9.pos; have e8 := b9.le
 refine jOpen_vc D F hm (CallH.dT [] (Size_e b5) fun c3 c7 => ⟨c3, _, rfl, rfl, no (by omega) (CallH.dT [] (Size_e c7) fun b3 b6 => ⟨b3, _, rfl, rfl, fun d3 => ?_, fun d3 => ?_⟩)⟩)
 ·have e : openM d = (240, none, d) := if_pos (by omega)
  rw [e]
  exact dkFin ⟨rfl, b3, [], by simp, b6⟩
 ·refine CallH.dT [] (Size_e b6) fun c4 c8 => ⟨c4, _, rfl, rfl, fun B b1 => ?_⟩
  have d4 : IntKind.i64.wrap (((d.vis.length : Nat) : Int).tdiv 2) = ((d.vis.length / 2 : Nat) : Int) := by
   have e : ((d.vis.length : Nat) : Int).tdiv 2 = ((d.vis.length / 2 : Nat) : Int) := rfl
   rw [e, wi64 (by omega)]
  try dsimp only
  simp only [d4]
  have M : openM d = if d.on = false then (231, none, d) else
    match halfR (img0 d), halfR (img1 d) with
    | some h0, some a0 => if 0 < h0.1 ∧ 0 < a0.1 ∧ ¬ (h0.1 - a0.1 = 1) ∧ ¬ (a0.1 - h0.1 = 1) then (242, none, d) else openRun (img0 d) (img1 d) (openJ (d.vis.length / 2) h0 a0) d
    | _, _ => (242, none, d) := if_neg (by omega)
  have d5 : d.vis.length / 2 ≤ 2097152 := by omega
  have e6 : d.cut = d.cut := rfl
  refine ⟨((0 * (d.vis.length / 2) : Nat) : Int), QCallB.pw fun a5 a1 => start_pw (k := 0) (m := ⟨0, [], 0, d.vis.length / 2, 0, false⟩) (p := none) (c := 0) (D := D) (a1.here (jH B D _) (List.mem_cons_of_mem _ List.mem_cons_self)) (by decide) (by show d.vis.length / 2 ≤ 4194304; omega), ?_⟩
  refine CallH.dT [_, _] (Read_e c8 (by omega)) fun b4 b7 => ⟨b4, _, _, rfl, rfl, ?_⟩
  cases hon : d.on with
  | false =>
   have a4 : ∀ off n, d.read off n = (⟨#[]⟩, 231) := fun off n => if_pos hon
   rw [a4]
   refine ⟨fun _ => ?_, fun h => absurd h (by decide)⟩
   rw [M, if_pos hon]
   exact dkFin ⟨rfl, b4, [_, _], List.perm_append_comm (l₁ := [_, _]), b7⟩
  | true =>
   rw [if_neg (by rw [hon]; decide)] at M
   have a4 : ∀ k : Nat, k ≤ 1 → d.read ((k * (d.vis.length / 2) : Nat) : Int) ((d.vis.length / 2 : Nat) : Int) = (ba ((d.vis.drop (k * (d.vis.length / 2))).take (d.vis.length / 2)), 0) := by
    intro k c9
    have e7 : k * (d.vis.length / 2) ≤ 1 * (d.vis.length / 2) := Nat.mul_le_mul_right _ c9
    rw [DS.read, if_neg (by rw [hon]; decide), if_pos (by omega)]
    simp only [Int.toNat_natCast]
   have e0 : (d.vis.drop (0 * (d.vis.length / 2))).take (d.vis.length / 2) = img0 d := by rw [Nat.zero_mul, List.drop_zero]; rfl
   have e1 : (d.vis.drop (1 * (d.vis.length / 2))).take (d.vis.length / 2) = img1 d := by rw [Nat.one_mul]; rfl
   have d6 : (img0 d).length = d.vis.length / 2 := by rw [img0, List.length_take]; omega
   have d7 : (img1 d).length = d.vis.length / 2 := by rw [img1, List.length_take, List.length_drop]; omega
   rw [a4 0 (by omega), e0]
   refine ⟨fun h => absurd rfl h, fun _ => ⟨((1 * (d.vis.length / 2) : Nat) : Int), QCallB.pw fun a5 a1 => start_pw (k := 1) (m := ⟨0, [], 0, d.vis.length / 2, 0, false⟩) (p := none) (c := 0) (D := D) (a1.here (jH B D _) (List.mem_cons_of_mem _ List.mem_cons_self)) (by decide) (by show d.vis.length / 2 ≤ 4194304; omega), ?_⟩⟩
   refine CallH.dT [_, _] (Read_e b7 (by omega)) fun O b8 => ⟨O, _, _, rfl, rfl, ?_⟩
   rw [a4 1 (by omega), e1]
   refine ⟨fun h => absurd rfl h, fun _ B2 => ?_⟩
   have f2 : (ba (img0 d)).size = d.vis.length / 2 := by rw [ba_size (img0 d), d6]
   have f3 : (ba (img1 d)).size = d.vis.length / 2 := by rw [ba_size (img1 d), d7]
   have bad : ∀ {L : SHeap} {X : SHeap}, openM d = (242, none, d) → L.Perm (O ++ X) → Fin (OpnR S W D (openM d)) L S W (.tuple #[.pointer none, .int .i64 (242 : Int)]) := by
    intro L X a0 c6
    rw [a0]
    exact dkFin ⟨rfl, O, X, c6, b8⟩
   refine CallH.newP [_, _, _] (parsed_e (s := ba (img0 d)) (by omega) (by omega)) (fun a5 a1 => blkW_kept a1.kept hS hg) ?_
   intro v V a2
   rw [ParOut, bts_mk] at a2
   cases hh0 : halfR (img0 d) with
   | none =>
    rw [hh0] at a2 M
    simp only at a2 M
    subst a2
    refine ⟨0, none, 0, 0, 0, false, _, rfl, rfl, fun B3 => ⟨fun h => Bool.noConfusion h, fun _ => bad (X := _ :: _ :: _ :: _ :: V) M (po9 _ _ _ _ O V)⟩⟩
   | some h0 =>
    obtain ⟨g0, f0, b0⟩ := h0
    rw [hh0] at a2 M
    simp only at a2
    obtain ⟨p0, c0, rfl, d1⟩ := a2
    obtain ⟨c5, e2, e3⟩ := halfR_gen hh0
    refine ⟨g0, p0, f0.length, c0, (b0 : Int), true, _, rfl, rfl, fun B3 => ⟨fun _ => ?_, fun h => Bool.noConfusion h⟩⟩
    refine CallH.newP [_, _, _, _] (parsed_e (s := ba (img1 d)) (by omega) (by omega)) (fun a5 a1 => blkW_kept a1.kept hS hg) ?_
    intro v Z a3
    rw [ParOut, bts_mk] at a3
    cases hh1 : halfR (img1 d) with
    | none =>
     rw [hh1] at a3 M
     simp only at a3 M
     subst a3
     exact ⟨0, none, 0, 0, 0, false, _, rfl, rfl, fun c2 => ⟨fun h => Bool.noConfusion h, fun _ => bad (X := _ :: _ :: _ :: _ :: _ :: (Z ++ V)) M (po10 _ _ _ _ _ O V Z)⟩⟩
    | some a0 =>
     obtain ⟨g1, f1, n1⟩ := a0
     rw [hh1] at a3 M
     simp only at a3 M
     obtain ⟨p1, c1, rfl, d2⟩ := a3
     obtain ⟨e4, e5, gf⟩ := halfR_gen hh1
     refine ⟨g1, p1, f1.length, c1, (n1 : Int), true, _, rfl, rfl, fun c2 => ⟨fun _ => ?_, fun h => Bool.noConfusion h⟩⟩
     have d8 : IntKind.i64.wrap (g0 - g1) = g0 - g1 := wi64 (by omega)
     have d9 : IntKind.i64.wrap (g1 - g0) = g1 - g0 := wi64 (by omega)
     simp only [d8, d9]
     have go : ¬ (0 < g0 ∧ 0 < g1 ∧ ¬ (g0 - g1 = 1) ∧ ¬ (g1 - g0 = 1)) → jOpen_c0 D B b1 B2 g0 g1 D ((d.vis.length / 2 : Nat) : Int) (ba (img0 d)) (ba (img1 d)) g0 p0 f0.length c0 (b0 : Int) g1 p1 f1.length c1 (n1 : Int) (Z ++ (V ++ O)) S W (OpnR S W D (openM d)) := by
      intro d0
      rw [M, if_neg d0]
      have := open_c0 (JB := B) (D := D) (F8 := Z ++ (V ++ O)) (F := O) (T := Z ++ V) (S := S) (w0 := W) (d := d) (rs := ba (img0 d)) (rs1 := ba (img1 d)) (sz := d.vis.length / 2) (g0 := g0) (g1 := g1) (f0 := f0) (f1 := f1) (e0 := b0) (e1 := n1) (p0 := p0) (p1 := p1) (c0 := c0) (c1 := c1) (B6 := b1) (B7 := B2) hg hS d5 (by omega) (by omega) (by omega) (by omega) c5 (po8 (F := O)) (d1.more Z) ((d2.more V).perm List.perm_append_comm) b8 hp
      rw [bts_mk, bts_mk] at this
      exact this
     exact ⟨fun a6 => ⟨fun a7 => ⟨fun a8 => ⟨fun a9 => bad (X := _ :: _ :: _ :: _ :: _ :: (Z ++ V)) (by rw [M, if_pos ⟨a6, a7, a8, a9⟩]) (po10 _ _ _ _ _ O V Z), fun a9 => go fun h => h.2.2.2 a9⟩, fun a8 => go fun h => h.2.2.1 a8⟩, fun a7 => go fun h => a7 h.2.1⟩, fun a6 => go fun h => a6 h.1⟩
theorem Surv.none {b x : List UInt8} (h : Surv [] b x) : x = b := by cases h; rfl
theorem Surv.one {o : Nat} {s : BA} {b x : List UInt8} (h : Surv [(o, s)] b x) : ∃ t, x = ovr b o ((bts s).take t) := by
 cases h with
 | cons t h => exact ⟨t, h.none⟩
theorem appl_surv : ∀ (p : List (Nat × BA)) (b : List UInt8), Surv p b (appl p b)
 | [], b => .nil b
 | (o, s) :: r, b => by
  refine .cons (bts s).length ?_
  rw [List.take_length]
  exact appl_surv r _
section inv
variable {Z : Nat × ByteArray → Prop} {G : List UInt8 → Prop} (hstep : ∀ b o s t, G b → Z (o, s) → G (ovr b o ((bts s).take t)))
include hstep
theorem surv_inv {p : List (Nat × BA)} {b x : List UInt8} (h : Surv p b x) : G b → (∀ q ∈ p, Z q) → G x := by
 induction h with
 | nil b => exact fun h _ => h
 | cons t h ih => exact fun O M => ih (hstep _ _ _ _ O (M _ List.mem_cons_self)) fun q V => M q (List.mem_cons_of_mem _ V)
theorem img_inv : ∀ {ops : List DOp} {b x : List UInt8} {p : List (Nat × BA)}, Img ops b p x → (∀ o s, DOp.write o s ∈ ops → Z (o.toNat, s)) → G b → (∀ q ∈ p, Z q) → G x
 | [], b, x, p, h, _, h1, h2 => surv_inv hstep h h1 h2
 | .sync :: r, b, x, p, h, ho, h1, h2 => by
  rcases h with h | h
  ·exact surv_inv hstep h h1 h2
  ·exact img_inv h (fun o s hm => ho o s (List.mem_cons_of_mem _ hm)) (surv_inv hstep (appl_surv p b) h1 h2) fun q M => by cases M
 | .write o s :: r, b, x, p, h, ho, h1, h2 => by
  rcases h with h | h
  ·exact surv_inv hstep h h1 h2
  ·refine img_inv h (fun o s hm => ho o s (List.mem_cons_of_mem _ hm)) h1 fun q M => ?_
   rcases List.mem_append.1 M with M | M
   ·exact h2 q M
   ·simp only [List.mem_singleton] at M
    subst M
    exact ho o s List.mem_cons_self
end inv
theorem bts_tail (b : UInt8) (r : List UInt8) : bts (cutTail (ba (b :: r))) = r := by
 rw [cutTail, bts_extract, bts_mk]
 have : (ba (b :: r)).size = r.length + 1 := ba_size (b :: r)
 rw [this]; simp
theorem bts_head (b : UInt8) (r : List UInt8) : bts (cutHead (ba (b :: r))) = [b] := by
 rw [cutHead, bts_extract, bts_mk]; simp
theorem ovr_app {A t s : List UInt8} {o : Nat} (h : o + s.length ≤ t.length) : ovr (A ++ t) (A.length + o) s = A ++ ovr t o s := by
 have := ovr_mid (A := A) (B := t) (C := []) (s := s) (o := o) h
 simpa using this
theorem ends_ovr1 {k : Nat} {s : List UInt8} (h : 1 ≤ k) : Ends (ovr (zs k) 1 s) := by
 obtain ⟨k, rfl⟩ : ∃ m, k = m + 1 := ⟨k - 1, by omega⟩
 refine .inr ⟨s ++ (zs (k + 1)).drop (1 + s.length), ?_⟩
 unfold ovr
 rw [zs_take, Nat.min_eq_left (by omega)]
 rfl
theorem take_one (b : UInt8) (t : Nat) : ([b] : List UInt8).take t = [] ∨ ([b] : List UInt8).take t = [b] := by
 cases t with
 | zero => exact .inl rfl
 | succ t => exact .inr (by simp)
section safe
variable {H : List UInt8 → List UInt8} {base sz : Nat} (hH : ∀ X o s, X.length = sz → o + s.length ≤ sz → ovr (H X) (base + o) s = H (ovr X o s))
include hH
theorem safe_steps {A r' : List UInt8} {k off : Nat} (a2 : off = base + A.length) (Z : A.length + k = sz) (a3 : r'.length + 1 ≤ k) :
  (∀ t, ∃ q, Ends q ∧ q.length = k ∧ ovr (H (A ++ zs k)) (off + 1) (r'.take t) = H (A ++ q)) ∧
  (∃ q, Ends q ∧ q.length = k ∧ ovr (H (A ++ zs k)) (off + 1) r' = H (A ++ q) ∧ ovr (H (A ++ q)) off [1] = H (A ++ (1 :: r') ++ zs (k - (r'.length + 1)))) := by
 subst a2
 have key : ∀ s : List UInt8, s.length + 1 ≤ k → ovr (H (A ++ zs k)) (base + A.length + 1) s = H (A ++ ovr (zs k) 1 s) ∧ (ovr (zs k) 1 s).length = k := by
  intro s a4
  have O := zs_len k
  have e := hH (A ++ zs k) (A.length + 1) s (by rw [List.length_append, O]; exact Z) (by omega)
  rw [Nat.add_assoc, e, ovr_app (by omega)]
  exact ⟨rfl, by rw [ovr_len (by omega), O]⟩
 refine ⟨fun t => ?_, ?_⟩
 ·have O : (r'.take t).length ≤ r'.length := by rw [List.length_take]; exact Nat.min_le_right _ _
  obtain ⟨e1, M⟩ := key (r'.take t) (by omega)
  exact ⟨_, ends_ovr1 (by omega), M, e1⟩
 ·obtain ⟨e1, M⟩ := key r' a3
  refine ⟨_, ends_ovr1 (by omega), M, e1, ?_⟩
  have a0 := hH (A ++ ovr (zs k) 1 r') A.length [1] (by rw [List.length_append, M]; exact Z) (by simp; omega)
  rw [a0]
  congr 1
  have V := ovr_app (A := A) (t := ovr (zs k) 1 r') (s := [1]) (o := 0) (by rw [M]; simp; omega)
  rw [Nat.add_zero] at V
  rw [V, List.append_assoc]
  congr 1
  unfold ovr
  have a1 : (zs k).take 1 = [0] := by
   rw [zs_take, Nat.min_eq_left (by omega)]; rfl
  rw [a1, zs_drop]
  simp
  congr 1; omega
theorem safe_img {A r' : List UInt8} {k off : Nat} {more : List DOp} {x : List UInt8} (a2 : off = base + A.length) (a1 : A.length + k = sz) (a3 : r'.length + 1 ≤ k) (h : Img (safeOps (off : Int) (ba (1 :: r')) ++ more) (H (A ++ zs k)) [] x) :
  (∃ q, Ends q ∧ q.length = k ∧ x = H (A ++ q)) ∨ Img more (H (A ++ (1 :: r') ++ zs (k - (r'.length + 1)))) [] x := by
 obtain ⟨a7, M, O, V, a8, Z⟩ := safe_steps hH a2 a1 a3
 have a0 : ((off : Int) + 1).toNat = off + 1 := by omega
 simp only [safeOps, List.cons_append, List.nil_append, Img, appl, a0, Int.toNat_natCast, bts_tail, bts_head, a8, Z] at h
 rcases h with h | h | h | h | h
 ·exact .inl ⟨zs k, zs_ends k, zs_len k, h.none⟩
 ·obtain ⟨t, e⟩ := h.one
  rw [bts_tail] at e
  obtain ⟨q, a4, a5, a6⟩ := a7 t
  exact .inl ⟨q, a4, a5, e.trans a6⟩
 ·exact .inl ⟨M, O, V, h.none⟩
 ·obtain ⟨t, e⟩ := h.one
  rw [bts_head] at e
  rcases take_one 1 t with e1 | e1
  ·rw [e1, ovr_nil] at e; exact .inl ⟨M, O, V, e⟩
  ·rw [e1, Z] at e
   exact .inr (Img.now (e ▸ .nil _) more)
 ·exact .inr h
theorem safe_end {A r' : List UInt8} {k off : Nat} {more : List DOp} (V : off = base + A.length) (O : A.length + k = sz) (Z : r'.length + 1 ≤ k) :
  endOps (safeOps (off : Int) (ba (1 :: r')) ++ more) (H (A ++ zs k)) [] = endOps more (H (A ++ (1 :: r') ++ zs (k - (r'.length + 1)))) [] := by
 obtain ⟨a3, a2, a4, a5, a0, a1⟩ := safe_steps hH V O Z
 have M : ((off : Int) + 1).toNat = off + 1 := by omega
 simp only [safeOps, List.cons_append, List.nil_append, endOps, appl, M, Int.toNat_natCast, bts_tail, bts_head, a0, a1]
end safe
structure Gn (g : Int) (fs : List Fct) : Prop where
 one : 1 ≤ g
 ok : g ≤ 4611686018427387903
 numb : Numb fs 1
theorem Gn.okInt {g : Int} {fs : List Fct} (h : Gn g fs) : okInt g := by have M := h.one; have O := h.ok; unfold Wire.okInt maxInt; omega
def Oth (g : Int) (Y : List UInt8) : Prop := Ends Y ∨ ∃ fs' t, Gn (g - 1) fs' ∧ Y = cont (g - 1) fs' ++ t ∧ Ends t
def GoodAt (c sz : Nat) (R : List UInt8) (g : Int) (fs : List Fct) (b : List UInt8) : Prop :=
 ∃ t Y, b = lay c (cont g fs ++ t) Y R ∧ (cont g fs).length + t.length = sz ∧ Y.length = sz ∧ Ends t ∧ Oth g Y
def Good (sz : Nat) (R : List UInt8) (g : Int) (fs : List Fct) (b : List UInt8) : Prop := Gn g fs ∧ ∃ c, c ≤ 1 ∧ GoodAt c sz R g fs b
def ZW (c sz e : Nat) (q : Nat × BA) : Prop := (q.1 = (1 - c) * sz ∧ ∃ k, k ≤ sz ∧ bts q.2 = zs k) ∨ (q.1 = c * sz + e ∧ ∃ k, e + k ≤ sz ∧ bts q.2 = zs k)
theorem good_step {c sz : Nat} {R : List UInt8} {g : Int} {fs : List Fct} (a2 : c ≤ 1) : ∀ (b : List UInt8) (o : Nat) (s : BA) (t : Nat), GoodAt c sz R g fs b → ZW c sz (cont g fs).length (o, s) → GoodAt c sz R g fs (ovr b o ((bts s).take t)) := by
 rintro b o s n ⟨t, Y, rfl, O, M, a0, a1⟩ (⟨rfl, k, a4, Z⟩ | ⟨rfl, k, a4, Z⟩)
 ·rw [Z, zs_take]
  have V : (cont g fs ++ t).length = sz := by rw [List.length_append]; exact O
  have := lay_oth (c := c) (sz := sz) (o := 0) (X := cont g fs ++ t) (Y := Y) (R := R) (s := zs (min n k)) a2 V M (by rw [zs_len]; omega)
  rw [Nat.add_zero] at this
  rw [this]
  refine ⟨t, ovr Y 0 (zs (min n k)), rfl, O, by rw [ovr_len (by rw [zs_len]; omega)]; exact M, a0, ?_⟩
  rcases Nat.eq_zero_or_pos (min n k) with h0 | hp
  ·rw [h0]
   have : ovr Y 0 (zs 0) = Y := ovr_nil Y 0
   rw [this]; exact a1
  ·exact .inl (ovr_zero_ends (by omega) hp)
 ·rw [Z, zs_take]
  have V : (cont g fs ++ t).length = sz := by rw [List.length_append]; exact O
  have := lay_cur (c := c) (sz := sz) (o := (cont g fs).length) (X := cont g fs ++ t) (Y := Y) (R := R) (s := zs (min n k)) a2 V M (by rw [zs_len]; omega)
  rw [this]
  obtain ⟨t', e1, a3, a5⟩ := ovr_rest (A := cont g fs) (t := t) (k := min n k) (by omega) a0
  rw [e1]
  exact ⟨t', Y, rfl, by omega, M, a3, a1⟩
structure Clean (R : List UInt8) (m : JM) (d : DS) : Prop where
 ok : DOk d
 on : d.on = true
 pend : d.pend = []
 dur : d.dur = d.vis
 vis : d.vis = lay m.cu (cont m.gen m.fs ++ zs (m.sz - m.en)) (zs m.sz) R
 rest : R.length ≤ 1
 big : 64 ≤ d.vis.length
 en : m.en = (cont m.gen m.fs).length
 fit : m.en ≤ m.sz
 cu : m.cu ≤ 1
 gn : Gn m.gen m.fs
 br : m.br = false
theorem Clean.len {R : List UInt8} {m : JM} {d : DS} (h : Clean R m d) : d.vis.length = m.sz + m.sz + R.length := by
 have M := h.en; have O := h.fit
 rw [h.vis, lay_len, zs_len, List.length_append, zs_len]; omega
theorem numb_500 {fs : List Fct} (h : Numb fs 1) : fs.length ≤ 500 := by
 rcases h.len with h | h
 ·omega
 ·rw [h]; exact Nat.zero_le _
theorem Clean.mok {R : List UInt8} {m : JM} {d : DS} (h : Clean R m d) : MOk m :=
 ⟨h.fit, by have M := h.len; have O := h.ok.le; omega, h.cu, h.gn.numb.all, numb_500 h.gn.numb, by have M := h.gn.one; omega, h.gn.ok⟩
theorem Clean.coh {R : List UInt8} {m : JM} {d : DS} (h : Clean R m d) : Coh d := ⟨h.ok, by rw [h.pend, h.dur]; rfl⟩
def After (sz : Nat) (R : List UInt8) (n : Nat) (d : DS) (P : Int → List Fct → Prop) : Prop := DOk d ∧ d.vis.length = n ∧ ∀ x, Surv d.pend d.dur x → ∃ g fs, P g fs ∧ Good sz R g fs x
theorem run_clean {R : List UInt8} {m : JM} {d : DS} {a : List DOp} (h : Clean R m d) (a0 : ∀ o ∈ a ++ [DOp.sync], o.fits d.vis.length) {b : List UInt8} (Z : endOps (a ++ [.sync]) d.vis [] = (b, [])) :
  let r := runOps (a ++ [.sync]) d
  (r.1 = 0 ∧ DOk r.2 ∧ r.2.on = true ∧ r.2.pend = [] ∧ r.2.dur = r.2.vis ∧ r.2.vis = b ∧ r.2.vis.length = d.vis.length ∧ (d.cut = 0 → r.2.cut = 0)) ∨
  (r.1 = 231 ∧ DOk r.2 ∧ r.2.vis.length = d.vis.length ∧ (∀ x, Surv r.2.pend r.2.dur x → Img (a ++ [.sync]) d.vis [] x) ∧ d.cut ≠ 0) := by
 intro r
 have ro := runOps_out (a ++ [.sync]) d h.coh a0
 rcases ro.err with e | e
 ·refine .inl ⟨e, ro.coh.ok, runOps_on e, ?_, ?_, ?_, ro.len, fun V => (ro.pow h.on V).2.2⟩
  all_goals
   have M := ro.fin e
   rw [h.pend, h.dur, Z] at M
   simp only [Prod.mk.injEq] at M
  ·exact M.2
  ·have O := ro.coh.vis
   rw [M.2] at O
   exact O.symm
  ·have O := ro.coh.vis
   rw [M.2] at O
   exact O.trans M.1
 ·refine .inr ⟨e, ro.coh.ok, ro.len, fun x a1 => ?_, fun V => ?_⟩
  ·have := ro.img x a1
   rwa [h.pend, h.dur] at this
  ·have := (ro.pow h.on V).1
   rw [e] at this; exact absurd this (by decide)
theorem cutTail_sz (b : UInt8) (r : List UInt8) : (cutTail (ba (b :: r))).size = r.length := by rw [← bts_len, bts_tail]
theorem cutHead_sz (b : UInt8) (r : List UInt8) : (cutHead (ba (b :: r))).size = 1 := by rw [← bts_len, bts_head]; rfl
theorem safe_fits {off n : Nat} {r : List UInt8} (h : off + (r.length + 1) ≤ n) : ∀ o ∈ safeOps (off : Int) (ba (1 :: r)), o.fits n := by
 intro o M
 simp only [safeOps, List.mem_cons, List.not_mem_nil, or_false] at M
 rcases M with rfl | rfl | rfl | rfl
 ·show 0 ≤ (off : Int) + 1 ∧ (off : Int) + 1 + ((cutTail (ba (1 :: r))).size : Int) ≤ n
  rw [cutTail_sz]; omega
 ·trivial
 ·show 0 ≤ (off : Int) ∧ (off : Int) + ((cutHead (ba (1 :: r))).size : Int) ≤ n
  rw [cutHead_sz]; omega
 ·trivial
theorem flat_snoc (fs : List Fct) (f : Fct) : flat (fs ++ [f]) = flat fs ++ recL f := by simp
theorem cont_snoc (g : Int) (fs : List Fct) (f : Fct) : cont g (fs ++ [f]) = cont g fs ++ recL f := by rw [cont, flat_snoc, ← List.append_assoc]
inductive AppOut (R : List UInt8) (m : JM) (d : DS) (f : Fct) : Int × JM × DS → Prop
 | no (e : Int) (he : (e = 240 ∧ (f.ok = false ∨ f.n ≠ ((m.fs.length + 1 : Nat) : Int))) ∨ (e = 241 ∧ f.ok = true ∧ f.n = ((m.fs.length + 1 : Nat) : Int) ∧ m.sz - m.en < (recL f).length)) : AppOut R m d f (e, m, d)
 | yes (d' : DS) (hf : f.ok = true) (hn : f.n = ((m.fs.length + 1 : Nat) : Int)) (h : Clean R { m with fs := m.fs ++ [f], en := m.en + (recL f).length } d') (hl : d'.vis.length = d.vis.length) (hc : d.cut = 0 → d'.cut = 0) : AppOut R m d f (0, { m with fs := m.fs ++ [f], en := m.en + (recL f).length }, d')
 | pow (d' : DS) (hf : f.ok = true) (hc : d.cut ≠ 0) (h : After m.sz R d.vis.length d' fun g fs => g = m.gen ∧ (fs = m.fs ∨ fs = m.fs ++ [f])) : AppOut R m d f (231, { m with br := true }, d')
theorem append_out {R : List UInt8} {m : JM} {d : DS} (h : Clean R m d) (f : Fct) : AppOut R m d f (appendM m d f) := by
 have b3 := h.len; have b1 := h.fit; have V := h.cu
 rw [appendM, if_neg (by rw [h.br]; decide)]
 by_cases hok : f.ok = true
 ·rw [if_neg (by rw [hok]; decide)]
  by_cases hn : f.n = ((m.fs.length + 1 : Nat) : Int)
  ·rw [if_neg (by simpa using hn)]
   by_cases hr : m.sz - m.en < (recL f).length
   ·rw [if_pos hr]; exact .no 241 (.inr ⟨rfl, hok, hn, hr⟩)
   ·rw [if_neg hr]
    obtain ⟨r', O⟩ := recL_head f
    have a9 : (recL f).length = r'.length + 1 := by rw [O]; rfl
    have b0 : m.cu * m.sz ≤ 1 * m.sz := Nat.mul_le_mul_right _ V
    have hH : ∀ X o (s : List UInt8), X.length = m.sz → o + s.length ≤ m.sz → ovr ((fun X => lay m.cu X (zs m.sz) R) X) (m.cu * m.sz + o) s = (fun X => lay m.cu X (zs m.sz) R) (ovr X o s) := fun X o s a6 a7 => lay_cur V a6 (zs_len _) a7
    have a4 : (cont m.gen m.fs).length + (m.sz - m.en) = m.sz := by have := h.en; omega
    have a5 : m.cu * m.sz + m.en = m.cu * m.sz + (cont m.gen m.fs).length := by rw [← h.en]
    have a8 : safeOps ((m.cu * m.sz + m.en : Nat) : Int) (ba (recL f)) = [.write (((m.cu * m.sz + m.en : Nat) : Int) + 1) (cutTail (ba (recL f))), .sync, .write ((m.cu * m.sz + m.en : Nat) : Int) (cutHead (ba (recL f)))] ++ [.sync] := rfl
    have a2 : ∀ o ∈ safeOps ((m.cu * m.sz + m.en : Nat) : Int) (ba (recL f)), o.fits d.vis.length := by rw [O]; exact safe_fits (by omega)
    have a0 : Gn m.gen (m.fs ++ [f]) := ⟨h.gn.one, h.gn.ok, h.gn.numb.snoc hok (by rw [hn]; congr 1; omega)⟩
    have a1 : endOps (safeOps ((m.cu * m.sz + m.en : Nat) : Int) (ba (recL f))) d.vis [] = (lay m.cu (cont m.gen m.fs ++ recL f ++ zs (m.sz - m.en - (r'.length + 1))) (zs m.sz) R, []) := by
     have := safe_end hH (A := cont m.gen m.fs) (r' := r') (k := m.sz - m.en) (off := m.cu * m.sz + m.en) (more := []) a5 a4 (by omega)
     rw [List.append_nil, ← O, ← h.vis] at this
     exact this
    have a3 : ∀ x, Img (safeOps ((m.cu * m.sz + m.en : Nat) : Int) (ba (recL f))) d.vis [] x → ∃ g fs, (g = m.gen ∧ (fs = m.fs ∨ fs = m.fs ++ [f])) ∧ Good m.sz R g fs x := by
     intro x Z
     rw [h.vis, O] at Z
     have := safe_img hH (A := cont m.gen m.fs) (r' := r') (k := m.sz - m.en) (off := m.cu * m.sz + m.en) (more := []) a5 a4 (by omega) (x := x) (by rw [List.append_nil]; exact Z)
     rcases this with ⟨q, q1, q2, q3⟩ | hx2
     ·exact ⟨_, _, ⟨rfl, .inl rfl⟩, h.gn, m.cu, V, q, zs m.sz, q3, by omega, zs_len _, q1, .inl (zs_ends _)⟩
     ·have M := Surv.none hx2
      refine ⟨_, _, ⟨rfl, .inr rfl⟩, a0, m.cu, V, zs (m.sz - m.en - (r'.length + 1)), zs m.sz, ?_, ?_, zs_len _, zs_ends _, .inl (zs_ends _)⟩
      ·rw [M, cont_snoc, O]
      ·rw [cont_snoc, List.length_append, zs_len]; omega
    rw [a8] at a2 a1 a3 ⊢
    rcases run_clean h a2 a1 with ⟨e1, M, e3, e4, e5, e6, e7, e8⟩ | ⟨e1, M, e3, e4, e5⟩
    ·rw [if_pos e1]
     refine .yes _ hok hn ⟨M, e3, e4, e5, ?_, h.rest, by rw [e7]; exact h.big, ?_, by show m.en + (recL f).length ≤ m.sz; omega, V, a0, h.br⟩ e7 e8
     ·rw [e6]
      show _ = lay m.cu (cont m.gen (m.fs ++ [f]) ++ zs (m.sz - (m.en + (recL f).length))) (zs m.sz) R
      rw [cont_snoc, a9, Nat.sub_sub]
     ·show m.en + (recL f).length = (cont m.gen (m.fs ++ [f])).length
      rw [cont_snoc, List.length_append, h.en]
    ·rw [if_neg (by rw [e1]; decide), e1]
     exact .pow _ hok e5 ⟨M, e3, fun x Z => a3 x (e4 x Z)⟩
  ·rw [if_pos hn]; exact .no 240 (.inl ⟨rfl, .inr hn⟩)
 ·rw [if_pos (by simpa using hok)]; exact .no 240 (.inl ⟨rfl, .inl (by simpa using hok)⟩)
abbrev chkJ (m : JM) : JM := { gen := m.gen + 1, fs := redJ m.fs, en := (cont (m.gen + 1) (redJ m.fs)).length, sz := m.sz, cu := 1 - m.cu, br := m.br }
inductive ChkOut (R : List UInt8) (m : JM) (d : DS) : Int × JM × DS → Prop
 | no (he : 4611686018427387903 ≤ m.gen ∨ m.sz < (cont (m.gen + 1) (redJ m.fs)).length) : ChkOut R m d (241, m, d)
 | yes (d' : DS) (h : Clean R (chkJ m) d') (hl : d'.vis.length = d.vis.length) (hc : d.cut = 0 → d'.cut = 0) : ChkOut R m d (0, chkJ m, d')
 | pow (d' : DS) (hc : d.cut ≠ 0) (h : After m.sz R d.vis.length d' fun g fs => (g = m.gen ∧ fs = m.fs) ∨ (g = m.gen + 1 ∧ fs = redJ m.fs)) : ChkOut R m d (231, { m with br := true }, d')
theorem check_out {R : List UInt8} {m : JM} {d : DS} (h : Clean R m d) : ChkOut R m d (checkM m d) := by
 have c5 := h.len; have c2 := h.fit; have M := h.cu; have c4 := h.gn.ok; have c3 := h.gn.one
 rw [checkM, if_neg (by rw [h.br]; decide)]
 by_cases hg : 4611686018427387903 ≤ m.gen
 ·rw [if_pos hg]; exact .no (.inl hg)
 ·rw [if_neg hg]
  by_cases hbig : m.sz < (cont (m.gen + 1) (redJ m.fs)).length
  ·rw [if_pos hbig]; exact .no (.inr hbig)
  ·rw [if_neg hbig]
   obtain ⟨r', V⟩ : ∃ r', cont (m.gen + 1) (redJ m.fs) = 1 :: r' := ⟨_, by rw [cont, headL, frm]; rfl⟩
   have b6 : (cont (m.gen + 1) (redJ m.fs)).length = r'.length + 1 := by rw [V]; rfl
   have a3 : Gn (m.gen + 1) (redJ m.fs) := ⟨by omega, by omega, h.gn.numb.red⟩
   have b8 : (1 - m.cu) * m.sz ≤ 1 * m.sz := Nat.mul_le_mul_right _ (by omega)
   have b9 : m.cu * m.sz ≤ 1 * m.sz := Nat.mul_le_mul_right _ M
   have Z : (cont m.gen m.fs ++ zs (m.sz - m.en)).length = m.sz := by rw [List.length_append, zs_len, ← h.en]; omega
   have hH : ∀ X o (s : List UInt8), X.length = m.sz → o + s.length ≤ m.sz → ovr ((fun Y => lay m.cu (cont m.gen m.fs ++ zs (m.sz - m.en)) Y R) X) ((1 - m.cu) * m.sz + o) s = (fun Y => lay m.cu (cont m.gen m.fs ++ zs (m.sz - m.en)) Y R) (ovr X o s) := fun X o s a8 b0 => lay_oth M Z a8 b0
   have a1 : checkOps m = safeOps (((1 - m.cu) * m.sz : Nat) : Int) (ba (1 :: r')) ++ [.write ((m.cu * m.sz : Nat) : Int) (ba (zs m.sz)), .sync] := by rw [checkOps, V]; rfl
   have b4 : checkOps m = [.write (((1 - m.cu) * m.sz : Nat) + 1 : Int) (cutTail (ba (cont (m.gen + 1) (redJ m.fs)))), .sync, .write (((1 - m.cu) * m.sz : Nat) : Int) (cutHead (ba (cont (m.gen + 1) (redJ m.fs)))), .sync, .write ((m.cu * m.sz : Nat) : Int) (ba (zs m.sz))] ++ [.sync] := rfl
   have b7 : (ba (zs m.sz)).size = m.sz := by rw [ba_size (zs m.sz), zs_len]
   have a6 : ∀ o ∈ checkOps m, o.fits d.vis.length := by
    rw [a1]
    intro o O
    rcases List.mem_append.1 O with O | O
    ·exact safe_fits (by omega) o O
    ·simp only [List.mem_cons, List.not_mem_nil, or_false] at O
     rcases O with rfl | rfl
     ·show 0 ≤ ((m.cu * m.sz : Nat) : Int) ∧ ((m.cu * m.sz : Nat) : Int) + ((ba (zs m.sz)).size : Int) ≤ _
      rw [b7]; omega
     ·trivial
   have a2 := safe_end hH (A := []) (r' := r') (k := m.sz) (off := (1 - m.cu) * m.sz) (more := [.write ((m.cu * m.sz : Nat) : Int) (ba (zs m.sz)), .sync]) (by simp) (by simp) (by omega)
   simp only [List.nil_append] at a2
   rw [← V, ← h.vis] at a2
   have a9 : 1 - (1 - m.cu) = m.cu := by omega
   have a4 : bts (ba (zs m.sz)) = zs m.sz := bts_mk _
   have b1 : (cont (m.gen + 1) (redJ m.fs) ++ zs (m.sz - (r'.length + 1))).length = m.sz := by rw [List.length_append, zs_len]; omega
   have b3 : ovr (lay m.cu (cont m.gen m.fs ++ zs (m.sz - m.en)) (cont (m.gen + 1) (redJ m.fs) ++ zs (m.sz - (r'.length + 1))) R) (m.cu * m.sz) (zs m.sz) = lay (1 - m.cu) (cont (m.gen + 1) (redJ m.fs) ++ zs (m.sz - (r'.length + 1))) (zs m.sz) R := by
    have := lay_cur (c := m.cu) (sz := m.sz) (o := 0) (X := cont m.gen m.fs ++ zs (m.sz - m.en)) (Y := cont (m.gen + 1) (redJ m.fs) ++ zs (m.sz - (r'.length + 1))) (R := R) (s := zs m.sz) M Z b1 (by rw [zs_len]; omega)
    exact this.trans (by rw [ovr_zero_full Z, lay_swap M])
   have a5 : endOps (checkOps m) d.vis [] = (lay (1 - m.cu) (cont (m.gen + 1) (redJ m.fs) ++ zs (m.sz - (r'.length + 1))) (zs m.sz) R, []) := by
    rw [a1, ← V, a2]
    simp only [endOps, appl, List.nil_append, Int.toNat_natCast, a4, b3]
   have a7 : ∀ x, Img (checkOps m) d.vis [] x → ∃ g fs, ((g = m.gen ∧ fs = m.fs) ∨ (g = m.gen + 1 ∧ fs = redJ m.fs)) ∧ Good m.sz R g fs x := by
    intro x a0
    rw [h.vis, a1] at a0
    have := safe_img hH (A := []) (r' := r') (k := m.sz) (off := (1 - m.cu) * m.sz) (more := [.write ((m.cu * m.sz : Nat) : Int) (ba (zs m.sz)), .sync]) (by simp) (by simp) (by omega) (x := x) (by simpa using a0)
    rcases this with ⟨q, q1, q2, q3⟩ | hx2
    ·exact ⟨_, _, .inl ⟨rfl, rfl⟩, h.gn, m.cu, M, zs (m.sz - m.en), q, q3, by rw [zs_len, ← h.en]; omega, q2, zs_ends _, .inl q1⟩
    ·refine ⟨_, _, .inr ⟨rfl, rfl⟩, a3, 1 - m.cu, by omega, ?_⟩
     rw [List.nil_append, ← V] at hx2
     refine img_inv (good_step (c := 1 - m.cu) (sz := m.sz) (R := R) (g := m.gen + 1) (fs := redJ m.fs) (by omega)) hx2 (fun o s hm => ?_) ?_ (fun q b5 => by cases b5)
     ·simp only [List.mem_cons, List.not_mem_nil, or_false, DOp.write.injEq, reduceCtorEq] at hm
      obtain ⟨rfl, rfl⟩ := hm
      exact .inl ⟨by rw [a9]; rfl, m.sz, Nat.le_refl _, a4⟩
     ·refine ⟨zs (m.sz - (r'.length + 1)), cont m.gen m.fs ++ zs (m.sz - m.en), by rw [lay_swap M], by rw [zs_len]; omega, Z, zs_ends _, .inr ⟨m.fs, zs (m.sz - m.en), ?_, ?_, zs_ends _⟩⟩
      ·rw [show m.gen + 1 - 1 = m.gen by omega]; exact h.gn
      ·rw [show m.gen + 1 - 1 = m.gen by omega]
   rw [b4] at a6 a5 a7 ⊢
   rcases run_clean h a6 a5 with ⟨e1, e2, e3, e4, e5, e6, e7, e8⟩ | ⟨e1, e2, e3, e4, e5⟩
   ·rw [if_pos e1]
    refine .yes _ ⟨e2, e3, e4, e5, ?_, h.rest, by rw [e7]; exact h.big, rfl, by show (cont (m.gen + 1) (redJ m.fs)).length ≤ m.sz; omega, by show 1 - m.cu ≤ 1; omega, a3, h.br⟩ e7 e8
    rw [e6]
    show _ = lay (1 - m.cu) (cont (m.gen + 1) (redJ m.fs) ++ zs (m.sz - (cont (m.gen + 1) (redJ m.fs)).length)) (zs m.sz) R
    rw [b6]
   ·rw [if_neg (by rw [e1]; decide), e1]
    exact .pow _ e5 ⟨e2, e3, fun x a0 => a7 x (e4 x a0)⟩
theorem zs_clean (k sz fr n : Nat) : dirtyOp k sz fr (zs n) = [] := by
 unfold dirtyOp
 rw [if_pos]
 rw [zs_drop, List.all_eq_true]
 intro b M
 simp [List.eq_of_mem_replicate M]
theorem img_lay {c : Nat} {X Y R : List UInt8} {d : DS} {sz : Nat} (a3 : c ≤ 1) (Z : d.vis = lay c X Y R) (M : X.length = sz) (O : Y.length = sz) (a2 : R.length ≤ 1) : d.vis.length / 2 = sz ∧ img0 d = (if c = 0 then X else Y) ∧ img1 d = (if c = 0 then Y else X) := by
 have V : d.vis.length / 2 = sz := by rw [Z, lay_len]; omega
 have key : ∀ A B : List UInt8, A.length = sz → B.length = sz → (A ++ B ++ R).take sz = A ∧ ((A ++ B ++ R).drop sz).take sz = B := by
  intro A B a0 a1
  rw [List.append_assoc, ← a0, List.take_left, List.drop_left, a0, ← a1, List.take_left]
  exact ⟨rfl, rfl⟩
 refine ⟨V, ?_, ?_⟩
 ·rw [img0, V, Z]; unfold lay; split
  ·exact (key X Y M O).1
  ·exact (key Y X O M).1
 ·rw [img1, V, Z]; unfold lay; split
  ·exact (key X Y M O).2
  ·exact (key Y X O M).2
theorem oth_half {g : Int} {Y : List UInt8} (h : Oth g Y) : ∃ M O e', halfR Y = some (M, O, e') ∧ (M = 0 ∨ (M = g - 1 ∧ 1 ≤ M)) := by
 rcases h with h | ⟨O, t, h1, h2, h3⟩
 ·exact ⟨0, [], 0, halfR_ends h, .inl rfl⟩
 ·exact ⟨g - 1, O, _, by rw [h2]; exact halfR_fwd h1.okInt h1.one h1.numb h3, .inr ⟨rfl, h1.one⟩⟩
theorem openM_eq {c sz : Nat} {R : List UInt8} {g : Int} {fs : List Fct} {t Y : List UInt8} {d : DS} (a5 : c ≤ 1) (b0 : d.vis = lay c (cont g fs ++ t) Y R) (b1 : (cont g fs).length + t.length = sz) (b3 : Y.length = sz) (a9 : Ends t) (a6 : Oth g Y) (M : Gn g fs) (a3 : R.length ≤ 1) (b5 : 64 ≤ d.vis.length) (a7 : d.on = true) :
  openM d = openRun (img0 d) (img1 d) ⟨g, fs, (cont g fs).length, sz, c, false⟩ d ∧ openOps (img0 d) (img1 d) ⟨g, fs, (cont g fs).length, sz, c, false⟩ = syncIf (dirtyOp (1 - c) sz 0 Y ++ dirtyOp c sz (cont g fs).length (cont g fs ++ t)) := by
 have a4 : (cont g fs ++ t).length = sz := by rw [List.length_append]; exact b1
 obtain ⟨a8, e0, e1⟩ := img_lay a5 b0 a4 b3 a3
 have a2 := halfR_fwd M.okInt M.one M.numb a9
 obtain ⟨a0, Z, e', a1, b4⟩ := oth_half a6
 have b6 := M.one
 have O : ¬ g = 0 := by omega
 rw [openM, if_neg (by omega), if_neg (by rw [a7]; decide), a8]
 rcases (by omega : c = 0 ∨ c = 1) with rfl | rfl
 ·rw [if_pos rfl] at e0 e1
  rw [e0, e1, a2, a1]
  refine ⟨?_, ?_⟩
  ·simp only
   rw [if_neg (fun h => by omega)]
   have V : openJ sz (g, fs, (cont g fs).length) (a0, Z, e') = ⟨g, fs, (cont g fs).length, sz, 0, false⟩ := if_neg (by simp only; omega)
   rw [V]
  ·rw [openOps, if_neg O, cleanOps]
   simp only [if_pos]
   rw [if_neg O]
 ·rw [if_neg (by decide)] at e0 e1
  rw [e0, e1, a2, a1]
  refine ⟨?_, ?_⟩
  ·simp only
   rw [if_neg (fun h => by omega)]
   have V : openJ sz (a0, Z, e') (g, fs, (cont g fs).length) = ⟨g, fs, (cont g fs).length, sz, 1, false⟩ := if_pos (by simp only; omega)
   rw [V]
  ·rw [openOps, if_neg O, cleanOps]
   simp only
   rw [if_neg (by decide)]
theorem syncIf_nil : syncIf [] = [] := rfl
theorem dirty_rest (k sz : Nat) (A : List UInt8) (n : Nat) : dirtyOp k sz A.length (A ++ zs n) = [] := by
 unfold dirtyOp
 rw [if_pos]
 rw [List.drop_left, List.all_eq_true]
 intro b M
 simp [List.eq_of_mem_replicate M]
theorem openM_clean {R : List UInt8} {m : JM} {d : DS} (h : Clean R m d) : openM d = (0, some m, d) := by
 have a0 := h.fit; have Z := h.en
 obtain ⟨e1, M⟩ := openM_eq (sz := m.sz) h.cu h.vis (by rw [zs_len]; omega) (zs_len _) (zs_ends _) (.inl (zs_ends _)) h.gn h.rest h.big h.on
 rw [zs_clean, dirty_rest, List.append_nil, syncIf_nil] at M
 rw [e1, openRun, M]
 have V : runOps [] d = (0, d) := rfl
 rw [V, if_pos rfl]
 have O : openF ⟨m.gen, m.fs, (cont m.gen m.fs).length, m.sz, m.cu, false⟩ = m := by
  rw [openF, if_neg (by have := h.gn.one; show ¬ m.gen = 0; omega), ← h.en, ← h.br]
 rw [O]
theorem openM_new {d : DS} (b3 : DOk d) (a2 : d.on = true) (a8 : d.cut = 0) (hp : d.pend = []) (a0 : d.dur = d.vis) (b6 : d.vis = zs d.vis.length) (a7 : 64 ≤ d.vis.length) :
  ∃ O, openM d = (0, some ⟨1, [], (headL 1).length, d.vis.length / 2, 0, false⟩, O) ∧ Clean (zs (d.vis.length % 2)) ⟨1, [], (headL 1).length, d.vis.length / 2, 0, false⟩ O ∧ O.cut = 0 ∧ O.vis.length = d.vis.length := by
 have b5 : d.vis.length / 2 + d.vis.length / 2 + d.vis.length % 2 = d.vis.length := by omega
 generalize hn : d.vis.length / 2 = sz at *
 generalize hr : d.vis.length % 2 = r at *
 have a3 : r ≤ 1 := by omega
 have a1 : d.vis = lay 0 (zs sz) (zs sz) (zs r) := by
  rw [b6]; unfold lay; rw [if_pos rfl, zs_append, zs_append, b5]
 obtain ⟨a6, e0, e1⟩ := img_lay (c := 0) (by omega) a1 (zs_len _) (zs_len _) (by rw [zs_len]; exact a3)
 rw [if_pos rfl] at e0 e1
 have c3 := headL_len 1
 have b1 : halfR (zs sz) = some (0, [], 0) := halfR_ends (zs_ends _)
 obtain ⟨r', V⟩ : ∃ r', headL 1 = 1 :: r' := ⟨_, by rw [headL, frm]⟩
 have b4 : (headL 1).length = r'.length + 1 := by rw [V]; rfl
 have a4 : openM d = openRun (zs sz) (zs sz) ⟨0, [], 0, sz, 0, false⟩ d := by
  rw [openM, if_neg (by omega), if_neg (by rw [a2]; decide), e0, e1, b1]
  simp only
  rw [if_neg (by decide), a6]
  rfl
 have a5 : openOps (zs sz) (zs sz) ⟨0, [], 0, sz, 0, false⟩ = safeOps 0 (ba (headL 1)) := by
  rw [openOps, if_pos rfl, cleanOps, if_pos rfl, if_pos rfl, zs_clean, zs_clean]; rfl
 have b0 : ∀ o ∈ safeOps 0 (ba (headL 1)), o.fits d.vis.length := by
  rw [V]; exact safe_fits (off := 0) (by omega)
 have ro := runOps_out (safeOps 0 (ba (headL 1))) d ⟨b3, by rw [hp, a0]; rfl⟩ b0
 obtain ⟨p1, b7, b8⟩ := ro.pow a2 a8
 have hH : ∀ X o (s : List UInt8), X.length = sz → o + s.length ≤ sz → ovr ((fun X => lay 0 X (zs sz) (zs r)) X) (0 * sz + o) s = (fun X => lay 0 X (zs sz) (zs r)) (ovr X o s) := fun X o s b9 c2 => lay_cur (by omega) b9 (zs_len _) c2
 have a9 : endOps (safeOps 0 (ba (headL 1))) d.vis [] = (lay 0 (headL 1 ++ zs (sz - (headL 1).length)) (zs sz) (zs r), []) := by
  have := safe_end hH (A := []) (r' := r') (k := sz) (off := 0) (more := []) (by simp) (by simp) (by omega)
  simp only [List.nil_append, List.append_nil] at this
  rw [← V, ← a1, ← b4] at this
  exact this
 have M := ro.fin p1
 rw [hp, a0, a9] at M
 simp only [Prod.mk.injEq] at M
 have Z := ro.coh.vis
 rw [M.2] at Z
 refine ⟨_, ?_, ⟨ro.coh.ok, b7, M.2, Z.symm, ?_, by rw [zs_len]; exact a3, by rw [ro.len]; exact a7, ?_, by show (headL 1).length ≤ sz; omega, by show 0 ≤ 1; omega, ⟨by show (1 : Int) ≤ 1; omega, by show (1 : Int) ≤ _; omega, trivial⟩, rfl⟩, b8, ro.len⟩
 ·rw [a4, openRun, a5, if_pos p1]; rfl
 ·have := Z.trans M.1
  rw [this]
  show _ = lay 0 (cont 1 [] ++ zs (sz - (headL 1).length)) (zs sz) (zs r)
  have : cont 1 [] = headL 1 := List.append_nil _
  rw [this]
 ·show (headL 1).length = (cont 1 []).length
  have : cont 1 [] = headL 1 := List.append_nil _
  rw [this]
theorem content_vc (a : Nat) (b : SHeap) (hm : Mem (b) S w0 W) (H : VP S w0 R (.cl 8 42 [PP a] (b) <| .x2 fun r1 (c : SHeap) => .rt (IV r1) (c) <| .cl 0 43 [PP a, IV 0, IV r1] (c) <| .x3 fun r21 r31 (d : SHeap) => .rt (.tuple #[.string r21, IV r31]) (d) <| .re 11 (.string r21) (d))) : Calls TP 21 ⟨[PP a]⟩ W R := VC.cs Tryz.func21 hm _ H
theorem pq1 {x : Nat × Obj} {X L F T : SHeap} (h : L.Perm (x :: (F ++ T))) : (X ++ L).Perm (x :: (F ++ (X ++ T))) := perm_of fun c w M O V Z => by
 have := Z _ _ h
 simp only [M, O, V] at this ⊢; omega
theorem JD.more {JB D : Nat} {m : JM} {d : DS} {L : SHeap} (h : JD JB D m d L) (X : SHeap) : JD JB D m d (X ++ L) := by
 obtain ⟨F, p, c, T, M, O, V⟩ := h
 exact ⟨F, p, c, X ++ T, pq1 M, O, V.more X⟩
theorem pq3 {x : Nat × Obj} {F T : SHeap} : (x :: (F ++ T)).Perm (F ++ x :: T) := List.perm_middle.symm
theorem pq9 {x : Nat × Obj} {N L F T : SHeap} (h : L.Perm (x :: (F ++ T))) : (N ++ L).Perm (F ++ (N ++ x :: T)) := perm_of fun c w M O V Z => by
 have := Z _ _ h
 simp only [M, O, V] at this ⊢; omega
theorem pq10 {x : Nat × Obj} {X N F T : SHeap} : (F ++ (X ++ (N ++ x :: T))).Perm (x :: (F ++ ((X ++ N) ++ T))) := perm_a
theorem JD.re {JB D : Nat} {m : JM} {M : DS} {F' X N T : SHeap} {p : OA} {c : Nat} (h : DRep D M F') (O : FRow noLk m.fs p c T) : JD JB D m M (F' ++ (X ++ (N ++ jH JB D (m.js p c) :: T))) :=
 ⟨F', p, c, (X ++ N) ++ T, pq10, h, O.more _⟩
theorem FRow.within {fs : List Fct} {p : OA} {c : Nat} {N L : SHeap} (h : FRow noLk fs p c N) (O : ∀ x ∈ N, x ∈ L) : FctsL (lkF L) p fs := h.fcts.mono fun b c M => lkF_mono O b c (lkU_no b c M)
theorem preOf {told F : SHeap} {w0 W : World} (hm : Mem (told ++ F) [] w0 W) (M : blkW w0 0 = some tabV) : APre (lkW w0) (F.map (·.1)) W :=
 ⟨lkX_of hm 0 tabV (.inr M), fun b c h => lkX_of hm b c (.inr h)⟩
section calls
variable {w0 : World} {JB D : Nat} {m : JM} {d : DS} {F N L : SHeap} {K : Value → SHeap → Prop} (told : SHeap)
theorem pq4 {told F N L : SHeap} (h : F.Perm (N ++ L)) : (L ++ (told ++ N)).Perm (told ++ F) := perm_of fun c w M O V Z => by
 have := Z _ _ h
 simp only [M, O, V] at this ⊢; omega
theorem pq5 {told N L : SHeap} : (L ++ (told ++ N)).Perm (told ++ (N ++ L)) := pq4 (List.Perm.refl _)
theorem preOfN {W : World} (M : F.Perm (N ++ L)) (hm : Mem (told ++ F) [] w0 W) (O : blkW w0 0 = some tabV) : APre (lkW w0) (L.map (·.1)) W := by
 have : Mem ((told ++ N) ++ L) [] w0 W := hm.perm (by rw [List.append_assoc]; exact (M.append_left told).symm)
 exact preOf this O
theorem CallH.app {f : Fct} {tp bp ap : OA} {tc bc ac : Nat} (M : F.Perm (N ++ L)) (h : JD JB D m d L) (hm : MOk m) (hp : d.pend.length < 900000) (Z : blkW w0 0 = some tabV) (V : FAt (lkW w0) f tp tc bp bc ap ac)
  (O : ∀ L', JD JB D (appendM m d f).2.1 (appendM m d f).2.2 L' → K (.int .i64 (appendM m d f).1) (told ++ (N ++ L'))) :
  CallH TP 16 ⟨[pt JB 0, .agg ⟨f.cells tp tc bp bc ap ac⟩]⟩ (told ++ F) [] w0 K :=
 CallH.effW (L1 := told ++ N) (append_e h hm hp V) (fun W a0 => preOfN told M a0 Z) (pq4 M) fun v L' ⟨e, hj⟩ => ⟨_, pq5, e ▸ O L' hj⟩
theorem CallH.appA {f : Fct} {tp bp ap : OA} {tc bc ac : Nat} {A : Array Value} (M : A = ⟨f.cells tp tc bp bc ap ac⟩) (O : F.Perm (N ++ L)) (h : JD JB D m d L) (hm : MOk m) (hp : d.pend.length < 900000) (a0 : blkW w0 0 = some tabV) (Z : FAt (lkW w0) f tp tc bp bc ap ac)
  (V : ∀ L', JD JB D (appendM m d f).2.1 (appendM m d f).2.2 L' → K (.int .i64 (appendM m d f).1) (told ++ (N ++ L'))) :
  CallH TP 16 ⟨[pt JB 0, .agg A]⟩ (told ++ F) [] w0 K := by
 subst M
 exact CallH.app told O h hm hp a0 Z V
theorem CallH.chk (M : F.Perm (N ++ L)) (h : JD JB D m d L) (hm : MOk m) (hp : d.pend.length < 900000) (V : blkW w0 0 = some tabV)
  (O : ∀ L', JD JB D (checkM m d).2.1 (checkM m d).2.2 L' → K (.int .i64 (checkM m d).1) (told ++ (N ++ L'))) :
  CallH TP 25 ⟨[pt JB 0]⟩ (told ++ F) [] w0 K :=
 CallH.effW (L1 := told ++ N) (check_e h hm hp) (fun W Z => ⟨(preOfN told M Z V).1, fun b c h => h.elim⟩) (pq4 M) fun v L' ⟨e, hj⟩ => ⟨_, pq5, e ▸ O L' hj⟩
theorem pq6 {x : Nat × Obj} {told F F0 T : SHeap} (h : F.Perm (x :: (F0 ++ T))) : ((x :: T) ++ (told ++ F0)).Perm (told ++ F) := perm_of fun c w M O V Z => by
 have := Z _ _ h
 simp only [M, O, V, List.cons_append] at this ⊢; omega
theorem pq7 {x : Nat × Obj} {told F F0 T N X : SHeap} (h : F.Perm (x :: (F0 ++ T))) (V : X.Perm (N ++ (x :: T))) : (X ++ (told ++ F0)).Perm (told ++ (N ++ F)) := perm_of fun c w O Z a0 M => by
 have := M _ _ h
 have := M _ _ V
 simp only [O, Z, a0, List.cons_append] at *; omega
theorem CallH.facts (h : JD JB D m d F) (hm : MOk m)
  (V : ∀ p c N, FRow noLk m.fs p c N → K (.slice p m.fs.length c) (told ++ (N ++ F))) :
  CallH TP 15 ⟨[pt JB 0]⟩ (told ++ F) [] w0 K := by
 obtain ⟨F0, p, c, T, M, a1, O⟩ := h
 have a2 := hm.len
 refine CallH.eff (L0 := jH JB D (m.js p c) :: T) (L1 := told ++ F0) (facts_e ⟨p, c, T, rfl, O⟩ (fun f Z => ok_small (hm.ok f Z)) (by omega)) (pq6 M) ?_
 rintro v L' ⟨p', c', N, rfl, hp, a0⟩
 exact ⟨_, pq7 M hp, V p' c' N a0⟩
theorem JD.here {W : World} {S : List Nat} (h : JD JB D m d F) (hm : Mem (told ++ F) S w0 W) : ∃ p c, W.heap[JB]? = some (jH JB D (m.js p c)).2 := by
 obtain ⟨F0, p, c, T, M, O, V⟩ := h
 exact ⟨p, c, hm.here (jH JB D (m.js p c)) (List.mem_append_right _ (M.mem_iff.2 List.mem_cons_self))⟩
theorem CallH.room (h : JD JB D m d F) (hm : MOk m) (M : K (.int .i64 ((m.sz - m.en : Nat) : Int)) (told ++ F)) : CallH TP 23 ⟨[pt JB 0]⟩ (told ++ F) [] w0 K :=
 CallH.pw (fun W V => by
  obtain ⟨p, c, O⟩ := h.here told V
  have := hm.sz
  exact room_pw O hm.en (by omega)) M
theorem CallH.gen (h : JD JB D m d F) (M : K (.int .i64 m.gen) (told ++ F)) : CallH TP 26 ⟨[pt JB 0]⟩ (told ++ F) [] w0 K :=
 CallH.pw (fun W V => by
  obtain ⟨p, c, O⟩ := h.here told V
  exact gen_pw O) M
def OpnJ (D : Nat) (r : Int × Option JM × DS) (v : Value) (L' : SHeap) : Prop :=
 match r with
 | (e, none, d') => v = .tuple #[.pointer none, .int .i64 e]
 | (e, some m, d') => ∃ JB, v = .tuple #[pt JB 0, .int .i64 0] ∧ JD JB D m d' L'
theorem CallH.opn {Z T : SHeap} (a3 : F.Perm (Z ++ T)) (h : DRep D d Z) (hp : d.pend.length < 900000) (a6 : blkW w0 0 = some tabV)
  (a4 : ∀ v F' X, DRep D (openM d).2.2 F' → OpnJ D (openM d) v (F' ++ (X ++ T)) → K v (told ++ (F' ++ (X ++ T)))) :
  CallH TP 13 ⟨[pt D 0]⟩ (told ++ F) [] w0 K := by
 refine CallH.effW (L0 := Z) (L1 := told ++ T) (open_e h hp) (fun W a7 => ?_) (pq4 (N := T) (a3.trans List.perm_append_comm)) ?_
 ·have : Mem ((told ++ T) ++ Z) [] w0 W := a7.perm (by rw [List.append_assoc]; exact ((a3.trans List.perm_append_comm).append_left told).symm)
  exact lkX_of this 0 tabV (.inr a6)
 ·intro v L' a5
  generalize openM d = r at *
  obtain ⟨e, o, a9⟩ := r
  cases o with
  | none =>
   obtain ⟨rfl, F', X, k1, a1⟩ := a5
   refine ⟨_, ?_, a4 _ F' X a1 rfl⟩
   exact perm_of fun c w M O V a0 => by
    have := a0 _ _ k1
    simp only [M, O, V] at this ⊢; omega
  | some m =>
   obtain ⟨JB, rfl, F', p, c, a2, k1, a1, a8⟩ := a5
   refine ⟨_, ?_, a4 _ F' (jH JB D (m.js p c) :: a2) a1 ⟨JB, rfl, F', p, c, a2 ++ T, ?_, a1, (a8.more T).perm List.perm_append_comm⟩⟩
   ·exact perm_of fun c w M O V a0 => by
     have := a0 _ _ k1
     simp only [M, O, V, List.cons_append] at this ⊢; omega
   ·exact perm_of fun c w M O V a0 => by
     simp only [M, O, V, List.cons_append]; omega
theorem CallH.dsk {g : FuncId} {args : Array Value} {M T : SHeap} {v : Value} {O : DS} (V : F.Perm (M ++ T)) (h : EffC TP g args M (DRes D v O)) (Z : ∀ F', DRep D O F' → K v (told ++ (F' ++ T))) : CallH TP g args (told ++ F) [] w0 K :=
 CallH.eff (L1 := told ++ T) h (pq4 (N := T) (V.trans List.perm_append_comm)) fun a2 L' a0 => ⟨told ++ (L' ++ T), List.perm_append_comm_assoc _ _ _, by obtain ⟨rfl, a1⟩ := a0; exact Z _ a1⟩
end calls
theorem content_e {D : Nat} {d : DS} {M : SHeap} (h : DRep D d M) (a1 : d.on = true) : EffC TP 21 ⟨[pt D 0]⟩ M (DRes D (.string ⟨d.vis.toArray⟩) d) := by
 intro W hm
 have a2 := h.1.le
 refine content_vc D M hm (CallH.dT [] (Size_e h) fun O Z => ⟨_, O, rfl, rfl, CallH.dT [] (Read_e Z (by omega)) fun V a0 => ⟨_, _, V, rfl, rfl, ?_⟩⟩)
 have e : (d.read 0 (d.vis.length : Int)).1 = ⟨d.vis.toArray⟩ := by
  rw [DS.read, if_neg (by rw [a1]; decide), if_pos ⟨Int.le_refl _, by omega, by omega⟩]
  simp
 rw [e]
 exact dkFin ⟨rfl, a0⟩
theorem row_23 {c : List Value} {o : Nat} {f : Fct} {tp bp ap : OA} {tc bc ac : Nat} (h : (c.drop o).take 23 = f.cells tp tc bp bc ap ac) : c[o + 2]? = some (.int .i64 f.kind) ∧ c[o + 3]? = some (.int .i64 f.story) := by
 have M : ((c.drop o).take 23)[2]? = some (.int .i64 f.kind) := by rw [h]; rfl
 have O : ((c.drop o).take 23)[3]? = some (.int .i64 f.story) := by rw [h]; rfl
 rw [List.getElem?_take_of_lt (by decide), List.getElem?_drop] at M O
 exact ⟨M, O⟩
section perms
variable (x y : Nat × Obj) (X N F : SHeap)
end perms
abbrev zL2aa : Array Value := #[IV 1, IV 0, IV 6, IV 5, sZ, IV 0, IV 0, sZ, sZ, .slice none 0 0, .slice none 0 0, IV 0, .slice none 0 0, IV 0, IV 0, IV 0, IV 0, IV 0, sZ, sZ, IV 0, IV 0, IV 0]
abbrev yL2aa (a : Nat) (b : SHeap) : SHeap := (a, .cells zL2aa 38) :: b
theorem sane24_vc (g : SHeap) (hm : Mem (g) [] w0 W) (H : VP [] w0 R (.cl 6 11 [IV 200] (g) <| .x3 fun (d : OA) r21 (h : SHeap) => .rt (.tuple #[.pointer d, IV r21]) (h) <| .cl 9 13 [.pointer d] (h) <| .x3 fun (b : OA) r41 (i : SHeap) => .rt (.tuple #[.pointer b, IV r41]) (i) <| .nf 9 (.cells #[IV 0, IV 0, IV 0, IV 0, sZ, IV 0, IV 0, sZ, sZ, .slice none 0 0, .slice none 0 0, IV 0, .slice none 0 0, IV 0, IV 0, IV 0, IV 0, IV 0, sZ, sZ, IV 0, IV 0, IV 0] 38) fun B => .ru [200,4,200] <| .cl 0 16 [.pointer b, .agg zL2aa] (yL2aa B i) <| .x2 fun t j => .rt (IV t) (yL2aa B j) <| .ru [5,200] <| .cl 0 16 [.pointer b, .agg zL2aa] (yL2aa B j) <| .x2 fun u k => .rt (IV u) (yL2aa B k) <| .cl 5 25 [.pointer b] (yL2aa B k) <| .x2 fun w l => .rt (IV w) (yL2aa B l) <| .cl 5 15 [.pointer b] (yL2aa B l) <| .x4 fun y e x m => .rt (.slice y e x) (yL2aa B m) <| .cl 5 13 [.pointer d] (yL2aa B m) <| .x3 fun (z : OA) r101 F7 => .rt (.tuple #[.pointer z, IV r101]) (yL2aa B F7) <| .cl 8 13 [.pointer none] (yL2aa B F7) <| .x3 fun (C : OA) r121 F8 => .rt (.tuple #[.pointer C, IV r121]) (yL2aa B F8) <| .hp (yL2aa B F8) fun a => .P 11 45 (r41 = 0) (.P 4 49 (t = 0) (.P 4 53 (u = 240) (.P 4 57 (w = 0) (.P 5 62 ((e : Int) = 1) (.r 1 <| .x2 fun f c => .sp y f c [9,33,58,63] <| .iL f c e x 23 0 (c + ((0) * 23)) <| .r 1 <| .x2 fun A p => .lM a f ((c + ((0) * 23)) + 3) 3 A (IV p) <| .P 3 69 (p = 5) (.cl 1 26 [.pointer b] a <| .ex fun q => .rt (IV q) a <| .P 3 74 (q = 2) (.P 4 78 (r101 = 0) (.cl 1 15 [.pointer z] a <| .x4 fun E s D n => .rt (.slice E s D) (yL2aa B n) <| .hp (yL2aa B n) fun o => .P 4 84 ((s : Int) = 1) (.re 5 (.bool (decide (r121 = 1))) o) <| .re 5 (.bool false) o) <| .re 11 (.bool false) a) <| .re 15 (.bool false) a) <| .re 20 (.bool false) a) <| .re 27 (.bool false) a) <| .re 32 (.bool false) a) <| .re 36 (.bool false) a) <| .re 40 (.bool false) a) <| .re 44 (.bool false) a)) : Calls TP 10 ⟨[]⟩ W R := VC.cs Tryz.func10 hm _ H
abbrev zK8aa (a : Fct) (b x2 x3 : Nat) (x4 x5 c : OA) : Array Value := #[IV a.n, IV a.time, IV a.kind, IV a.story, .string a.lang, IV a.rev, IV a.base, .string a.title, .string a.author, .slice x4 a.topics.length b, .slice x5 a.blocks.length x2, IV a.lab.unt, .slice c a.lab.after.length x3, IV a.lab.appr, IV a.lab.den, IV a.editor, IV a.block, IV a.sentence, .string a.text, .string a.name, IV a.partner, IV a.cls, IV a.unt]
theorem jOpenN_vc  (hm : Mem [] [] w0 W) (H : VP [] w0 R (.il 9 Tryz.func42 [.pointer none] <| .rk 15 <| .re 8 (.tuple #[.pointer none, IV 1]) [])) : Calls TP 13 ⟨[.pointer none]⟩ W R := VC.cs Tryz.func13 hm _ H
theorem jAppendN_vc (a : Fct) (g : OA) (f : Nat) (e : OA) (d : Nat) (c : OA) (b : Nat) (hm : Mem [] [] w0 W) (H : VP [] w0 R (.np 2 (.cells (zK8aa a f d b g e c) 38) fun B => .re 20 (IV 1) [(B, .cells (zK8aa a f d b g e c) 38)])) : Calls TP 16 ⟨[.pointer none, .agg (zK8aa a f d b g e c)]⟩ W R := VC.cs Tryz.func16 hm _ H
theorem jCheckN_vc  (hm : Mem [] [] w0 W) (H : VP [] w0 R (.re 22 (IV 1) [])) : Calls TP 25 ⟨[.pointer none]⟩ W R := VC.cs Tryz.func25 hm _ H
theorem jFactsN_vc  (hm : Mem [] [] w0 W) (H : VP [] w0 R (.re 15 (.slice none 0 0) [])) : Calls TP 15 ⟨[.pointer none]⟩ W R := VC.cs Tryz.func15 hm _ H
theorem jRoomN_vc  (hm : Mem [] [] w0 W) (H : VP [] w0 R (.re 15 (IV 0) [])) : Calls TP 23 ⟨[.pointer none]⟩ W R := VC.cs Tryz.func23 hm _ H
theorem jGenN_vc  (hm : Mem [] [] w0 W) (H : VP [] w0 R (.re 15 (IV 0) [])) : Calls TP 26 ⟨[.pointer none]⟩ W R := VC.cs Tryz.func26 hm _ H
theorem New_vc (a : Int) (hm : Mem [] [] w0 W)
 (H :
 Br (a < 1)
 (Fin R [] [] w0 (.tuple #[.pointer none, IV 2]))
 (Br ((4194304 : Int) < a)
 (Fin R [] [] w0 (.tuple #[.pointer none, IV 2]))
 ((0 ≤ a ∧ a ≤ a ∧ 1 * a ≤ 281474976710656 ∧ a ≤ 9223372036854775807) ∧
 ∀ B : Nat,
 (0 ≤ a ∧ a ≤ a ∧ 1 * a ≤ 281474976710656 ∧ a ≤ 9223372036854775807) ∧
 ∀ b d : Nat,
 Fin R [(B, .cells ⟨(List.replicate (Int.toNat a) (.int .u8 0))⟩ 5), (b, .cells ⟨(List.replicate (Int.toNat a) (.int .u8 0))⟩ 5), (d, .cells #[.bool true, IV 0, .slice (SO B) (Int.toNat a) (Int.toNat a), .slice (SO b) (Int.toNat a) (Int.toNat a), .slice none 0 0] 82)] [] w0 (.tuple #[PP d, IV 0])))) :
 Calls TP 11 ⟨[IV a]⟩ W R:= by
 refine AtE.cs 22 Tryz.func11 hm (.ru 11 (.sP 7 H (fun H => ?_) fun H => ?_))
 ·refine .ru 10 (.rt Tryz.func11 H)
 ·refine .ru 4 (.sP 10 H (fun H => ?_) fun H => ?_)
  ·refine .ru 6 (.rt Tryz.func11 H)
  ·refine .ru 3 ?_
   have H0 := H
   have hd0 : ∀ B b d : Nat, AtL TP 11 22 (regOps [.code (sub (Eng.body Tryz.f11) [1,1,0])]) 0 #[true, true, true, true, true, true, true] (KC Tryz.f11 15) [(4, PP d)] [(B, .cells ⟨(List.replicate (Int.toNat a) (.int .u8 0))⟩ 5), (b, .cells ⟨(List.replicate (Int.toNat a) (.int .u8 0))⟩ 5), (d, .cells #[.bool false, IV 0, .slice (SO B) (Int.toNat a) (Int.toNat a), .slice (SO b) (Int.toNat a) (Int.toNat a), .slice none 0 0] 82)] [] w0 (nrm R) := by
    intro B b d c
    have H := (((H0.2 B).2 b) d)
    refine .nm (KR Tryz.f11 14 []) [(4, PP d)] [(B, .cells ⟨(List.replicate (Int.toNat a) (.int .u8 0))⟩ 5), (b, .cells ⟨(List.replicate (Int.toNat a) (.int .u8 0))⟩ 5), (d, .cells #[.bool false, IV 0, .slice (SO B) (Int.toNat a) (Int.toNat a), .slice (SO b) (Int.toNat a) (Int.toNat a), .slice none 0 0] 82)] (.ru 6 (.il 41 [PP d] 8 Tryz.func41 (.ru 5 (.st 2 0 (.ru 2 (.st 2 1 (.ru 1 (.rk Tryz.func41 (.ru 7 (.rt Tryz.func11 H))))))))))
   have hd1 : ∀ B b d : Nat, AtL TP 11 22 (regOps [.code (sub (Eng.body Tryz.f11) [1,1,0])]) 1 #[true, true, true, true, true, true, false] (KC Tryz.f11 15) [(16, PP d)] [(B, .cells ⟨(List.replicate (Int.toNat a) (.int .u8 0))⟩ 5), (b, .cells ⟨(List.replicate (Int.toNat a) (.int .u8 0))⟩ 5), (d, .cells #[.bool false, IV 0, .slice (SO B) (Int.toNat a) (Int.toNat a), .slice (SO b) (Int.toNat a) (Int.toNat a), .slice none 0 0] 82)] [] w0 (nrm R) := by
    intro B b d
    refine .step [6] (by kernel_rfl) ⟨fun c => ?_, trivial⟩
    ·have H := (((H0.2 B).2 b) d)
     refine .ru 1 (.cut [0,1,2] (hd0 B b d c) (by kernel_rfl))
   have hd2 : ∀ B b : Nat, AtL TP 11 22 (regOps [.code (sub (Eng.body Tryz.f11) [1,1,0])]) 2 #[true, true, true, true, true, false, false] (KC Tryz.f11 15) [(15, .agg #[.bool false, IV 0, .slice (SO B) (Int.toNat a) (Int.toNat a), .slice (SO b) (Int.toNat a) (Int.toNat a), .slice none 0 0])] [(B, .cells ⟨(List.replicate (Int.toNat a) (.int .u8 0))⟩ 5), (b, .cells ⟨(List.replicate (Int.toNat a) (.int .u8 0))⟩ 5)] [] w0 (nrm R) := by
    intro B b
    refine .step [5] (by kernel_rfl) ⟨fun c => ?_, trivial⟩
    ·have H := ((H0.2 B).2 b)
     refine .nH (.cells #[.bool false, IV 0, .slice (SO B) (Int.toNat a) (Int.toNat a), .slice (SO b) (Int.toNat a) (Int.toNat a), .slice none 0 0] 82) H fun d H => (.cut [0,1,2] (hd1 B b d c) (by kernel_rfl))
   have hd3 : ∀ B b : Nat, AtL TP 11 22 (regOps [.code (sub (Eng.body Tryz.f11) [1,1,0])]) 3 #[true, true, true, true, false, false, false] (KC Tryz.f11 15) [(12, .slice (SO B) (Int.toNat a) (Int.toNat a)), (14, .slice (SO b) (Int.toNat a) (Int.toNat a))] [(B, .cells ⟨(List.replicate (Int.toNat a) (.int .u8 0))⟩ 5), (b, .cells ⟨(List.replicate (Int.toNat a) (.int .u8 0))⟩ 5)] [] w0 (nrm R) := by
    intro B b
    refine .step [4] (by kernel_rfl) ⟨fun c => ?_, trivial⟩
    ·have H := ((H0.2 B).2 b)
     refine .ru 1 (.cut [0,1] (hd2 B b c) (by kernel_rfl))
   have hd4 : ∀ B : Nat, AtL TP 11 22 (regOps [.code (sub (Eng.body Tryz.f11) [1,1,0])]) 4 #[true, true, true, false, false, false, false] (KC Tryz.f11 15) [(12, .slice (SO B) (Int.toNat a) (Int.toNat a)), (13, IV a)] [(B, .cells ⟨(List.replicate (Int.toNat a) (.int .u8 0))⟩ 5)] [] w0 (nrm R) := by
    intro B
    refine .step [3] (by kernel_rfl) ⟨fun c => ?_, trivial⟩
    ·have H := (H0.2 B)
     refine .make (E := 5) (kl := .i64) (kc := .i64) (n := a) (m := a) (z := .int .u8 0) (bytes := 1) (by kernel_rfl) H.1 (fun b => ?_)
     replace H := H.2 b
     exact .cut [0,1] (hd3 B b c) (by kernel_rfl)
   have hd5 : ∀ b : Nat, AtL TP 11 22 (regOps [.code (sub (Eng.body Tryz.f11) [1,1,0])]) 4 #[true, false, true, true, false, false, false] (KC Tryz.f11 15) [(11, IV a), (14, .slice (SO b) (Int.toNat a) (Int.toNat a))] [(b, .cells ⟨(List.replicate (Int.toNat a) (.int .u8 0))⟩ 5)] [] w0 (nrm R) := by
    intro b
    refine .step [1] (by kernel_rfl) ⟨fun c => ?_, trivial⟩
    ·have H := H0
     refine .make (E := 5) (kl := .i64) (kc := .i64) (n := a) (m := a) (z := .int .u8 0) (bytes := 1) (by kernel_rfl) H.1 (fun B => ?_)
     replace H := H.2 B
     exact .cut [1,0] (hd3 B b c) (by kernel_rfl)
   have hd6 : ∀ B : Nat, AtL TP 11 22 (regOps [.code (sub (Eng.body Tryz.f11) [1,1,0])]) 5 #[true, true, false, false, false, false, false] (KC Tryz.f11 15) [(0, IV a), (12, .slice (SO B) (Int.toNat a) (Int.toNat a))] [(B, .cells ⟨(List.replicate (Int.toNat a) (.int .u8 0))⟩ 5)] [] w0 (nrm R) := by
    intro B
    refine .step [2] (by kernel_rfl) ⟨fun c => ?_, trivial⟩
    ·have H := H0
     refine .ru 1 (.cut [0] (hd4 B c) (by kernel_rfl))
   have hd7 : AtL TP 11 22 (regOps [.code (sub (Eng.body Tryz.f11) [1,1,0])]) 5 #[true, false, true, false, false, false, false] (KC Tryz.f11 15) [(11, IV a), (13, IV a)] [] [] w0 (nrm R) := by
    refine .step [1,3] (by kernel_rfl) ⟨fun c => ?_, fun c => ?_, trivial⟩
    ·have H := H0
     refine .make (E := 5) (kl := .i64) (kc := .i64) (n := a) (m := a) (z := .int .u8 0) (bytes := 1) (by kernel_rfl) H.1 (fun B => ?_)
     replace H := H.2 B
     exact .cut [0] (hd4 B c) (by kernel_rfl)
    ·have H := (H0.2 0)
     refine .make (E := 5) (kl := .i64) (kc := .i64) (n := a) (m := a) (z := .int .u8 0) (bytes := 1) (by kernel_rfl) H.1 (fun b => ?_)
     replace H := H.2 b
     exact .cut [0] (hd5 b c) (by kernel_rfl)
   have hd8 : ∀ b : Nat, AtL TP 11 22 (regOps [.code (sub (Eng.body Tryz.f11) [1,1,0])]) 5 #[false, false, true, true, false, false, false] (KC Tryz.f11 15) [(0, IV a), (14, .slice (SO b) (Int.toNat a) (Int.toNat a))] [(b, .cells ⟨(List.replicate (Int.toNat a) (.int .u8 0))⟩ 5)] [] w0 (nrm R) := by
    intro b
    refine .step [0] (by kernel_rfl) ⟨fun c => ?_, trivial⟩
    ·have H := H0
     refine .ru 1 (.cut [0] (hd5 b c) (by kernel_rfl))
   have hd9 : AtL TP 11 22 (regOps [.code (sub (Eng.body Tryz.f11) [1,1,0])]) 6 #[true, false, false, false, false, false, false] (KC Tryz.f11 15) [(0, IV a), (11, IV a)] [] [] w0 (nrm R) := by
    refine .step [1,2] (by kernel_rfl) ⟨fun c => ?_, fun c => ?_, trivial⟩
    ·have H := H0
     refine .make (E := 5) (kl := .i64) (kc := .i64) (n := a) (m := a) (z := .int .u8 0) (bytes := 1) (by kernel_rfl) H.1 (fun B => ?_)
     replace H := H.2 B
     exact .cut [0] (hd6 B c) (by kernel_rfl)
    ·have H := H0
     refine .ru 1 (.cut [] (hd7  c) (by kernel_rfl))
   have hd10 : AtL TP 11 22 (regOps [.code (sub (Eng.body Tryz.f11) [1,1,0])]) 6 #[false, false, true, false, false, false, false] (KC Tryz.f11 15) [(0, IV a), (13, IV a)] [] [] w0 (nrm R) := by
    refine .step [0,3] (by kernel_rfl) ⟨fun c => ?_, fun c => ?_, trivial⟩
    ·have H := H0
     refine .ru 1 (.cut [] (hd7  c) (by kernel_rfl))
    ·have H := (H0.2 0)
     refine .make (E := 5) (kl := .i64) (kc := .i64) (n := a) (m := a) (z := .int .u8 0) (bytes := 1) (by kernel_rfl) H.1 (fun b => ?_)
     replace H := H.2 b
     exact .cut [0] (hd8 b c) (by kernel_rfl)
   have hd11 : AtL TP 11 22 (regOps [.code (sub (Eng.body Tryz.f11) [1,1,0])]) 7 #[false, false, false, false, false, false, false] (KC Tryz.f11 15) [(0, IV a)] [] [] w0 (nrm R) := by
    refine .step [0,2] (by kernel_rfl) ⟨fun c => ?_, fun c => ?_, trivial⟩
    ·have H := H0
     refine .ru 1 (.cut [] (hd9  c) (by kernel_rfl))
    ·have H := H0
     refine .ru 1 (.cut [] (hd10  c) (by kernel_rfl))
   exact .cut [] (.drawAny (k := (KC Tryz.f11 14)) (by kernel_rfl) hd11) (by kernel_rfl)
def DS.new (n : Nat) : DS := { on := true, cut := 0, dur := List.replicate n 0, vis := List.replicate n 0, pend := [] }
theorem bytesL_zero (n : Nat) : (List.replicate n (.int .u8 0) : List Value) = bytesL (List.replicate n 0) := by simp [bytesL]
theorem New_e {n : Int} {N : Nat} (O : n = N) (V : 1 ≤ N) (Z : N ≤ 4194304) : EffC TP 11 ⟨[.int .i64 n]⟩ [] (fun v L' => ∃ D, v = .tuple #[DP D, .int .i64 0] ∧ DRep D (DS.new N) L') := by
 subst O
 intro W hm
 refine New_vc _ hm ?_
 refine no (by omega) (no (by omega) ⟨by omega, fun B => ⟨by omega, fun M B2 => ?_⟩⟩)
 rw [Int.toNat_natCast, bytesL_zero]
 refine DK.fin' [2, 0, 1] rfl ⟨B2, rfl, ⟨rfl, ?_, ?_, ?_, ?_⟩, B, M, .inl ⟨rfl, ?_⟩⟩
 ·simp [DS.new]; omega
 ·simp [DS.new]; omega
 ·simp [DS.new]
 ·intro p hp; cases hp
 ·simp only [DS.new, List.length_replicate]; rfl
theorem openN_c : PureC TP 13 ⟨[.pointer none]⟩ (.tuple #[.pointer none, .int .i64 1]) := fun W => jOpenN_vc (Mem.start [] W) (finPure rfl)
theorem new_ok {n : Nat} (M : 64 ≤ n) (O : n ≤ 4194304) : DOk (DS.new n) :=
 ⟨by simp [DS.new], by simp [DS.new]; omega, by simp [DS.new]; omega, by simp [DS.new], fun p hp => by cases hp⟩
theorem openM_new' {n : Nat} (V : 64 ≤ n) (Z : n ≤ 4194304) : ∃ M, openM (DS.new n) = (0, some ⟨1, [], (headL 1).length, n / 2, 0, false⟩, M) ∧ Clean (zs (n % 2)) ⟨1, [], (headL 1).length, n / 2, 0, false⟩ M ∧ M.cut = 0 ∧ M.vis.length = n := by
 have O : (DS.new n).vis.length = n := List.length_replicate
 have := openM_new (new_ok V Z) rfl rfl rfl rfl (by rw [O]; rfl) (by rw [O]; exact V)
 rwa [O] at this
def sgF : Fct := ⟨1, 0, 6, 5, ⟨#[]⟩, 0, 0, ⟨#[]⟩, ⟨#[]⟩, [], [], Lab.zero, 0, 0, 0, ⟨#[]⟩, ⟨#[]⟩, 0, 0, 0⟩
theorem sgF_ok : sgF.ok = true := by kernel_rfl
theorem sgF_enc : (encS (encF sgF)).length = 5 := by kernel_rfl
theorem sgR : redJ [sgF] = [redF sgF] := by kernel_rfl
theorem sgR_enc : (encS (encF (redF sgF))).length = 5 := by kernel_rfl
theorem sg_at : FAt lk sgF none 0 none 0 none 0 := noLists rfl rfl rfl ⟨e0_sz, e0_sz, e0_sz, e0_sz, e0_sz⟩
theorem sg_rec : (recL sgF).length ≤ 16 := by have := frm_len (encS (encF sgF)); rw [sgF_enc] at this; exact this
theorem sg_rec2 : (recL (redF sgF)).length ≤ 16 := by have := frm_len (encS (encF (redF sgF))); rw [sgR_enc] at this; exact this
theorem sane24_c {W : World} (a1 : blkW W 0 = some tabV) : Calls TP 10 ⟨[]⟩ W (fun e a5 => e = .returned (.bool true) ∧ Below W.heap.size W a5) := by
 obtain ⟨b0, o1, c1, k1, n1⟩ := openM_new' (n := 200) (by decide) (by decide)
 have e4 := headL_len 1; have e5 := headL_len 2
 have e8 := sg_rec; have e9 := sg_rec2

 obtain ⟨M, O, b6, a0, a7, a4, b9, b1⟩ : ∃ M O, appendM ⟨1, [], (headL 1).length, 200 / 2, 0, false⟩ b0 sgF = (0, M, O) ∧ Clean (zs (200 % 2)) M O ∧ O.cut = 0 ∧ M.fs = [sgF] ∧ M.sz = 100 ∧ M.gen = 1 := by
  have V := append_out c1 sgF
  generalize hr : appendM ⟨1, [], (headL 1).length, 200 / 2, 0, false⟩ b0 sgF = r at V
  cases V with
  | no e he =>
   rcases he with ⟨_, he | he⟩ | ⟨_, _, _, he⟩
   ·rw [sgF_ok] at he; cases he
   ·exact absurd rfl he
   ·simp only at he; omega
  | yes d' _ _ h hl hc => exact ⟨_, d', rfl, h, hc k1, rfl, rfl, rfl⟩
  | pow d' _ hc _ => exact absurd k1 hc

 have b7 : appendM M O sgF = (240, M, O) := by
  have V := append_out a0 sgF
  generalize hr : appendM M O sgF = r at V
  cases V with
  | no e he =>
   rcases he with ⟨rfl, _⟩ | ⟨_, _, he, _⟩
   ·rfl
   ·rw [a4] at he; exact absurd he (by decide)
  | yes d' _ he _ _ _ => rw [a4] at he; exact absurd he (by decide)
  | pow d' _ hc _ => exact absurd a7 hc

 obtain ⟨Z, a3, b8, a2, f2, b3, c2⟩ : ∃ Z a3, checkM M O = (0, Z, a3) ∧ Clean (zs (200 % 2)) Z a3 ∧ a3.cut = 0 ∧ Z.fs = [redF sgF] ∧ Z.gen = 2 := by
  have V := check_out a0
  generalize hr : checkM M O = r at V
  cases V with
  | no he =>
   rcases he with he | he
   ·omega
   ·rw [a4, sgR, b1, b9] at he
    have : (cont (1 + 1) [redF sgF]).length = (headL 2).length + (recL (redF sgF)).length := by
     rw [cont, List.length_append]; simp
    omega
  | yes d' h hl hc => exact ⟨_, d', rfl, h, hc a7, by show redJ M.fs = _; rw [a4, sgR], by show M.gen + 1 = 2; rw [b1]; rfl⟩
  | pow d' hc _ => exact absurd a7 hc
 have fin : ∀ {F : SHeap}, Fin (fun e a5 => e = .returned (.bool true) ∧ Below W.heap.size W a5) F [] W (.bool true) := finPW rfl
 refine sane24_vc [] (Mem.start [] W) (CallH.effT [] (New_e (N := 200) rfl (by decide) (by decide)) ?_)
 rintro _ d5 ⟨D, rfl, c4⟩
 refine ⟨_, _, _, rfl, rfl, CallH.opn [] (T := []) (by simp) c4 (by decide) a1 ?_⟩
 rw [o1]
 rintro _ d6 X e7 ⟨JB, rfl, c6⟩
 refine ⟨_, _, _, rfl, rfl, fun B => ?_⟩
 refine CallH.app (f := sgF) (N := []) [_] (List.Perm.refl _) c6 c1.mok (by rw [c1.pend]; decide) a1 sg_at ?_
 rw [b6]
 intro d7 c7
 refine ⟨_, _, rfl, rfl, ?_⟩
 refine CallH.app (f := sgF) (N := []) [_] (List.Perm.refl _) c7 a0.mok (by rw [a0.pend]; decide) a1 sg_at ?_
 rw [b7]
 intro d8 c8
 refine ⟨_, _, rfl, rfl, ?_⟩
 refine CallH.chk (N := []) [_] (List.Perm.refl _) c8 a0.mok (by rw [a0.pend]; decide) a1 ?_
 rw [b8]
 intro d9 b5
 refine ⟨_, _, rfl, rfl, CallH.facts [_] b5 a2.mok fun p c N b4 => ⟨_, _, _, _, rfl, rfl, ?_⟩⟩
 rw [b3] at b4 ⊢
 obtain ⟨F0, p', c', a9, d2, d3, d4⟩ := b5
 refine CallH.opn [_] (pq9 (N := N) d2) d3 (by rw [a2.pend]; decide) a1 ?_
 rw [openM_clean a2]
 rintro _ a8 a6 c5 ⟨e2, rfl, d0⟩
 have c9 := JD.re (JB := JB) (X := a6) (N := N) c5 d4
 have c3 := b4.within (L := a8 ++ (a6 ++ (N ++ jH JB D (Z.js p' c') :: a9))) fun x d1 => by simp [d1]
 generalize a8 ++ (a6 ++ (N ++ jH JB D (Z.js p' c') :: a9)) = F7 at *
 refine ⟨_, _, _, rfl, rfl, CallH.pure openN_c ⟨_, _, _, rfl, rfl, ?_⟩⟩
 obtain ⟨b, o, cs, rfl, z2, z3, tp, tc, bp, bc, ap, ac, z4, z5⟩ := c3.get (i := 0) (by decide)
 refine yes rfl (yes rfl (yes rfl (yes rfl (yes rfl ⟨b, o, rfl, by decide, cs, 5, .inl ?_, ?_, yes rfl ?_⟩))))
 ·obtain ⟨t, fz, z⟩ := z2
  exact ⟨t, fz, List.mem_cons_of_mem _ z⟩
 ·have := (row_23 z4).2
  exact this
 refine CallH.gen [_] c9 ⟨_, rfl, rfl, yes c2 (yes rfl ?_)⟩
 refine CallH.facts [_] d0 a2.mok fun p c e3 e6 => ⟨_, _, _, _, rfl, rfl, ?_⟩
 rw [b3]
 exact yes rfl fin
theorem CallH.sane24 {L : SHeap} (O : blkW w0 0 = some tabV) (M : K (.bool true) L) : CallH TP 10 ⟨[]⟩ L [] w0 K :=
 CallH.ex (Q := fun v => v = .bool true) (fun W hm => (sane24_c (lkW_kept hm 0 tabV O)).mono fun e W' ⟨h1, h2⟩ => ⟨_, h1, h2, rfl⟩) fun v V => V ▸ M
abbrev RT (w0 : World) : Ending → World → Prop := fun e W' => e = .returned (.bool true) ∧ Below w0.heap.size w0 W'
theorem numF_at {f : Fct} (h : FAt lk f tp tc bp bc ap ac) (n : Int) : FAt lk { f with n := n } tp tc bp bc ap ac := ⟨h.tops, h.blks, h.ints, h.ct, h.cb, h.ca, h.fits⟩
theorem sizeN_bounds (n : Int) : 64 ≤ sizeN n ∧ sizeN n ≤ 4194304 := by
 have := Nat.mod_lt (pickN n) (show 1500 > 0 by decide)
 unfold sizeN; omega
theorem qText_vc (a : BA) (hm : Mem [] [] w0 W) (H : VP [] w0 R (.sN 9 5 a (⟨#[]⟩ : BA) (.cl 1 180 [.string a] [] <| .ex fun b => .rt (.bool b) [] <| .re 3 (.bool b) []) <| .re 5 (.bool false) [])) : Calls TP 162 ⟨[.string a]⟩ W R := VC.cs Tryz.func162 hm _ H
noncomputable def qSource_c0 (b : BA) (a : Int) : Cut := ⟨TP, [], 166, 29, (KC Tryz.f166 52), [(0, .string b), (3, IV a)], []⟩
theorem qSource_c0_vc (a : BA) (b : Int) (H : VP [] w0 R (.P 8 7 (b < (a.size : Int)) (.r 8 <| .ix a b <| .I 2 14 ((bat a b) = 10) (.r 2 <| .ix a b <| .P 2 19 ((bat a b) < 32) (.re 12 (.bool false) []) <| .r 2 <| .ix a b <| .P 4 25 (126 < (bat a b)) (.re 5 (.bool false) []) <| .li 7 3 (IntKind.i64.wrap (b + 1)) fun c => .ct 2 [] (qSource_c0 a c)) <| .li 19 3 (IntKind.i64.wrap (b + 1)) fun d => .ct 2 [] (qSource_c0 a d)) <| .re 9 (.bool (decide ((a.size : Int) ≤ 1000))) [])) : qSource_c0 a b w0 R := VC.go Tryz.func166 _ H
theorem qSource_vc (a : BA) (hm : Mem [] [] w0 W) (H : VP [] w0 R (.ct 11 [] (qSource_c0 a 0))) : Calls TP 166 ⟨[.string a]⟩ W R := VC.cs Tryz.func166 hm _ H
noncomputable def qTopics_c0 (d : OA) (c b : Nat) (a : Int) : Cut := ⟨TP, [], 163, 37, (KC Tryz.f163 52), [(0, .slice d c b), (3, IV a)], []⟩
theorem qTopics_c0_vc (d : OA) (b c : Nat) (a : Int) (H : VP [] w0 R (.P 8 8 (a < (b : Int)) (.r 8 <| .x2 fun h e => .iP d h e b c 1 a (e + (Int.toNat a)) <| .x2 fun o k => .lW h (e + (Int.toNat a)) 9 o (.string k) <| .cl 0 161 [.string k] [] <| .ex fun n => .rt (.bool n) [] <| .r 3 <| .dr 18 <| .qu [1] <| .zB 16 n (.qu [5] <| .zP 21 (0 < a) (.qu [3] <| .x2 fun i f => .iP d i f b c 1 (IntKind.i64.wrap (a - 1)) (f + (Int.toNat (IntKind.i64.wrap (a - 1)))) <| .x2 fun p l => .lW i (f + (Int.toNat (IntKind.i64.wrap (a - 1)))) 9 p (.string l) <| .qu [2] <| .x2 fun j g => .iP d j g b c 1 a (g + (Int.toNat a)) <| .x2 fun q m => .lW j (g + (Int.toNat a)) 9 q (.string m) <| .qu [3] <| .dn <| .B 1 33 (!(Op.bytesLess l.toList m.toList)) (.re 5 (.bool false) []) <| .li 7 3 (IntKind.i64.wrap (a + 1)) fun s => .ct 2 [] (qTopics_c0 d b c s)) <| .qu [12] <| .dn <| .li 8 3 (IntKind.i64.wrap (a + 1)) fun t => .ct 2 [] (qTopics_c0 d b c t)) <| .qu [17] <| .dn <| .re 6 (.bool false) []) <| .re 9 (.bool (decide ((b : Int) ≤ 4))) [])) : qTopics_c0 d b c a w0 R := VC.go Tryz.func163 _ H
theorem qTopics_vc (c : OA) (b a : Nat) (hm : Mem [] [] w0 W) (H : VP [] w0 R (.ct 11 [] (qTopics_c0 c b a 0))) : Calls TP 163 ⟨[.slice c b a]⟩ W R := VC.cs Tryz.func163 hm _ H
theorem qFields_vc (a : Int) (hm : Mem [] [] w0 W) (H : VP [] w0 R (.P 15 4 (a = 1) (.re 5 (.string (⟨#[115,108,114,97,116,117,111,98,76]⟩)) []) <| .P 6 6 (a = 2) (.re 5 (.string (⟨#[115,101]⟩)) []) <| .P 6 8 (a = 3) (.re 5 (.string (⟨#[115,76]⟩)) []) <| .P 6 10 (a = 4) (.re 5 (.string (⟨#[115,108,107,110,120]⟩)) []) <| .P 6 12 (a = 5) (.re 5 (.string (⟨#[115,120]⟩)) []) <| .P 7 14 (a = 6) (.re 7 (.string (⟨#[115]⟩)) []) <| .P 5 14 (a = 10) (.re 5 (.string (⟨#[115]⟩)) []) <| .P 6 17 (a = 7) (.re 5 (.string (⟨#[109,120]⟩)) []) <| .P 6 19 (a = 8) (.re 5 (.string (⟨#[112,99,105]⟩)) []) <| .P 6 21 (a = 9) (.re 5 (.string (⟨#[112,105]⟩)) []) <| .re 7 (sZ) [])) : Calls TP 96 ⟨[IV a]⟩ W R := VC.cs Tryz.func96 hm _ H
theorem qNum_vc (a : Int) (hm : Mem [] [] w0 W) (H : VP [] w0 R (.cl 7 55 [IV a] [] <| .x2 fun b c => .rt (.tuple #[.string b, IV c]) [] <| .re 11 (.string b) [])) : Calls TP 95 ⟨[IV a]⟩ W R := VC.cs Tryz.func95 hm _ H
theorem qStr_vc (b : BA) (hm : Mem [] [] w0 W) (H : VP [] w0 R (.cl 7 58 [.string b] [] <| .x2 fun a c => .rt (.tuple #[.string a, IV c]) [] <| .re 11 (.string a) [])) : Calls TP 127 ⟨[.string b]⟩ W R := VC.cs Tryz.func127 hm _ H
abbrev zQ2aa (a : Fct) (b x2 x3 : Nat) (x4 x5 c : OA) : Array Value := #[IV a.n, IV a.time, IV a.kind, IV a.story, .string a.lang, IV a.rev, IV a.base, .string a.title, .string a.author, .slice x4 a.topics.length b, .slice x5 a.blocks.length x2, IV a.lab.unt, .slice c a.lab.after.length x3, IV a.lab.appr, IV a.lab.den, IV a.editor, IV a.block, IV a.sentence, .string a.text, .string a.name, IV a.partner, IV a.cls, IV a.unt]
abbrev zQ2ab : Array Value := #[IV 0, IV 0, IV 0, IV 0, sZ, IV 0, IV 0, sZ, sZ, .slice none 0 0, .slice none 0 0, IV 0, .slice none 0 0, IV 0, IV 0, IV 0, IV 0, IV 0, sZ, sZ, IV 0, IV 0, IV 0]
theorem qRight_vc (b : Fct) (i : OA) (h : Nat) (g : OA) (f : Nat) (e : OA) (d : Nat) (c : Int) (hm : Mem [] [] w0 W) (H : VP [] w0 R (.np 2 (.cells (zQ2aa b h f d i g e) 38) fun B => .hp [(B, .cells (zQ2aa b h f d i g e) 38)] fun a => .P 13 6 (c = 115) (.ru [4,200] <| .P 2 11 (1 ≤ b.story) (.ru [1,200] <| .re 4 (.bool (decide (b.story ≤ 64))) a) <| .re 6 (.bool false) a) <| .P 6 16 (c = 108) (.ru [4,200] <| .cl 0 161 [.string b.lang] a <| .ex fun j => .rt (.bool j) a <| .re 2 (.bool j) a) <| .P 6 21 (c = 114) (.ru [4,200] <| .P 2 26 (1 ≤ b.rev) (.ru [1,200] <| .re 4 (.bool (decide (b.rev ≤ 100))) a) <| .re 6 (.bool false) a) <| .P 6 31 (c = 97) (.ru [4,200] <| .P 2 36 (0 ≤ b.base) (.ru [1,200,1,200] <| .re 4 (.bool (decide (b.base < b.rev))) a) <| .re 8 (.bool false) a) <| .P 6 43 (c = 116) (.ru [4,200] <| .cl 0 162 [.string b.title] a <| .ex fun k => .rt (.bool k) a <| .re 2 (.bool k) a) <| .P 6 48 (c = 117) (.ru [4,200] <| .cl 0 161 [.string b.author] a <| .ex fun l => .rt (.bool l) a <| .re 2 (.bool l) a) <| .P 6 53 (c = 111) (.ru [4,200] <| .cl 0 163 [.slice i b.topics.length h] a <| .ex fun m => .rt (.bool m) a <| .re 2 (.bool m) a) <| .P 6 58 (c = 98) (.ru [4,200] <| .cl 0 164 [.slice g b.blocks.length f] a <| .ex fun n => .rt (.bool n) a <| .re 2 (.bool n) a) <| .P 6 63 (c = 76) (.ru [4,200] <| .cl 0 165 [.agg #[IV b.lab.unt, .slice e b.lab.after.length d, IV b.lab.appr, IV b.lab.den]] a <| .ex fun o => .rt (.bool o) a <| .re 2 (.bool o) a) <| .P 6 68 (c = 101) (.ru [4,200] <| .P 2 73 (1 ≤ b.editor) (.ru [1,200] <| .re 4 (.bool (decide (b.editor ≤ 5))) a) <| .re 6 (.bool false) a) <| .P 6 78 (c = 107) (.ru [4,200] <| .P 2 83 (1 ≤ b.block) (.ru [1,200] <| .re 4 (.bool (decide (b.block ≤ 1000))) a) <| .re 6 (.bool false) a) <| .P 6 88 (c = 110) (.ru [4,200] <| .P 2 93 (0 ≤ b.sentence) (.ru [1,200] <| .re 4 (.bool (decide (b.sentence < 300))) a) <| .re 6 (.bool false) a) <| .P 6 98 (c = 120) (.ru [5,200] <| .P 2 102 (b.kind = 7) (.ru [4,200] <| .cl 0 166 [.string b.text] a <| .ex fun p => .rt (.bool p) a <| .re 2 (.bool p) a) <| .ru [5,200] <| .cl 0 162 [.string b.text] a <| .ex fun q => .rt (.bool q) a <| .re 2 (.bool q) a) <| .P 6 109 (c = 109) (.ru [4,200] <| .cl 0 161 [.string b.name] a <| .ex fun s => .rt (.bool s) a <| .re 2 (.bool s) a) <| .P 6 114 (c = 112) (.ru [4,200] <| .P 2 119 (1 ≤ b.partner) (.ru [1,200] <| .re 4 (.bool (decide (b.partner ≤ 8))) a) <| .re 6 (.bool false) a) <| .P 6 124 (c = 99) (.ru [4,200] <| .P 2 129 (0 ≤ b.cls) (.ru [1,200] <| .re 4 (.bool (decide (b.cls < 4))) a) <| .re 6 (.bool false) a) <| .ru [6,200] <| .P 2 137 (0 ≤ b.unt) (.ru [1,200] <| .re 4 (.bool (decide (b.unt ≤ 1000000000))) a) <| .re 6 (.bool false) a)) : Calls TP 125 ⟨[.agg (zQ2aa b h f d i g e), .int .u8 c]⟩ W R := VC.cs Tryz.func125 hm _ H
noncomputable def qWithout_c0 (a b : Nat) (c : Fct) (i : OA) (h : Nat) (g : OA) (f : Nat) (e : OA) (d : Nat) : Cut := ⟨TP, [], 126, 57, (KC Tryz.f126 7), [(2, PP a), (4, PP b)], [(a, .cells (zQ2aa c h f d i g e) 38), (b, .cells zQ2ab 38)]⟩
theorem qWithout_c0_vc (h i : Nat) (a : Fct) (g : OA) (f : Nat) (e : OA) (d : Nat) (c : OA) (b : Nat) (H : VP [] w0 R (.ru [2,200,201] <| .r 1 <| .rc 1 0 (.agg (zQ2aa a f d b g e c)) [(h, .cells (zQ2aa a f d b g e c) 38), (i, .cells (zQ2aa a f d b g e c) 38)])) : qWithout_c0 h i a g f e d c b w0 R := VC.go Tryz.func126 _ H
theorem qWithout_vc (a : Fct) (g : OA) (f : Nat) (e : OA) (d : Nat) (c : OA) (b : Nat) (i : Int) (hm : Mem [] [] w0 W) (H : VP [] w0 R (.np 2 (.cells (zQ2aa a f d b g e c) 38) fun B => .np 0 (.cells zQ2ab 38) fun h => .P 12 7 (i = 115) (.ru [3,200] <| .ct 2 [0,1] (qWithout_c0 B h ({ a with story := 0 } : Fct) g f e d c b)) <| .P 6 10 (i = 108) (.ru [3,200] <| .ct 2 [0,1] (qWithout_c0 B h ({ a with lang := ⟨#[]⟩ } : Fct) g f e d c b)) <| .P 6 13 (i = 114) (.ru [3,200] <| .ct 2 [0,1] (qWithout_c0 B h ({ a with rev := 0 } : Fct) g f e d c b)) <| .P 6 16 (i = 97) (.ru [3,200] <| .ct 2 [0,1] (qWithout_c0 B h ({ a with base := 0 } : Fct) g f e d c b)) <| .P 6 19 (i = 116) (.ru [3,200] <| .ct 2 [0,1] (qWithout_c0 B h ({ a with title := ⟨#[]⟩ } : Fct) g f e d c b)) <| .P 6 22 (i = 117) (.ru [3,200] <| .ct 2 [0,1] (qWithout_c0 B h ({ a with author := ⟨#[]⟩ } : Fct) g f e d c b)) <| .P 6 25 (i = 111) (.ru [3,200] <| .ct 2 [0,1] (qWithout_c0 B h ({ a with topics := [] } : Fct) none 0 e d c b)) <| .P 6 28 (i = 98) (.ru [3,200] <| .ct 2 [0,1] (qWithout_c0 B h ({ a with blocks := [] } : Fct) g f none 0 c b)) <| .P 6 31 (i = 76) (.ru [4,200] <| .ct 2 [0,1] (qWithout_c0 B h ({ a with lab.unt := 0, lab.after := [], lab.appr := 0, lab.den := 0 } : Fct) g f e d none 0)) <| .P 6 35 (i = 101) (.ru [3,200] <| .ct 2 [0,1] (qWithout_c0 B h ({ a with editor := 0 } : Fct) g f e d c b)) <| .P 6 38 (i = 107) (.ru [3,200] <| .ct 2 [0,1] (qWithout_c0 B h ({ a with block := 0 } : Fct) g f e d c b)) <| .P 6 41 (i = 110) (.ru [3,200] <| .ct 2 [0,1] (qWithout_c0 B h ({ a with sentence := 0 } : Fct) g f e d c b)) <| .P 6 44 (i = 120) (.ru [3,200] <| .ct 2 [0,1] (qWithout_c0 B h ({ a with text := ⟨#[]⟩ } : Fct) g f e d c b)) <| .P 6 47 (i = 109) (.ru [3,200] <| .ct 2 [0,1] (qWithout_c0 B h ({ a with name := ⟨#[]⟩ } : Fct) g f e d c b)) <| .P 6 50 (i = 112) (.ru [3,200] <| .ct 2 [0,1] (qWithout_c0 B h ({ a with partner := 0 } : Fct) g f e d c b)) <| .P 6 53 (i = 99) (.ru [3,200] <| .ct 2 [0,1] (qWithout_c0 B h ({ a with cls := 0 } : Fct) g f e d c b)) <| .ru [3,200] <| .ct 2 [0,1] (qWithout_c0 B h ({ a with unt := 0 } : Fct) g f e d c b))) : Calls TP 126 ⟨[.agg (zQ2aa a f d b g e c), .int .u8 i]⟩ W R := VC.cs Tryz.func126 hm _ H
theorem sz_ne {s : BA} (h : ¬ s = ⟨#[]⟩) : s.size ≠ 0 := fun e => h (ByteArray.ext (Array.eq_empty_of_size_eq_zero e))
theorem qText_c (s : BA) (M : s.size ≤ 9223372036854775807) : PureC TP 162 ⟨[.string s]⟩ (.bool (fillOk s)) := fun W => by
 refine qText_vc s (Mem.start [] W) ⟨fun h => CallH.pure (rIsText_c s M) ⟨_, rfl, rfl, finPure ?_⟩, fun h => finPure ?_⟩
 ·rw [fillOk, decide_eq_true (p := s.size ≠ 0) (sz_ne h), Bool.true_and]
 ·subst h; rfl
theorem qSource_loop {s : BA} (V : s.size ≤ 9223372036854775807) : ∀ (g i : Nat), g + i = s.size → Fin R [] [] w0 (.bool (decide (s.size ≤ 1000) && scan s srcB i)) → qSource_c0 s (i : Int) w0 R
 | 0, i, hg, H => by
  apply qSource_c0_vc
  refine no (by omega) (finEq H ?_)
  rw [scan_end (by omega), Bool.and_true]
  congr 1; exact decide_eq_decide.2 (by omega)
 | g + 1, i, hg, H => by
  apply qSource_c0_vc
  have hi : i < s.size := by omega
  have next : srcB (bat s i) = true → ∀ x : Int, x = IntKind.i64.wrap ((i : Int) + 1) → qSource_c0 s x w0 R := by
   rintro hn _ rfl
   rw [wi64 (by omega), show (i : Int) + 1 = ((i + 1 : Nat) : Int) by omega]
   rw [scan_yes hi hn] at H
   exact qSource_loop V g (i + 1) (by omega) H
  have stop : srcB (bat s i) = false → Fin R [] [] w0 (.bool false) := fun hn => finEq H (by rw [scan_no hi hn, Bool.and_false])
  refine yes (by omega) ⟨by omega, fun h => ⟨by omega, fun M => stop (srcB_no (by omega)), fun M => ⟨by omega, fun O => stop (srcB_no (by omega)), fun O => next (srcB_yes (by omega))⟩⟩, fun h => next (srcB_yes (by omega))⟩
theorem qSource_c (s : BA) (M : s.size ≤ 9223372036854775807) : PureC TP 166 ⟨[.string s]⟩ (.bool (srcOk s)) := fun W =>
 qSource_vc s (Mem.start [] W) (qSource_loop M s.size 0 (by omega) (finPure rfl))
theorem bl_tri : ∀ (a b : List UInt8), (!Op.bytesLess a b) = (Op.bytesLess b a || (b == a))
 | [], [] => rfl
 | [], _ :: _ => rfl
 | _ :: _, [] => rfl
 | x :: a, y :: b => by
  have ih := bl_tri a b
  simp only [Op.bytesLess]
  by_cases h1 : x < y
  ·have M : ¬ y < x := fun h => absurd (UInt8.lt_iff_toNat_lt.1 h) (by have := UInt8.lt_iff_toNat_lt.1 h1; omega)
   have O : ¬ y = x := fun h => M (h ▸ (h ▸ h1))
   simp [h1, M, O]
  ·by_cases M : y < x
   ·have O : ¬ x = y := fun h => h1 (h ▸ (h ▸ M))
    simp [h1, M, O]
   ·have e1 : ¬ x.toNat < y.toNat := fun h => h1 (UInt8.lt_iff_toNat_lt.2 h)
    have V : ¬ y.toNat < x.toNat := fun h => M (UInt8.lt_iff_toNat_lt.2 h)
    have O : x = y := UInt8.toNat_inj.1 (by omega)
    subst O
    simp only [h1, decide_false, Bool.false_or, BEq.rfl, Bool.true_and, ih, List.cons_beq_cons]
theorem tLe_le (a b : BA) : tLe a b = !Op.bytesLess b.toList a.toList := (bl_tri b.toList a.toList).symm
theorem qTopics_loop {w0 : World} {p : OA} {c : Nat} {R : Ending → World → Prop} {l : List BA} (hp : StrsL (lkW w0) p l) (a2 : ∀ t ∈ l, t.size ≤ 9223372036854775807) (hm : l.length ≤ 9223372036854775807) :
  ∀ (g i : Nat), g + i = l.length → Fin R [] [] w0 (.bool (decide (l.length ≤ 4) && topicsGo (prevT l i) (l.drop i))) → qTopics_c0 p l.length c (i : Int) w0 R
 | 0, i, hg, H => by
  apply qTopics_c0_vc
  refine no (by omega) (finEq H ?_)
  rw [List.drop_of_length_le (by omega)]
  have e : topicsGo (prevT l i) [] = true := by cases i <;> rfl
  rw [e, Bool.and_true]
  congr 1; exact decide_eq_decide.2 (by omega)
 | g + 1, i, hg, H => by
  apply qTopics_c0_vc
  have hi : i < l.length := by omega
  obtain ⟨b, o, cc, e1, V, Z⟩ := hp.get hi
  rw [List.drop_eq_getElem_cons hi, topicsGo] at H
  have next : nameOk l[i] = true → tAfter (prevT l i) l[i] = true → qTopics_c0 p l.length c (IntKind.i64.wrap ((i : Int) + 1)) w0 R := fun M a7 => by
   rw [M, a7, Bool.true_and, Bool.true_and] at H
   rw [wi64 (by omega), show (i : Int) + 1 = ((i + 1 : Nat) : Int) by omega]
   refine qTopics_loop hp a2 hm g (i + 1) (by omega) (finEq H ?_)
   rw [prevT, List.getElem?_eq_getElem hi]
  refine yes (by omega) ⟨b, o, e1, by omega, cc, l[i], V, by simpa using Z, CallH.pure (rIsName_c _ (a2 _ (List.getElem_mem hi))) ⟨_, rfl, rfl, fun M => ⟨fun a6 => ?_, fun a6 => ?_⟩, fun M => finEq H (by rw [M]; simp)⟩⟩
  ·obtain ⟨k, rfl⟩ : ∃ k, i = k + 1 := ⟨i - 1, by omega⟩
   have a0 : k < l.length := by omega
   obtain ⟨b2, a9, a3, f1, a4, a5⟩ := hp.get a0
   have a8 : IntKind.i64.wrap (((k + 1 : Nat) : Int) - 1) = (k : Int) := by rw [wi64 (by omega)]; omega
   have a1 : prevT l (k + 1) = some l[k] := by rw [prevT, List.getElem?_eq_getElem a0]
   try dsimp only
   rw [a8]
   refine ⟨b2, a9, f1, by omega, a3, l[k], a4, by simpa using a5, b, o, e1, by omega, cc, l[k + 1], V, by simpa using Z, fun O => finEq H ?_, fun O => ?_⟩
   ·rw [M, a1, tAfter, tLe_le, O]; simp
   ·rintro _ rfl; exact next M (by rw [a1, tAfter, tLe_le, O]; rfl)
  ·have : i = 0 := by omega
   subst this
   rintro _ rfl; exact next M rfl
theorem qTopics_c {p : OA} {c : Nat} {l : List BA} (hp : StrsL (lkW W) p l) (M : ∀ t ∈ l, t.size ≤ 9223372036854775807) (hm : l.length ≤ 9223372036854775807) :
  PW TP 163 ⟨[.slice p l.length c]⟩ W (.bool (topicsOk l)) :=
 qTopics_vc p l.length c (Mem.start [] W) (qTopics_loop hp M hm l.length 0 (by omega) (finPW rfl))
theorem qNum_c {n : Int} (h : okInt n) : PureC TP 95 ⟨[.int .i64 n]⟩ (.string (ba (Wire.enc n))) := fun W =>
 qNum_vc n (Mem.start [] W) (CallH.pure (rPutInt_c n) ⟨_, _, putAns_ok h, rfl, finPure rfl⟩)
theorem qStr_c {s : BA} (h : s.size ≤ 65536) : PureC TP 127 ⟨[.string s]⟩ (.string (encSB s)) := fun W =>
 qStr_vc s (Mem.start [] W) (CallH.pure (rPutString_c s) ⟨_, _, if_pos h, rfl, finPure rfl⟩)
def zeroV : (t : FTy) → t.T
 | .int => (0 : Int) | .str => e0 | .topics => ([] : List BA) | .blocks => ([] : List Blk) | .label => Lab.zero
def Fct.wo (f : Fct) (x : Fld) : Fct := f.set x (zeroV x.ty)
def fldOf (c : Int) : Fld :=
 if c = 115 then .story else if c = 108 then .lang else if c = 114 then .rev else if c = 97 then .base else if c = 116 then .title else if c = 117 then .author else if c = 111 then .topics else if c = 98 then .blocks else if c = 76 then .label
 else if c = 101 then .editor else if c = 107 then .block else if c = 110 then .sentence else if c = 120 then .text else if c = 109 then .name else if c = 112 then .partner else if c = 99 then .cls else .unt
def rightB (f : Fct) : Fld → Bool
 | .story => f.stOk
 | .lang => nameOk f.lang
 | .rev => decide (1 ≤ f.rev ∧ f.rev ≤ 100)
 | .base => decide (0 ≤ f.base ∧ f.base ≤ f.rev - 1)
 | .title => fillOk f.title
 | .author => nameOk f.author
 | .topics => topicsOk f.topics
 | .blocks => listOk f.blocks
 | .label => f.lab.ok
 | .editor => decide (1 ≤ f.editor ∧ f.editor ≤ 5)
 | .block => decide (1 ≤ f.block ∧ f.block ≤ 1000)
 | .sentence => decide (0 ≤ f.sentence ∧ f.sentence ≤ 299)
 | .text => if f.kind = 7 then srcOk f.text else fillOk f.text
 | .name => nameOk f.name
 | .partner => decide (1 ≤ f.partner ∧ f.partner ≤ 8)
 | .cls => decide (0 ≤ f.cls ∧ f.cls ≤ 3)
 | _ => decide (0 ≤ f.unt ∧ f.unt ≤ 1000000000)
theorem vals_right (f : Fct) : f.vals = (decide (kfields f.kind ≠ []) && (kfields f.kind).all (rightB f)) := by
 by_cases hk : f.kind = 1 ∨ f.kind = 2 ∨ f.kind = 3 ∨ f.kind = 4 ∨ f.kind = 5 ∨ f.kind = 6 ∨ f.kind = 7 ∨ f.kind = 8 ∨ f.kind = 9 ∨ f.kind = 10
 ·unfold Fct.vals kfields
  rcases hk with hk | hk | hk | hk | hk | hk | hk | hk | hk | hk <;> simp only [hk, reduceIte, Int.reduceEq, List.all_cons, List.all_nil, rightB, Fct.rvOk, Fct.coOk, Fct.paOk, Bool.and_true, ne_eq, reduceCtorEq, not_false_eq_true, decide_true, Bool.true_and]
  all_goals
   rw [Bool.eq_iff_iff]
   simp only [Bool.and_eq_true, decide_eq_true_eq]
   omega
 ·have e : kfields f.kind = [] := by unfold kfields; simp only [not_or] at hk; obtain ⟨M, V, Z, a0, a1, a2, a3, a4, a5, O⟩ := hk; simp only [M, V, Z, a0, a1, a2, a3, a4, a5, O, if_false]
  rw [e]
  unfold Fct.vals; simp only [not_or] at hk; obtain ⟨M, V, Z, a0, a1, a2, a3, a4, a5, O⟩ := hk; simp only [M, V, Z, a0, a1, a2, a3, a4, a5, O, if_false]
  rfl
theorem wo_get {y : Fld} : ∀ (l : List Fld) (g : Fct), (l.foldl Fct.wo g).get y = if y ∈ l then zeroV y.ty else g.get y
 | [], g => rfl
 | x :: l, g => by
  rw [List.foldl_cons, wo_get l]
  by_cases h : y ∈ l
  ·rw [if_pos h, if_pos (List.mem_cons_of_mem _ h)]
  ·rw [if_neg h]
   by_cases e : x = y
   ·subst e; rw [if_pos List.mem_cons_self, Fct.wo, Fct.get_set]
   ·rw [if_neg (by simp only [List.mem_cons, not_or]; exact ⟨fun q => e q.symm, h⟩), Fct.wo, Fct.get_set_ne _ e]
theorem used_get {f : Fct} {y : Fld} : ∀ (l : List Fld) (g : Fct), (l.foldl (fun g x => g.set x (f.get x)) g).get y = if y ∈ l then f.get y else g.get y
 | [], g => rfl
 | x :: l, g => by
  rw [List.foldl_cons, used_get l]
  by_cases h : y ∈ l
  ·rw [if_pos h, if_pos (List.mem_cons_of_mem _ h)]
  ·rw [if_neg h]
   by_cases e : x = y
   ·subst e; rw [if_pos List.mem_cons_self, Fct.get_set]
   ·rw [if_neg (by simp only [List.mem_cons, not_or]; exact ⟨fun q => e q.symm, h⟩), Fct.get_set_ne _ e]
theorem used_wo (f : Fct) : f = f.used ↔ (kfields f.kind).foldl Fct.wo f = Fct.bare f.n f.time f.kind := by
 obtain ⟨_, k1, V, Z⟩ := kfields_facts f.kind
 have O : ∀ y ∈ kfields f.kind, (Fct.bare f.n f.time f.kind).get y = zeroV y.ty := fun y M => by
  cases y <;> first | rfl | contradiction
 constructor
 ·intro h
  apply Fct.ext_get; intro y
  rw [wo_get]
  by_cases M : y ∈ kfields f.kind
  ·rw [if_pos M, O y M]
  ·rw [if_neg M]
   have := congrArg (fun g : Fct => g.get y) h
   exact this.trans ((used_get _ _).trans (if_neg M))
 ·intro h
  apply Fct.ext_get; intro y
  rw [Fct.used, used_get]
  by_cases M : y ∈ kfields f.kind
  ·rw [if_pos M]
  ·rw [if_neg M, ← h, wo_get, if_neg M]
theorem ok_right (f : Fct) : f.ok = (decide (0 ≤ f.n ∧ f.n ≤ 500 ∧ 0 ≤ f.time ∧ f.time ≤ 1000000000) && (decide (kfields f.kind ≠ []) && ((kfields f.kind).all (rightB f) && decide ((kfields f.kind).foldl Fct.wo f = Fct.bare f.n f.time f.kind)))) := by
 rw [Fct.ok, vals_right, Bool.and_assoc, decide_eq_decide.2 (used_wo f)]
def kstr (k : Int) : BA :=
 if k = 1 then ⟨#[115, 108, 114, 97, 116, 117, 111, 98, 76]⟩ else if k = 2 then ⟨#[115, 101]⟩ else if k = 3 then ⟨#[115, 76]⟩ else if k = 4 then ⟨#[115, 108, 107, 110, 120]⟩ else if k = 5 then ⟨#[115, 120]⟩
 else if k = 6 then ⟨#[115]⟩ else if k = 10 then ⟨#[115]⟩ else if k = 7 then ⟨#[109, 120]⟩ else if k = 8 then ⟨#[112, 99, 105]⟩ else if k = 9 then ⟨#[112, 105]⟩ else ⟨#[]⟩
theorem kstr_map (k : Int) : (bts (kstr k)).map (fun b => fldOf (b.toNat : Int)) = kfields k := by
 unfold kstr kfields
 by_cases h1 : k = 1; · simp only [h1, if_true]; rfl
 by_cases h2 : k = 2; · simp only [h2, Int.reduceEq, if_false, if_true]; rfl
 by_cases h3 : k = 3; · simp only [h3, Int.reduceEq, if_false, if_true]; rfl
 by_cases h4 : k = 4; · simp only [h4, Int.reduceEq, if_false, if_true]; rfl
 by_cases h5 : k = 5; · simp only [h5, Int.reduceEq, if_false, if_true]; rfl
 by_cases h6 : k = 6; · simp only [h6, Int.reduceEq, if_false, if_true]; rfl
 by_cases h7 : k = 7; · simp only [h7, Int.reduceEq, if_false, if_true]; rfl
 by_cases h8 : k = 8; · simp only [h8, Int.reduceEq, if_false, if_true]; rfl
 by_cases h9 : k = 9; · simp only [h9, Int.reduceEq, if_false, if_true]; rfl
 by_cases h10 : k = 10; · simp only [h10, Int.reduceEq, if_false, if_true]; rfl
 simp only [h1, h2, h3, h4, h5, h6, h7, h8, h9, h10, if_false]; rfl
theorem kstr_len (k : Int) : (kstr k).size = (kfields k).length := by rw [← kstr_map, List.length_map, bts_len]
theorem kstr_at {k : Int} {i : Nat} (h : i < (kfields k).length) : fldOf (bat (kstr k) i) = (kfields k)[i] := by
 have M : i < (bts (kstr k)).length := by rw [bts_len, kstr_len]; exact h
 have e : (kfields k)[i]? = some (fldOf ((bts (kstr k))[i].toNat : Int)) := by rw [← kstr_map, List.getElem?_map, List.getElem?_eq_getElem M]; rfl
 rw [List.getElem?_eq_getElem h] at e
 rw [Option.some.inj e, bat]
 show fldOf ((((bts (kstr k))[(i : Int).toNat]?).getD 0).toNat : Int) = _
 rw [Int.toNat_natCast, List.getElem?_eq_getElem M]; rfl
theorem qFields_c (k : Int) : PureC TP 96 ⟨[.int .i64 k]⟩ (.string (kstr k)) := fun W => by
 refine qFields_vc k (Mem.start [] W) ⟨fun h => finPure (by simp only [kstr, *, Int.reduceEq, if_false, if_true]), fun k1 => ⟨fun h => finPure (by simp only [kstr, *, Int.reduceEq, if_false, if_true]), fun O => ⟨fun h => finPure (by simp only [kstr, *, Int.reduceEq, if_false, if_true]), fun V => ⟨fun h => finPure (by simp only [kstr, *, Int.reduceEq, if_false, if_true]), fun Z => ⟨fun h => finPure (by simp only [kstr, *, Int.reduceEq, if_false, if_true]), fun a0 => ⟨fun h => finPure (by simp only [kstr, *, Int.reduceEq, if_false, if_true]), fun a1 => ⟨fun h => finPure (by simp only [kstr, *, Int.reduceEq, if_false, if_true]), fun a2 => ⟨fun h => finPure (by simp only [kstr, *, Int.reduceEq, if_false, if_true]), fun a3 => ⟨fun h => finPure (by simp only [kstr, *, Int.reduceEq, if_false, if_true]), fun a4 => ⟨fun h => finPure (by simp only [kstr, *, Int.reduceEq, if_false, if_true]), fun M => finPure (by simp only [kstr, *, if_false])⟩⟩⟩⟩⟩⟩⟩⟩⟩⟩
section qflds
variable {W : World} {f : Fct} {tp bp ap : Option Addr} {tc bc ac : Nat} {c : Int}
theorem qRight_c (h : FAt (lkW W) f tp tc bp bc ap ac) : PW TP 125 ⟨[.agg ⟨f.cells tp tc bp bc ap ac⟩, .int .u8 c]⟩ W (.bool (rightB f (fldOf c))) := by
 obtain ⟨⟨a0, a1, a2, V, a3⟩, ⟨t1, a4⟩, a5, Z⟩ := h.fits
 refine qRight_vc f tp tc bp bc ap ac c (Mem.start [] W) fun B => ?_
 have D : ∀ {p q : Prop} [Decidable p] [Decidable q] {b : Bool}, b = decide q → (p ↔ q) → Value.bool (decide p) = .bool b := fun e i => by rw [e, decide_eq_decide.2 i]
 have N : ∀ {q : Prop} [Decidable q] {b : Bool}, b = decide q → ¬ q → Value.bool false = .bool b := fun e i => by rw [e, decide_eq_false i]
 refine ⟨fun k => ?_, fun k1 => ⟨fun k => ?_, fun b4 => ⟨fun k => ?_, fun b5 => ⟨fun k => ?_, fun b6 => ⟨fun k => ?_, fun b7 => ⟨fun k => ?_, fun b8 => ⟨fun k => ?_, fun b9 => ⟨fun k => ?_, fun c2 => ⟨fun k => ?_, fun c3 => ⟨fun k => ?_, fun a6 => ⟨fun k => ?_, fun a7 => ⟨fun k => ?_, fun a8 => ⟨fun k => ?_, fun a9 => ⟨fun k => ?_, fun b0 => ⟨fun k => ?_, fun b1 => ⟨fun k => ?_, fun b3 => ?_⟩⟩⟩⟩⟩⟩⟩⟩⟩⟩⟩⟩⟩⟩⟩⟩
 ·subst k; exact ⟨fun g => finPW (D (q := 1 ≤ f.story ∧ f.story ≤ 64) rfl (by omega)), fun g => finPW (N (q := 1 ≤ f.story ∧ f.story ≤ 64) rfl (by omega))⟩
 ·subst k; exact CallH.pure (rIsName_c _ a0) ⟨_, rfl, rfl, finPW rfl⟩
 ·subst k; exact ⟨fun g => finPW (D (q := 1 ≤ f.rev ∧ f.rev ≤ 100) rfl (by omega)), fun g => finPW (N (q := 1 ≤ f.rev ∧ f.rev ≤ 100) rfl (by omega))⟩
 ·subst k; exact ⟨fun g => finPW (D (q := 0 ≤ f.base ∧ f.base ≤ f.rev - 1) rfl (by omega)), fun g => finPW (N (q := 0 ≤ f.base ∧ f.base ≤ f.rev - 1) rfl (by omega))⟩
 ·subst k; exact CallH.pure (qText_c _ a1) ⟨_, rfl, rfl, finPW rfl⟩
 ·subst k; exact CallH.pure (rIsName_c _ a2) ⟨_, rfl, rfl, finPW rfl⟩
 ·subst k; exact CallH.pw (fun O M => qTopics_c (h.tops.mono (lkW_kept M)) a4 t1) ⟨_, rfl, rfl, finPW rfl⟩
 ·subst k; exact CallH.pw (fun O M => rvalidL_c (h.blks.mono (lkW_kept M))) ⟨_, rfl, rfl, finPW rfl⟩
 ·subst k; exact CallH.pw (fun O M => rlabValid_c (h.ints.mono (lkW_kept M)) Z) ⟨_, rfl, rfl, finPW rfl⟩
 ·subst k; exact ⟨fun g => finPW (D (q := 1 ≤ f.editor ∧ f.editor ≤ 5) rfl (by omega)), fun g => finPW (N (q := 1 ≤ f.editor ∧ f.editor ≤ 5) rfl (by omega))⟩
 ·subst k; exact ⟨fun g => finPW (D (q := 1 ≤ f.block ∧ f.block ≤ 1000) rfl (by omega)), fun g => finPW (N (q := 1 ≤ f.block ∧ f.block ≤ 1000) rfl (by omega))⟩
 ·subst k; exact ⟨fun g => finPW (D (q := 0 ≤ f.sentence ∧ f.sentence ≤ 299) rfl (by omega)), fun g => finPW (N (q := 0 ≤ f.sentence ∧ f.sentence ≤ 299) rfl (by omega))⟩
 ·subst k
  exact ⟨fun g => CallH.pure (qSource_c _ V) ⟨_, rfl, rfl, finPW (congrArg Value.bool (if_pos g).symm)⟩, fun g => CallH.pure (qText_c _ V) ⟨_, rfl, rfl, finPW (congrArg Value.bool (if_neg g).symm)⟩⟩
 ·subst k; exact CallH.pure (rIsName_c _ a3) ⟨_, rfl, rfl, finPW rfl⟩
 ·subst k; exact ⟨fun g => finPW (D (q := 1 ≤ f.partner ∧ f.partner ≤ 8) rfl (by omega)), fun g => finPW (N (q := 1 ≤ f.partner ∧ f.partner ≤ 8) rfl (by omega))⟩
 ·subst k; exact ⟨fun g => finPW (D (q := 0 ≤ f.cls ∧ f.cls ≤ 3) rfl (by omega)), fun g => finPW (N (q := 0 ≤ f.cls ∧ f.cls ≤ 3) rfl (by omega))⟩
 ·have e : fldOf c = .unt := by simp only [fldOf, *, if_false]
  rw [e]
  exact ⟨fun g => finPW (D (q := 0 ≤ f.unt ∧ f.unt ≤ 1000000000) rfl (by omega)), fun g => finPW (N (q := 0 ≤ f.unt ∧ f.unt ≤ 1000000000) rfl (by omega))⟩
end qflds
def Fld.wotp : Fld → OA → OA | .topics, _ => none | _, p => p
def Fld.wotc : Fld → Nat → Nat | .topics, _ => 0 | _, c => c
def Fld.wobp : Fld → OA → OA | .blocks, _ => none | _, p => p
def Fld.wobc : Fld → Nat → Nat | .blocks, _ => 0 | _, c => c
def Fld.woap : Fld → OA → OA | .label, _ => none | _, p => p
def Fld.woac : Fld → Nat → Nat | .label, _ => 0 | _, c => c
theorem FAt.wo {lk : Lk} {f : Fct} {tp bp ap : OA} {tc bc ac : Nat} (h : FAt lk f tp tc bp bc ap ac) (x : Fld) : FAt lk (f.wo x) (x.wotp tp) (x.wotc tc) (x.wobp bp) (x.wobc bc) (x.woap ap) (x.woac ac) := by
 obtain ⟨⟨V, Z, a0, a1, a2⟩, ⟨t1, a3⟩, O, M⟩ := h.fits
 have z := e0_sz
 have a4 : (0 : Nat) ≤ 9223372036854775807 := by omega
 cases x
 case topics => exact ⟨strs_nil, h.blks, h.ints, Nat.le_refl _, h.cb, h.ca, ⟨V, Z, a0, a1, a2⟩, ⟨a4, fun t a5 => by cases a5⟩, O, M⟩
 case blocks => exact ⟨h.tops, blks_nil, h.ints, h.ct, Nat.le_refl _, h.ca, ⟨V, Z, a0, a1, a2⟩, ⟨t1, a3⟩, a4, M⟩
 case label => exact ⟨h.tops, h.blks, ints_nil, h.ct, h.cb, Nat.le_refl _, ⟨V, Z, a0, a1, a2⟩, ⟨t1, a3⟩, O, a4⟩
 case lang => exact ⟨h.tops, h.blks, h.ints, h.ct, h.cb, h.ca, ⟨z, Z, a0, a1, a2⟩, ⟨t1, a3⟩, O, M⟩
 case title => exact ⟨h.tops, h.blks, h.ints, h.ct, h.cb, h.ca, ⟨V, z, a0, a1, a2⟩, ⟨t1, a3⟩, O, M⟩
 case author => exact ⟨h.tops, h.blks, h.ints, h.ct, h.cb, h.ca, ⟨V, Z, z, a1, a2⟩, ⟨t1, a3⟩, O, M⟩
 case text => exact ⟨h.tops, h.blks, h.ints, h.ct, h.cb, h.ca, ⟨V, Z, a0, z, a2⟩, ⟨t1, a3⟩, O, M⟩
 case name => exact ⟨h.tops, h.blks, h.ints, h.ct, h.cb, h.ca, ⟨V, Z, a0, a1, z⟩, ⟨t1, a3⟩, O, M⟩
 all_goals exact ⟨h.tops, h.blks, h.ints, h.ct, h.cb, h.ca, h.fits⟩
theorem qWithout_c {f : Fct} {tp bp ap : OA} {tc bc ac : Nat} {c : Int} : PureC TP 126 ⟨[.agg ⟨f.cells tp tc bp bc ap ac⟩, .int .u8 c]⟩ (.agg ⟨(f.wo (fldOf c)).cells ((fldOf c).wotp tp) ((fldOf c).wotc tc) ((fldOf c).wobp bp) ((fldOf c).wobc bc) ((fldOf c).woap ap) ((fldOf c).woac ac)⟩) := fun W => by
 refine qWithout_vc f tp tc bp bc ap ac c (Mem.start [] W) fun B M => ?_
 have G : ∀ x : Fld, fldOf c = x → qWithout_c0 B M (f.wo x) (x.wotp tp) (x.wotc tc) (x.wobp bp) (x.wobc bc) (x.woap ap) (x.woac ac) W (fun e O => e = .returned (.agg ⟨(f.wo (fldOf c)).cells ((fldOf c).wotp tp) ((fldOf c).wotc tc) ((fldOf c).wobp bp) ((fldOf c).wobc bc) ((fldOf c).woap ap) ((fldOf c).woac ac)⟩) ∧ Below W.heap.size W O) := by
  rintro x rfl
  apply qWithout_c0_vc
  exact finPure rfl
 refine ⟨fun k => G .story (by rw [k]; rfl), fun k1 => ⟨fun k => G .lang (by rw [k]; rfl), fun a5 => ⟨fun k => G .rev (by rw [k]; rfl), fun a6 => ⟨fun k => G .base (by rw [k]; rfl), fun a7 => ⟨fun k => G .title (by rw [k]; rfl), fun a8 => ⟨fun k => G .author (by rw [k]; rfl), fun a9 => ⟨fun k => G .topics (by rw [k]; rfl), fun b0 => ⟨fun k => G .blocks (by rw [k]; rfl), fun b1 => ⟨fun k => G .label (by rw [k]; rfl), fun b3 => ⟨fun k => G .editor (by rw [k]; rfl), fun V => ⟨fun k => G .block (by rw [k]; rfl), fun Z => ⟨fun k => G .sentence (by rw [k]; rfl), fun a0 => ⟨fun k => G .text (by rw [k]; rfl), fun a1 => ⟨fun k => G .name (by rw [k]; rfl), fun a2 => ⟨fun k => G .partner (by rw [k]; rfl), fun a3 => ⟨fun k => G .cls (by rw [k]; rfl), fun a4 => G .unt (by simp only [fldOf, *, if_false])⟩⟩⟩⟩⟩⟩⟩⟩⟩⟩⟩⟩⟩⟩⟩⟩
abbrev zQ3aa (a : Fct) (b x2 x3 : Nat) (x4 x5 c : OA) : Array Value := #[IV a.n, IV a.time, IV a.kind, IV a.story, .string a.lang, IV a.rev, IV a.base, .string a.title, .string a.author, .slice x4 a.topics.length b, .slice x5 a.blocks.length x2, IV a.lab.unt, .slice c a.lab.after.length x3, IV a.lab.appr, IV a.lab.den, IV a.editor, IV a.block, IV a.sentence, .string a.text, .string a.name, IV a.partner, IV a.cls, IV a.unt]
noncomputable def qSame_c0 (d : Fct) (j : OA) (i : Nat) (h : OA) (g : Nat) (f : OA) (e : Nat) (k : Fct) (q : OA) (p : Nat) (o : OA) (n : Nat) (m : OA) (l a b : Nat) (c : Int) : Cut := ⟨TP, [], 80, 170, (KC Tryz.f80 116), [(2, PP a), (3, PP b), (5, IV c)], [(a, .cells (zQ3aa d i g e j h f) 38), (b, .cells (zQ3aa k p n l q o m) 38)]⟩
noncomputable def qSame_c1 (f : Fct) (l : OA) (k : Nat) (j : OA) (i : Nat) (h : OA) (g : Nat) (m : Fct) (t : OA) (s : Nat) (q : OA) (p : Nat) (o : OA) (n a b : Nat) (c e d : Bool) : Cut := ⟨TP, [], 80, 170, (KC Tryz.f80 127), [(2, PP a), (3, PP b), (6, .bool c), (7, .bool e), (8, .bool d)], [(a, .cells (zQ3aa f k i g l j h) 38), (b, .cells (zQ3aa m s p n t q o) 38)]⟩
noncomputable def qSame_c2 (e : Fct) (k : OA) (j : Nat) (i : OA) (h : Nat) (g : OA) (f : Nat) (l : Fct) (s : OA) (q : Nat) (p : OA) (o : Nat) (n : OA) (m : Nat) (a c b d : Bool) : Cut := ⟨TP, [], 80, 170, (KC Tryz.f80 255), [(6, .bool a), (7, .bool c), (8, .bool b), (9, .bool d)], []⟩
theorem qSame_c0_vc (a : Fct) (h : OA) (g : Nat) (f : OA) (e : Nat) (d : OA) (c : Nat) (b : Fct) (o : OA) (m : Nat) (l : OA) (k : Nat) (j : OA) (i p q : Nat) (u : Int) (H : VP [] w0 R (.hp [(p, .cells (zQ3aa a g e c h f d) 38), (q, .cells (zQ3aa b m k i o l j) 38)] fun w => .ru [5,200] <| .P 3 21 (u < (a.topics.length : Int)) (.r 5 <| .dr 11 <| .qu [1,100,1] <| .x2 fun C x => .iP h C x a.topics.length g 1 u (x + (Int.toNat u)) <| .x2 fun E z => .lW C (x + (Int.toNat u)) 9 E (.string z) <| .qu [1,101,1] <| .x2 fun D y => .iP o D y b.topics.length m 1 u (y + (Int.toNat u)) <| .x2 fun F A => .lW D (y + (Int.toNat u)) 9 F (.string A) <| .qu [1] <| .dn <| .sN 1 34 z A (.re 5 (.bool false) w) <| .li 7 5 (IntKind.i64.wrap (u + 1)) fun G => .ct 2 [0,1] (qSame_c0 a h g f e d c b o m l k j i p q G)) <| .ru [5,200,1,201] <| .cl 0 118 [.slice f a.blocks.length e, .slice l b.blocks.length k] w <| .ex fun s => .rt (.bool s) w <| .ru [5,200,1,201] <| .cl 0 119 [.agg #[IV a.lab.unt, .slice d a.lab.after.length c, IV a.lab.appr, IV a.lab.den], .agg #[IV b.lab.unt, .slice j b.lab.after.length i, IV b.lab.appr, IV b.lab.den]] w <| .ex fun t => .rt (.bool t) w <| .ru [5,200,1,201] <| .P 2 50 (a.n = b.n) (.ru [1,200,1,201] <| .P 3 57 (a.time = b.time) (.ru [1,200,1,201] <| .P 3 64 (a.kind = b.kind) (.ru [1,200,1,201] <| .P 3 71 (a.story = b.story) (.ru [1,200,1,201] <| .sE 3 78 a.lang b.lang (.ru [1,200,1,201] <| .P 3 85 (a.rev = b.rev) (.ru [1,200,1,201] <| .P 3 92 (a.base = b.base) (.ru [1,200,1,201] <| .sE 3 99 a.title b.title (.ru [1,200,1,201] <| .ct 4 [0,1] (qSame_c1 a h g f e d c b o m l k j i p q s t (a.author.toList == b.author.toList))) <| .ct 8 [0,1] (qSame_c1 a h g f e d c b o m l k j i p q s t false)) <| .ct 15 [0,1] (qSame_c1 a h g f e d c b o m l k j i p q s t false)) <| .ct 22 [0,1] (qSame_c1 a h g f e d c b o m l k j i p q s t false)) <| .ct 29 [0,1] (qSame_c1 a h g f e d c b o m l k j i p q s t false)) <| .ct 36 [0,1] (qSame_c1 a h g f e d c b o m l k j i p q s t false)) <| .ct 43 [0,1] (qSame_c1 a h g f e d c b o m l k j i p q s t false)) <| .ct 50 [0,1] (qSame_c1 a h g f e d c b o m l k j i p q s t false)) <| .ct 57 [0,1] (qSame_c1 a h g f e d c b o m l k j i p q s t false))) : qSame_c0 a h g f e d c b o m l k j i p q u w0 R := VC.go Tryz.func80 _ H
theorem qSame_c1_vc (a : Fct) (k : OA) (j : Nat) (i : OA) (h : Nat) (g : OA) (f : Nat) (b : Fct) (q : OA) (p : Nat) (o : OA) (n : Nat) (m : OA) (l s t : Nat) (c e d : Bool) (H : VP [] w0 R (.ru [3,200,1,201] <| .P 2 111 (a.editor = b.editor) (.ru [1,200,1,201] <| .P 3 118 (a.block = b.block) (.ru [1,200,1,201] <| .P 3 125 (a.sentence = b.sentence) (.ru [1,200,1,201] <| .sE 3 132 a.text b.text (.ru [1,200,1,201] <| .sE 3 139 a.name b.name (.ru [1,200,1,201] <| .P 3 146 (a.partner = b.partner) (.ru [1,200,1,201] <| .P 3 153 (a.cls = b.cls) (.ru [1,200,1,201] <| .ct 4 [] (qSame_c2 a k j i h g f b q p o n m l c e d (decide (a.unt = b.unt)))) <| .ct 8 [] (qSame_c2 a k j i h g f b q p o n m l c e d false)) <| .ct 15 [] (qSame_c2 a k j i h g f b q p o n m l c e d false)) <| .ct 22 [] (qSame_c2 a k j i h g f b q p o n m l c e d false)) <| .ct 29 [] (qSame_c2 a k j i h g f b q p o n m l c e d false)) <| .ct 36 [] (qSame_c2 a k j i h g f b q p o n m l c e d false)) <| .ct 43 [] (qSame_c2 a k j i h g f b q p o n m l c e d false)) <| .ct 50 [] (qSame_c2 a k j i h g f b q p o n m l c e d false))) : qSame_c1 a k j i h g f b q p o n m l s t c e d w0 R := VC.go Tryz.func80 _ H
theorem qSame_c2_vc (e : Fct) (k : OA) (j : Nat) (i : OA) (h : Nat) (g : OA) (f : Nat) (l : Fct) (s : OA) (q : Nat) (p : OA) (o : Nat) (n : OA) (m : Nat) (a c b d : Bool) (H : VP [] w0 R (.B 4 161 a (.B 3 164 c (.B 3 167 b (.re 4 (.bool d) []) <| .re 4 (.bool false) []) <| .re 7 (.bool false) []) <| .re 10 (.bool false) [])) : qSame_c2 e k j i h g f l s q p o n m a c b d w0 R := VC.go Tryz.func80 _ H
theorem qSame_vc (a : Fct) (h : OA) (g : Nat) (f : OA) (e : Nat) (d : OA) (c : Nat) (b : Fct) (n : OA) (m : Nat) (l : OA) (k : Nat) (j : OA) (i : Nat) (hm : Mem [] [] w0 W) (H : VP [] w0 R (.np 2 (.cells (zQ3aa a g e c h f d) 38) fun B => .np 0 (.cells (zQ3aa b m k i n l j) 38) fun o => .ru [6,200,2,201] <| .I 3 16 ((a.topics.length : Int) = (b.topics.length : Int)) (.re 5 (.bool false) [(B, .cells (zQ3aa a g e c h f d) 38), (o, .cells (zQ3aa b m k i n l j) 38)]) <| .ct 9 [0,1] (qSame_c0 a h g f e d c b n m l k j i B o 0))) : Calls TP 80 ⟨[.agg (zQ3aa a g e c h f d), .agg (zQ3aa b m k i n l j)]⟩ W R := VC.cs Tryz.func80 hm _ H
noncomputable def qValid_c0 (a b : Nat) (c : BA) (d : Int) (e : Fct) (s : OA) (q : Nat) (p : OA) (o : Nat) (n : OA) (m : Nat) (f : Fct) (l : OA) (k : Nat) (j : OA) (i : Nat) (h : OA) (g : Nat) : Cut := ⟨TP, [], 94, 60, (KC Tryz.f94 500), [(1, PP a), (3, .string c), (4, PP b), (5, IV d)], [(a, .cells (zQ3aa e q o m s p n) 38), (b, .cells (zQ3aa f k i g l j h) 38)]⟩
theorem qValid_c0_vc (t u : Nat) (a : BA) (b : Int) (c : Fct) (s : OA) (q : Nat) (p : OA) (o : Nat) (m : OA) (l : Nat) (e : Fct) (k : OA) (j : Nat) (i : OA) (h : Nat) (g : OA) (f : Nat) (H : VP [] w0 R (.hp [(t, .cells (zQ3aa c q o l s p m) 38), (u, .cells (zQ3aa e j h f k i g) 38)] fun d => .P 8 36 (b < (a.size : Int)) (.r 5 <| .dr 6 <| .qu [100,2] <| .ix a b <| .ex fun w => .qc 125 [.agg (zQ3aa c q o l s p m), .int .u8 (bat a b)] d (.bool w) <| .qu [1] <| .dn <| .B 5 44 w (.r 4 <| .dr 5 <| .qu [101,2] <| .ix a b <| .x5 fun (x : Fct) r31tp r31tc r31bp r31bc => .x2 fun z y => .qc 126 [.agg (zQ3aa e j h f k i g), .int .u8 (bat a b)] d (.agg (zQ3aa x r31tc r31bc y r31tp r31bp z)) <| .dn <| .ru [201] <| .li 6 5 (IntKind.i64.wrap (b + 1)) fun C => .ct 2 [0,1] (qValid_c0 t u a C c s q p o m l x r31tp r31tc r31bp r31bc z y)) <| .re 7 (.bool false) d) <| .ru [4,201,1,200,1,200,1,200] <| .cl 1 80 [.agg (zQ3aa e j h f k i g), .agg #[IV c.n, IV c.time, IV c.kind, IV 0, sZ, IV 0, IV 0, sZ, sZ, .slice none 0 0, .slice none 0 0, IV 0, .slice none 0 0, IV 0, IV 0, IV 0, IV 0, IV 0, sZ, sZ, IV 0, IV 0, IV 0]] d <| .ex fun A => .rt (.bool A) d <| .re 2 (.bool A) d)) : qValid_c0 t u a b c s q p o m l e k j i h g f w0 R := VC.go Tryz.func94 _ H
theorem qValid_vc (a : Fct) (h : OA) (g : Nat) (f : OA) (e : Nat) (d : OA) (c : Nat) (hm : Mem [] [] w0 W) (H : VP [] w0 R (.np 2 (.cells (zQ3aa a g e c h f d) 38) fun B => .hp [(B, .cells (zQ3aa a g e c h f d) 38)] fun b => .ru [5,200] <| .cl 0 96 [IV a.kind] b <| .ex fun i => .rt (.string i) b <| .sE 8 12 i (⟨#[]⟩ : BA) (.re 25 (.bool false) b) <| .ru [1,200] <| .P 3 17 (a.n < 0) (.re 20 (.bool false) b) <| .ru [1,200] <| .P 3 22 (500 < a.n) (.re 15 (.bool false) b) <| .ru [1,200] <| .P 3 27 (a.time < 0) (.re 10 (.bool false) b) <| .ru [1,200] <| .P 3 31 (1000000000 < a.time) (.re 5 (.bool false) b) <| .ru [4,200] <| .np 0 (.cells #[IV 0, IV 0, IV 0, IV 0, sZ, IV 0, IV 0, sZ, sZ, .slice none 0 0, .slice none 0 0, IV 0, .slice none 0 0, IV 0, IV 0, IV 0, IV 0, IV 0, sZ, sZ, IV 0, IV 0, IV 0] 38) fun j => .ru [201] <| .ct 8 [0,1] (qValid_c0 B j i 0 a h g f e d c a h g f e d c))) : Calls TP 94 ⟨[.agg (zQ3aa a g e c h f d)]⟩ W R := VC.cs Tryz.func94 hm _ H
abbrev S1 (x y : Fct) : Prop := x.n = y.n ∧ x.time = y.time ∧ x.kind = y.kind ∧ x.story = y.story ∧ x.lang = y.lang ∧ x.rev = y.rev ∧ x.base = y.base ∧ x.title = y.title ∧ x.author = y.author
abbrev S2 (x y : Fct) : Prop := x.editor = y.editor ∧ x.block = y.block ∧ x.sentence = y.sentence ∧ x.text = y.text ∧ x.name = y.name ∧ x.partner = y.partner ∧ x.cls = y.cls ∧ x.unt = y.unt
theorem same_all (x y : Fct) : decide (x = y) = (decide (x.topics = y.topics) && (decide (x.blocks = y.blocks) && (decide (x.lab = y.lab) && (decide (S1 x y) && decide (S2 x y))))) := by
 rw [Bool.eq_iff_iff]
 simp only [Bool.and_eq_true, decide_eq_true_eq]
 constructor
 ·rintro rfl; simp [S1, S2]
 ·rintro ⟨M, O, V, ⟨k1, a7, a8, a9, b0, b1, b3, b4, b5⟩, Z, a0, a1, a2, a3, a4, a5, a6⟩
  apply Fct.ext_get
  intro z
  cases z <;> assumption
section same
variable {x y : Fct} {xtp xbp xap ytp ybp yap : Option Addr} {xtc xbc xac ytc ybc yac B B1 : Nat} {w0 : World} {R : Ending → World → Prop}
theorem qSame_e2 {b l f s : Bool} (H : Fin R [] [] w0 (.bool (b && (l && (f && s))))) : qSame_c2 x xtp xtc xbp xbc xap xac y ytp ytc ybp ybc yap yac b l f s w0 R := by
 apply qSame_c2_vc
 exact ⟨fun M => ⟨fun O => ⟨fun V => finEq H (by rw [M, O, V]; rfl), fun V => finEq H (by rw [M, O, V]; rfl)⟩, fun O => finEq H (by rw [M, O]; rfl)⟩, fun M => finEq H (by rw [M]; rfl)⟩
theorem qSame_e1 {b l f : Bool} (H : Fin R [] [] w0 (.bool (b && (l && (f && decide (S2 x y)))))) : qSame_c1 x xtp xtc xbp xbc xap xac y ytp ytc ybp ybc yap yac B B1 b l f w0 R := by
 apply qSame_c1_vc
 have N : ¬ S2 x y → qSame_c2 x xtp xtc xbp xbc xap xac y ytp ytc ybp ybc yap yac b l f false w0 R := fun h => qSame_e2 (finEq H (by rw [decide_eq_false h]))
 refine ⟨fun M => ⟨fun O => ⟨fun V => ⟨fun Z => ⟨fun a0 => ⟨fun a1 => ⟨fun a2 => qSame_e2 (finEq H ?_), fun h => N fun g => h g.2.2.2.2.2.2.1⟩, fun h => N fun g => h g.2.2.2.2.2.1⟩, fun h => N fun g => h g.2.2.2.2.1⟩, fun h => N fun g => h g.2.2.2.1⟩, fun h => N fun g => h g.2.2.1⟩, fun h => N fun g => h g.2.1⟩, fun h => N fun g => h g.1⟩
 rw [show decide (S2 x y) = decide (x.unt = y.unt) from decide_eq_decide.2 ⟨fun g => g.2.2.2.2.2.2.2, fun a3 => ⟨M, O, V, Z, a0, a1, a2, a3⟩⟩]
theorem qSame_loop (M : FAt (lkW w0) x xtp xtc xbp xbc xap xac) (a0 : FAt (lkW w0) y ytp ytc ybp ybc yap yac) (b8 : x.topics.length = y.topics.length) (a1 : ∀ L v, Fin R [] [] w0 v → Fin R L [] w0 v) :
  ∀ (g i : Nat), g + i = x.topics.length → Fin R [] [] w0 (.bool (decide (x.topics.drop i = y.topics.drop i) && (decide (x.blocks = y.blocks) && (decide (x.lab = y.lab) && (decide (S1 x y) && decide (S2 x y)))))) →
   qSame_c0 x xtp xtc xbp xbc xap xac y ytp ytc ybp ybc yap yac B B1 (i : Int) w0 R
 | 0, i, hg, H => by
  apply qSame_c0_vc
  refine no (by omega) ?_
  rw [List.drop_of_length_le (by omega), List.drop_of_length_le (by omega), decide_eq_true rfl, Bool.true_and] at H
  refine CallH.pw (fun a2 O => rsameL_c (M.blks.mono (lkW_kept O)) (a0.blks.mono (lkW_kept O)) M.fits.2.2.1) ⟨_, rfl, rfl, ?_⟩
  refine CallH.pw (fun a2 O => rlabSame_c (M.ints.mono (lkW_kept O)) (a0.ints.mono (lkW_kept O)) M.fits.2.2.2) ⟨_, rfl, rfl, ?_⟩
  have N : ¬ S1 x y → qSame_c1 x xtp xtc xbp xbc xap xac y ytp ytc ybp ybc yap yac B B1 (decide (x.blocks = y.blocks)) (decide (x.lab = y.lab)) false w0 R := fun h => qSame_e1 (finEq H (by rw [decide_eq_false h]))
  refine ⟨fun V => ⟨fun Z => ⟨fun b0 => ⟨fun b1 => ⟨fun b3 => ⟨fun b4 => ⟨fun b5 => ⟨fun b6 => qSame_e1 (finEq H ?_), fun h => N fun g => h g.2.2.2.2.2.2.2.1⟩, fun h => N fun g => h g.2.2.2.2.2.2.1⟩, fun h => N fun g => h g.2.2.2.2.2.1⟩, fun h => N fun g => h g.2.2.2.2.1⟩, fun h => N fun g => h g.2.2.2.1⟩, fun h => N fun g => h g.2.2.1⟩, fun h => N fun g => h g.2.1⟩, fun h => N fun g => h g.1⟩
  have e : decide (S1 x y) = (x.author.toList == y.author.toList) := by
   rw [Bool.eq_iff_iff, decide_eq_true_eq, strEq_iff]
   exact ⟨fun g => g.2.2.2.2.2.2.2.2, fun b7 => ⟨V, Z, b0, b1, b3, b4, b5, b6, b7⟩⟩
  rw [e]
 | g + 1, i, hg, H => by
  apply qSame_c0_vc
  have V : i < x.topics.length := by omega
  have Z : i < y.topics.length := by omega
  have hm := M.fits.2.1.1
  obtain ⟨a3, o1, c1, e1, a6, a7⟩ := M.tops.get V
  obtain ⟨a4, b9, a5, f1, a8, a9⟩ := a0.tops.get Z
  simp only [drop_eq V Z] at H
  refine yes (by omega) ⟨a3, o1, e1, by omega, c1, x.topics[i], a6, by simpa using a7, a4, b9, f1, by omega, a5, y.topics[i], a8, by simpa using a9, fun h => a1 _ _ (finEq H (by simp [h])), fun h => ?_⟩
  rintro _ rfl
  rw [wi64 (by omega), show (i : Int) + 1 = ((i + 1 : Nat) : Int) by omega]
  refine qSame_loop M a0 b8 a1 g (i + 1) (by omega) (finEq H ?_)
  simp [h]
theorem qSame_c {W : World} (O : FAt (lkW W) x xtp xtc xbp xbc xap xac) (V : FAt (lkW W) y ytp ytc ybp ybc yap yac) :
  PW TP 80 ⟨[.agg ⟨x.cells xtp xtc xbp xbc xap xac⟩, .agg ⟨y.cells ytp ytc ybp ybc yap yac⟩]⟩ W (.bool (decide (x = y))) := by
 refine qSame_vc x xtp xtc xbp xbc xap xac y ytp ytc ybp ybc yap yac (Mem.start [] W) fun B Z => ⟨fun h => finPW ?_, fun h => qSame_loop O V (by omega) pwLoose x.topics.length 0 (by omega) (finPW ?_)⟩
 ·rw [decide_eq_false]
  intro M; subst M; exact h rfl
 ·rw [List.drop_zero, List.drop_zero, ← same_all]
end same
theorem bare_at {lk : Lk} (n t k : Int) : FAt lk (Fct.bare n t k) none 0 none 0 none 0 := noLists rfl rfl rfl ⟨e0_sz, e0_sz, e0_sz, e0_sz, e0_sz⟩
section valid
variable {W : World} {f : Fct} {tp bp ap : Option Addr} {tc bc ac B B1 : Nat}
theorem qValid_loop (h : FAt (lkW W) f tp tc bp bc ap ac) : ∀ (g i : Nat) (u : Fct) (a2 : OA) (a1 : Nat) (a0 : OA) (Z : Nat) (V : OA) (O : Nat), g + i = (kfields f.kind).length → FAt (lkW W) u a2 a1 a0 Z V O → ∀ b : Bool, b = (((kfields f.kind).drop i).all (rightB f) && decide (((kfields f.kind).drop i).foldl Fct.wo u = Fct.bare f.n f.time f.kind)) →
      qValid_c0 B B1 (kstr f.kind) (i : Int) f tp tc bp bc ap ac u a2 a1 a0 Z V O W (fun e a3 => e = .returned (.bool b) ∧ Below W.heap.size W a3)
  | 0, i, u, a2, a1, a0, Z, V, O, hg, hu, b, hb => by
    apply qValid_c0_vc
    have a6 := kstr_len f.kind
    rw [List.drop_of_length_le (by omega)] at hb
    refine no (by omega) (CallH.pw (fun a3 a4 => qSame_c (x := u) (y := Fct.bare f.n f.time f.kind) (hu.mono (lkW_kept a4)) (bare_at f.n f.time f.kind)) ⟨_, rfl, rfl, finPW ?_⟩)
    rw [hb]; rfl
  | g + 1, i, u, a2, a1, a0, Z, V, O, hg, hu, b, hb => by
    apply qValid_c0_vc
    have a6 := kstr_len f.kind
    have a7 := kfields_len f.kind
    have hi : i < (kfields f.kind).length := by omega
    rw [List.drop_eq_getElem_cons hi, List.all_cons, List.foldl_cons] at hb
    have a5 := kstr_at hi
    refine yes (by omega) ⟨by omega, _, QCall.pw fun a3 a4 => qRight_c (h.mono (lkW_kept a4)), fun M => ⟨by omega, _, _, _, _, _, _, _, QCall.of qWithout_c, ?_⟩, fun M => finPW ?_⟩
    · rintro _ rfl
      rw [wi64 (by omega), show (i : Int) + 1 = ((i + 1 : Nat) : Int) by omega]
      refine qValid_loop h g (i + 1) _ _ _ _ _ _ _ (by omega) (hu.wo _) b ?_
      rw [a5] at M ⊢
      rw [hb, M, Bool.true_and]
    · rw [a5] at M
      rw [hb, M]; rfl
theorem qValid_c (h : FAt (lkW W) f tp tc bp bc ap ac) : PW TP 94 ⟨[.agg ⟨f.cells tp tc bp bc ap ac⟩]⟩ W (.bool f.ok) := by
 refine qValid_vc f tp tc bp bc ap ac (Mem.start [] W) fun B => ?_
 have M : ¬ (0 ≤ f.n ∧ f.n ≤ 500 ∧ 0 ≤ f.time ∧ f.time ≤ 1000000000) → (Value.bool false) = .bool f.ok := fun hn => by rw [Fct.ok, decide_eq_false hn, Bool.false_and]
 refine CallH.pure (qFields_c f.kind) ⟨_, rfl, rfl, fun O => finPW ?_, fun O => ⟨fun h => finPW (M (by omega)), fun Z => ⟨fun h => finPW (M (by omega)), fun a0 => ⟨fun h => finPW (M (by omega)), fun a1 => ⟨fun h => finPW (M (by omega)), fun a2 V => ?_⟩⟩⟩⟩⟩
 ·have e : kfields f.kind = [] := by
   have := kstr_len f.kind
   rw [O] at this
   exact List.length_eq_zero_iff.1 this.symm
  rw [ok_right, e]; simp
 ·have e : kfields f.kind ≠ [] := fun e => O (ByteArray.ext (Array.eq_empty_of_size_eq_zero ((kstr_len f.kind).trans (by rw [e]; rfl))))
  refine qValid_loop h (kfields f.kind).length 0 f tp tc bp bc ap ac (by omega) h _ ?_
  rw [ok_right, decide_eq_true (p := 0 ≤ f.n ∧ f.n ≤ 500 ∧ 0 ≤ f.time ∧ f.time ≤ 1000000000) (by omega), decide_eq_true e]; rfl
end valid
abbrev zQ4aa (a : Fct) (b x2 x3 : Nat) (x4 x5 c : OA) : Array Value := #[IV a.n, IV a.time, IV a.kind, IV a.story, .string a.lang, IV a.rev, IV a.base, .string a.title, .string a.author, .slice x4 a.topics.length b, .slice x5 a.blocks.length x2, IV a.lab.unt, .slice c a.lab.after.length x3, IV a.lab.appr, IV a.lab.den, IV a.editor, IV a.block, IV a.sentence, .string a.text, .string a.name, IV a.partner, IV a.cls, IV a.unt]
noncomputable def qPut_c0 (b : Fct) (h : OA) (g : Nat) (f : OA) (e : Nat) (d : OA) (c : Nat) (k : Int) (a : Nat) (j : BA) (i : Int) : Cut := ⟨TP, [], 97, 152, (KC Tryz.f97 14155732), [(2, PP a), (5, .string j), (6, IV i)], [(a, .cells (zQ4aa b g e c h f d) 38)]⟩
noncomputable def qPut_c1 (b : Fct) (h : OA) (g : Nat) (f : OA) (e : Nat) (d : OA) (c : Nat) (k : Int) (a : Nat) (j : BA) (i : Int) : Cut := ⟨TP, [], 97, 152, (KC Tryz.f97 226492372), [(2, PP a), (9, .string j), (10, IV i)], [(a, .cells (zQ4aa b g e c h f d) 38)]⟩
theorem qPut_c0_vc (b : Fct) (d : OA) (c : Nat) (j : OA) (i : Nat) (h : OA) (g : Nat) (n : Int) (f : Nat) (e : BA) (a : Int) (H : VP [] w0 R (.hp [(f, .cells (zQ4aa b c i g d j h) 38)] fun l => .ru [5,200] <| .P 3 52 (a < (b.topics.length : Int)) (.ru [7,200] <| .r 1 <| .x2 fun o k => .iP d o k b.topics.length c 1 a (k + (Int.toNat a)) <| .x2 fun q p => .lW o (k + (Int.toNat a)) 9 q (.string p) <| .cl 0 127 [.string p] l <| .ex fun m => .rt (.string m) l <| .cc e m <| .ls 1 5 (e ++ m) fun t => .li 6 6 (IntKind.i64.wrap (a + 1)) fun s => .ct 2 [0] (qPut_c0 b d c j i h g n f t s)) <| .re 7 (.string e) l)) : qPut_c0 b d c j i h g n f e a w0 R := VC.go Tryz.func97 _ H
theorem qPut_c1_vc (a : Fct) (m : OA) (l : Nat) (k : OA) (j : Nat) (f : OA) (e : Nat) (q : Int) (h : Nat) (c : BA) (b : Int) (H : VP [] w0 R (.hp [(h, .cells (zQ4aa a l j e m k f) 38)] fun d => .ru [6,200] <| .P 3 91 (b < (a.lab.after.length : Int)) (.ru [8,200] <| .r 1 <| .x2 fun p i => .iP f p i a.lab.after.length e 1 b (i + (Int.toNat b)) <| .x2 fun t s => .lW p (i + (Int.toNat b)) 3 t (IV s) <| .cl 0 95 [IV s] d <| .ex fun n => .rt (.string n) d <| .cc c n <| .ls 1 9 (c ++ n) fun w => .li 6 10 (IntKind.i64.wrap (b + 1)) fun u => .ct 2 [0] (qPut_c1 a m l k j f e q h w u)) <| .r 3 <| .dr 12 <| .qu [3,100] <| .ex fun g => .qc 95 [IV a.lab.appr] d (.string g) <| .cc c g <| .qu [2,100] <| .ex fun o => .qc 95 [IV a.lab.den] d (.string o) <| .cc (c ++ g) o <| .qu [1] <| .zls 4 ((c ++ g) ++ o) fun x => .dn <| .re 1 (.string x) d)) : qPut_c1 a m l k j f e q h c b w0 R := VC.go Tryz.func97 _ H
theorem qPut_vc (b : Fct) (i : OA) (h : Nat) (e : OA) (d : Nat) (g : OA) (f : Nat) (c : Int) (hm : Mem [] [] w0 W) (H : VP [] w0 R (.np 2 (.cells (zQ4aa b h d f i e g) 38) fun B => .hp [(B, .cells (zQ4aa b h d f i e g) 38)] fun a => .P 13 12 (c = 115) (.ru [4,200] <| .cl 0 95 [IV b.story] a <| .ex fun l => .rt (.string l) a <| .re 2 (.string l) a) <| .P 6 17 (c = 108) (.ru [4,200] <| .cl 0 127 [.string b.lang] a <| .ex fun x => .rt (.string x) a <| .re 2 (.string x) a) <| .P 6 22 (c = 114) (.ru [4,200] <| .cl 0 95 [IV b.rev] a <| .ex fun y => .rt (.string y) a <| .re 2 (.string y) a) <| .P 6 27 (c = 97) (.ru [4,200] <| .cl 0 95 [IV b.base] a <| .ex fun z => .rt (.string z) a <| .re 2 (.string z) a) <| .P 6 32 (c = 116) (.ru [4,200] <| .cl 0 127 [.string b.title] a <| .ex fun A => .rt (.string A) a <| .re 2 (.string A) a) <| .P 6 37 (c = 117) (.ru [4,200] <| .cl 0 127 [.string b.author] a <| .ex fun C => .rt (.string C) a <| .re 2 (.string C) a) <| .P 6 42 (c = 111) (.ru [4,200] <| .cl 1 95 [IV (b.topics.length : Int)] a <| .ex fun D => .rt (.string D) a <| .ct 9 [0] (qPut_c0 b i h e d g f c B D 0)) <| .P 6 64 (c = 98) (.ru [4,200] <| .cl 0 128 [.slice e b.blocks.length d] a <| .x2 fun E G => .rt (.tuple #[.string E, IV G]) a <| .cl 9 127 [.string E] a <| .ex fun m => .rt (.string m) a <| .re 2 (.string m) a) <| .P 6 74 (c = 76) (.r 2 <| .dr 11 <| .qu [2,100] <| .ex fun j => .qc 95 [IV b.lab.unt] a (.string j) <| .qu [2,100,1] <| .ex fun k => .qc 95 [IV (b.lab.after.length : Int)] a (.string k) <| .cc j k <| .qu [1] <| .zls 9 (j ++ k) fun F => .dn <| .ct 8 [0] (qPut_c1 b i h e d g f c B F 0)) <| .P 6 114 (c = 101) (.ru [4,200] <| .cl 0 95 [IV b.editor] a <| .ex fun n => .rt (.string n) a <| .re 2 (.string n) a) <| .P 6 119 (c = 107) (.ru [4,200] <| .cl 0 95 [IV b.block] a <| .ex fun o => .rt (.string o) a <| .re 2 (.string o) a) <| .P 6 124 (c = 110) (.ru [4,200] <| .cl 0 95 [IV b.sentence] a <| .ex fun p => .rt (.string p) a <| .re 2 (.string p) a) <| .P 6 129 (c = 120) (.ru [4,200] <| .cl 0 127 [.string b.text] a <| .ex fun q => .rt (.string q) a <| .re 2 (.string q) a) <| .P 6 134 (c = 109) (.ru [4,200] <| .cl 0 127 [.string b.name] a <| .ex fun s => .rt (.string s) a <| .re 2 (.string s) a) <| .P 6 139 (c = 112) (.ru [4,200] <| .cl 0 95 [IV b.partner] a <| .ex fun t => .rt (.string t) a <| .re 2 (.string t) a) <| .P 6 144 (c = 99) (.ru [4,200] <| .cl 0 95 [IV b.cls] a <| .ex fun u => .rt (.string u) a <| .re 2 (.string u) a) <| .ru [6,200] <| .cl 0 95 [IV b.unt] a <| .ex fun w => .rt (.string w) a <| .re 2 (.string w) a)) : Calls TP 97 ⟨[.agg (zQ4aa b h d f i e g), .int .u8 c]⟩ W R := VC.cs Tryz.func97 hm _ H
abbrev zQ5aa (a : Fct) (b x2 x3 : Nat) (x4 x5 c : OA) : Array Value := #[IV a.n, IV a.time, IV a.kind, IV a.story, .string a.lang, IV a.rev, IV a.base, .string a.title, .string a.author, .slice x4 a.topics.length b, .slice x5 a.blocks.length x2, IV a.lab.unt, .slice c a.lab.after.length x3, IV a.lab.appr, IV a.lab.den, IV a.editor, IV a.block, IV a.sentence, .string a.text, .string a.name, IV a.partner, IV a.cls, IV a.unt]
noncomputable def qEnc_c0 (b : Fct) (i : OA) (h : Nat) (f : OA) (e : Nat) (d : OA) (c a : Nat) (k g : BA) (j : Int) : Cut := ⟨TP, [], 57, 40, (KC Tryz.f57 1012), [(1, PP a), (5, .string k), (6, .string g), (7, IV j)], [(a, .cells (zQ5aa b h e c i f d) 38)]⟩
theorem qEnc_c0_vc (c : Fct) (i : OA) (h : Nat) (g : OA) (f : Nat) (e : OA) (d k : Nat) (j a : BA) (b : Int) (H : VP [] w0 R (.hp [(k, .cells (zQ5aa c h f d i g e) 38)] fun m => .P 8 29 (b < (a.size : Int)) (.r 4 <| .dr 8 <| .qu [1,100,2] <| .ix a b <| .ex fun l => .qc 97 [.agg (zQ5aa c h f d i g e), .int .u8 (bat a b)] m (.string l) <| .cc j l <| .qu [1] <| .zls 5 (j ++ l) fun o => .dn <| .li 6 7 (IntKind.i64.wrap (b + 1)) fun n => .ct 2 [0] (qEnc_c0 c i h g f e d k o a n)) <| .re 8 (.tuple #[.string j, IV 0]) m)) : qEnc_c0 c i h g f e d k j a b w0 R := VC.go Tryz.func57 _ H
theorem qEnc_vc (a : Fct) (h : OA) (g : Nat) (f : OA) (e : Nat) (d : OA) (c : Nat) (hm : Mem [] [] w0 W) (H : VP [] w0 R (.np 2 (.cells (zQ5aa a g e c h f d) 38) fun B => .hp [(B, .cells (zQ5aa a g e c h f d) 38)] fun b => .ru [5,200] <| .cl 0 94 [.agg (zQ5aa a g e c h f d)] b <| .ex fun l => .rt (.bool l) b <| .B 6 10 l (.r 5 <| .dr 12 <| .qu [1,100] <| .ex fun i => .qc 95 [IV a.n] b (.string i) <| .qu [1,100] <| .ex fun j => .qc 95 [IV a.time] b (.string j) <| .cc i j <| .qu [1,100] <| .ex fun k => .qc 95 [IV a.kind] b (.string k) <| .cc (i ++ j) k <| .qu [1] <| .zls 5 ((i ++ j) ++ k) fun o => .dn <| .ru [4,200] <| .cl 0 96 [IV a.kind] b <| .ex fun m => .rt (.string m) b <| .ct 9 [0] (qEnc_c0 a h g f e d c B o m 0)) <| .re 8 (.tuple #[sZ, IV 50]) b)) : Calls TP 57 ⟨[.agg (zQ5aa a g e c h f d)]⟩ W R := VC.cs Tryz.func57 hm _ H
theorem qMark_vc (a : BA) (hm : Mem [] [] w0 W) (H : VP [] w0 R (.cl 7 93 [.string a] [] <| .ex fun c => .rt (IV c) [] <| .cl 0 55 [IV c] [] <| .x2 fun b d => .rt (.tuple #[.string b, IV d]) [] <| .r 9 <| .cc (⟨#[1]⟩) a <| .r 1 <| .cc ((⟨#[1]⟩ : BA) ++ a) b <| .ls 1 2 (((⟨#[1]⟩ : BA) ++ a) ++ b) fun e => .re 1 (.string e) [])) : Calls TP 56 ⟨[.string a]⟩ W R := VC.cs Tryz.func56 hm _ H
theorem qRec_vc (b : Fct) (h : OA) (g : Nat) (f : OA) (e : Nat) (d : OA) (c : Nat) (hm : Mem [] [] w0 W) (H : VP [] w0 R (.np 2 (.cells (zQ5aa b g e c h f d) 38) fun B => .hp [(B, .cells (zQ5aa b g e c h f d) 38)] fun a => .ru [4,200] <| .cl 0 57 [.agg (zQ5aa b g e c h f d)] a <| .x2 fun i l => .rt (.tuple #[.string i, IV l]) a <| .cl 9 58 [.string i] a <| .x2 fun j m => .rt (.tuple #[.string j, IV m]) a <| .cl 9 56 [.string j] a <| .ex fun k => .rt (.string k) a <| .re 2 (.string k) a)) : Calls TP 19 ⟨[.agg (zQ5aa b g e c h f d)]⟩ W R := VC.cs Tryz.func19 hm _ H
section put
variable {W : World} {f : Fct} {tp bp ap : Option Addr} {tc bc ac B : Nat} {c : Int} {w0 : World} {R : Ending → World → Prop}
theorem qPut_top (h : StrsL (lkW w0) tp f.topics) (M : f.topics.length ≤ 4 ∧ ∀ s ∈ f.topics, s.size ≤ 65536) (V : ∀ L v, Fin R [] [] w0 v → Fin R L [] w0 v) (H : Fin R [] [] w0 (.string (ba (f.put .topics)))) :
  ∀ (g i : Nat), g + i = f.topics.length → qPut_c0 f tp tc bp bc ap ac c B (ba (Wire.enc (f.topics.length : Int) ++ (f.topics.take i).flatMap fun s : BA => encS (bts s))) (i : Int) w0 R
 | 0, i, hg => by
  apply qPut_c0_vc
  refine no (by omega) (V _ _ (finEq H ?_))
  rw [List.take_of_length_le (by omega)]; rfl
 | g + 1, i, hg => by
  apply qPut_c0_vc
  have hi : i < f.topics.length := by omega
  obtain ⟨b, o, cc, e1, Z, a0⟩ := h.get hi
  have a2 := M.2 _ (List.getElem_mem hi)
  have a5 := M.1
  have a1 := flat_len (e := fun s : BA => encS (bts s)) (m := 65546) (f.topics.take i) (fun x a3 => by
   have := M.2 x (List.mem_of_mem_take a3); have O := encS_len (bts x); rw [bts_len] at O; omega)
  rw [List.length_take] at a1
  have hm : 65546 * min i f.topics.length ≤ 65546 * 4 := Nat.mul_le_mul_left _ (by omega)
  have O := encS_len (bts f.topics[i]); rw [bts_len] at O
  have a4 := enc_len (f.topics.length : Int)
  refine yes (by omega) ⟨b, o, e1, by omega, cc, f.topics[i], Z, by simpa using a0, CallH.pure (qStr_c a2) ⟨_, rfl, rfl, by rw [encSB_ba]; simp only [ba_size, List.length_append]; omega, ?_⟩⟩
  rintro _ rfl _ rfl
  rw [encSB_ba, ba_append, wi64 (by omega), show (i : Int) + 1 = ((i + 1 : Nat) : Int) by omega]
  have := qPut_top h M V H g (i + 1) (by omega)
  rw [flat_take hi, ← List.append_assoc] at this
  exact this
theorem qPut_lab (h : IntsL (lkW w0) ap f.lab.after) (M : vOk .label f.lab) (O : ∀ L v, Fin R [] [] w0 v → Fin R L [] w0 v) (H : Fin R [] [] w0 (.string (ba (f.put .label)))) :
  ∀ (g i : Nat), g + i = f.lab.after.length → qPut_c1 f tp tc bp bc ap ac c B (ba (Wire.enc f.lab.unt ++ Wire.enc (f.lab.after.length : Int) ++ encIs (f.lab.after.take i))) (i : Int) w0 R
 | 0, i, hg => by
  apply qPut_c1_vc
  obtain ⟨a8, a4, a9, a5, a6⟩ := M
  have a1 := enc_len f.lab.unt; have a2 := enc_len (f.lab.after.length : Int); have V := encIs_len f.lab.after; have a3 := enc_len f.lab.appr; have a7 := enc_len f.lab.den
  rw [List.take_of_length_le (by omega)]
  refine no (by omega) ⟨_, QCall.of (qNum_c a5), by simp only [ba_size, List.length_append]; omega, _, QCall.of (qNum_c a6), ?_⟩
  rw [ba_append]
  refine ⟨by simp only [ba_size, List.length_append]; omega, ?_⟩
  rintro _ rfl
  rw [ba_append]
  refine O _ _ (finEq H ?_)
  show _ = Value.string (ba (Wire.enc f.lab.unt ++ (Wire.enc (f.lab.after.length : Int) ++ (f.lab.after.flatMap Wire.enc ++ (Wire.enc f.lab.appr ++ Wire.enc f.lab.den)))))
  simp only [List.append_assoc, encIs]
 | g + 1, i, hg => by
  apply qPut_c1_vc
  have hi : i < f.lab.after.length := by omega
  obtain ⟨b, o, cc, e1, Z, a0⟩ := h.get hi
  have a1 := enc_len f.lab.unt; have a2 := enc_len (f.lab.after.length : Int); have V := encIs_len (f.lab.after.take i); have a3 := enc_len f.lab.after[i]
  rw [List.length_take] at V
  have a4 : f.lab.after.length ≤ 64 := M.2.1
  refine yes (by omega) ⟨b, o, e1, by omega, cc, f.lab.after[i], Z, by simpa using a0, CallH.pure (qNum_c (M.2.2.1 _ (List.getElem_mem hi))) ⟨_, rfl, rfl, by simp only [ba_size, List.length_append]; omega, ?_⟩⟩
  rintro _ rfl _ rfl
  rw [ba_append, wi64 (by omega), show (i : Int) + 1 = ((i + 1 : Nat) : Int) by omega]
  have := qPut_lab h M O H g (i + 1) (by omega)
  rw [encIs_take hi, ← List.append_assoc] at this
  exact this
theorem qPut_c (h : FAt (lkW W) f tp tc bp bc ap ac) (M : vOk (fldOf c).ty (f.get (fldOf c))) : PW TP 97 ⟨[.agg ⟨f.cells tp tc bp bc ap ac⟩, .int .u8 c]⟩ W (.string (ba (f.put (fldOf c)))) := by
 refine qPut_vc f tp tc bp bc ap ac c (Mem.start [] W) fun B => ?_
 have S : ∀ s : BA, (Value.string (encSB s)) = .string (ba (encS (bts s))) := fun s => by rw [encSB_ba]
 refine ⟨fun k => ?_, fun k1 => ⟨fun k => ?_, fun a7 => ⟨fun k => ?_, fun a8 => ⟨fun k => ?_, fun a9 => ⟨fun k => ?_, fun b0 => ⟨fun k => ?_, fun b1 => ⟨fun k => ?_, fun b3 => ⟨fun k => ?_, fun b4 => ⟨fun k => ?_, fun b5 => ⟨fun k => ?_, fun a0 => ⟨fun k => ?_, fun a1 => ⟨fun k => ?_, fun a2 => ⟨fun k => ?_, fun a3 => ⟨fun k => ?_, fun a4 => ⟨fun k => ?_, fun a5 => ⟨fun k => ?_, fun a6 => ?_⟩⟩⟩⟩⟩⟩⟩⟩⟩⟩⟩⟩⟩⟩⟩⟩
 ·subst k; exact CallH.pure (qNum_c (n := f.story) M) ⟨_, rfl, rfl, finPW rfl⟩
 ·subst k; exact CallH.pure (qStr_c (s := f.lang) M) ⟨_, rfl, rfl, finPW (S f.lang)⟩
 ·subst k; exact CallH.pure (qNum_c (n := f.rev) M) ⟨_, rfl, rfl, finPW rfl⟩
 ·subst k; exact CallH.pure (qNum_c (n := f.base) M) ⟨_, rfl, rfl, finPW rfl⟩
 ·subst k; exact CallH.pure (qStr_c (s := f.title) M) ⟨_, rfl, rfl, finPW (S f.title)⟩
 ·subst k; exact CallH.pure (qStr_c (s := f.author) M) ⟨_, rfl, rfl, finPW (S f.author)⟩
 ·subst k
  have M : f.topics.length ≤ 4 ∧ ∀ s ∈ f.topics, s.size ≤ 65536 := M
  refine CallH.pure (qNum_c (okI (by omega))) ⟨_, rfl, rfl, ?_⟩
  have := qPut_top (tc := tc) (bp := bp) (bc := bc) (ap := ap) (ac := ac) (B := B) (c := 111) h.tops M (pwLoose (u := .string (ba (f.put .topics)))) (finPW rfl) f.topics.length 0 (by omega)
  rw [List.take_zero, List.flatMap_nil, List.append_nil] at this
  exact this
 ·subst k
  have M : listOk f.blocks = true := M
  have Z := encL_le M
  refine CallH.pw (fun V O => rencode_c (h.blks.mono (lkW_kept O))) ⟨_, _, if_pos M, rfl, CallH.pure (qStr_c (by rw [ba_size]; omega)) ⟨_, rfl, rfl, finPW ?_⟩⟩
  rw [S, bts_mk]; rfl
 ·subst k
  have M : vOk .label f.lab := M
  have b8 : f.lab.after.length ≤ 64 := M.2.1
  have b6 := enc_len f.lab.unt; have b7 := enc_len (f.lab.after.length : Int)
  refine ⟨_, QCall.of (qNum_c M.1), _, QCall.of (qNum_c (okI (by omega))), by simp only [ba_size]; omega, ?_⟩
  rintro _ rfl
  rw [ba_append]
  have := qPut_lab (tp := tp) (tc := tc) (bp := bp) (bc := bc) (ac := ac) (B := B) (c := 76) h.ints M (pwLoose (u := .string (ba (f.put .label)))) (finPW rfl) f.lab.after.length 0 (by omega)
  rw [List.take_zero, show encIs [] = [] from rfl, List.append_nil] at this
  exact this
 ·subst k; exact CallH.pure (qNum_c (n := f.editor) M) ⟨_, rfl, rfl, finPW rfl⟩
 ·subst k; exact CallH.pure (qNum_c (n := f.block) M) ⟨_, rfl, rfl, finPW rfl⟩
 ·subst k; exact CallH.pure (qNum_c (n := f.sentence) M) ⟨_, rfl, rfl, finPW rfl⟩
 ·subst k; exact CallH.pure (qStr_c (s := f.text) M) ⟨_, rfl, rfl, finPW (S f.text)⟩
 ·subst k; exact CallH.pure (qStr_c (s := f.name) M) ⟨_, rfl, rfl, finPW (S f.name)⟩
 ·subst k; exact CallH.pure (qNum_c (n := f.partner) M) ⟨_, rfl, rfl, finPW rfl⟩
 ·subst k; exact CallH.pure (qNum_c (n := f.cls) M) ⟨_, rfl, rfl, finPW rfl⟩
 ·have e : fldOf c = .unt := by simp only [fldOf, *, if_false]
  rw [e] at M ⊢
  exact CallH.pure (qNum_c (n := f.unt) M) ⟨_, rfl, rfl, finPW rfl⟩
theorem qEnc_loop (h : FAt (lkW W) f tp tc bp bc ap ac) (M : f.Good) : ∀ (g i : Nat), g + i = (kfields f.kind).length →
  qEnc_c0 f tp tc bp bc ap ac B (ba (f.head ++ ((kfields f.kind).take i).flatMap f.put)) (kstr f.kind) (i : Int) W (fun e O => e = .returned (.tuple #[.string (ba (encF f)), .int .i64 0]) ∧ Below W.heap.size W O)
 | 0, i, hgi => by
  apply qEnc_c0_vc
  have a2 := kstr_len f.kind
  rw [List.take_of_length_le (by omega)]
  exact no (by omega) (finPW rfl)
 | g + 1, i, hgi => by
  apply qEnc_c0_vc
  have a2 := kstr_len f.kind
  have a7 := kfields_len f.kind
  have hi : i < (kfields f.kind).length := by omega
  have V := kstr_at hi
  have Z := M.fields _ (List.getElem_mem hi)
  have a0 := flat_len (e := f.put) (m := 400000) ((kfields f.kind).take i) (fun x a3 => put_len (M.fields x (List.mem_of_mem_take a3)))
  rw [List.length_take] at a0
  have hm : 400000 * min i (kfields f.kind).length ≤ 400000 * 9 := Nat.mul_le_mul_left _ (by omega)
  have hp := put_len Z
  have a4 := enc_len f.n; have a5 := enc_len f.time; have a6 := enc_len f.kind
  have a8 : f.head.length ≤ 30 := by rw [Fct.head]; simp only [List.length_append]; omega
  refine yes (by omega) ⟨by omega, _, QCall.pw fun O a1 => qPut_c (h.mono (lkW_kept a1)) (by rw [V]; exact Z), ?_⟩
  rw [V]
  refine ⟨by simp only [ba_size, List.length_append]; omega, ?_⟩
  rintro _ rfl _ rfl
  rw [ba_append, wi64 (by omega), show (i : Int) + 1 = ((i + 1 : Nat) : Int) by omega]
  have := qEnc_loop h M g (i + 1) (by omega)
  rw [flat_take hi, ← List.append_assoc] at this
  exact this
theorem qEnc_c (h : FAt (lkW W) f tp tc bp bc ap ac) : PW TP 57 ⟨[.agg ⟨f.cells tp tc bp bc ap ac⟩]⟩ W (encFAns f) := by
 refine qEnc_vc f tp tc bp bc ap ac (Mem.start [] W) fun B => CallH.pw (fun Z V => qValid_c (h.mono (lkW_kept V))) ⟨_, rfl, rfl, fun O => ?_, fun O => finPW (by rw [encFAns, O]; rfl)⟩
 have M := Fct.good O
 have a3 := M.n; have a4 := M.time; have a5 := M.kind
 have a0 := enc_len f.n; have a1 := enc_len f.time; have a2 := enc_len f.kind
 refine ⟨_, QCall.of (qNum_c (okI (by omega))), _, QCall.of (qNum_c (okI (by omega))), by simp only [ba_size]; omega, _, QCall.of (qNum_c (okI (by omega))), ?_⟩
 rw [ba_append]
 refine ⟨by simp only [ba_size, List.length_append]; omega, ?_⟩
 rintro _ rfl
 rw [ba_append]
 refine CallH.pure (qFields_c _) ⟨_, rfl, rfl, ?_⟩
 have := qEnc_loop (B := B) h M (kfields f.kind).length 0 (by omega)
 rw [encFAns, if_pos O]
 simpa [Fct.head] using this
end put
theorem qMark_c {s : BA} (O : s.size < 4611686018427387904) : PureC TP 56 ⟨[.string s]⟩ (.string (ba (frm (bts s)))) := fun W => by
 have Z := crc_lt (bts s)
 have M := enc_len (crc (bts s) : Int)
 have a0 : (encB (crc (bts s) : Int)).size ≤ 10 := by rw [encB_size]; exact M
 refine qMark_vc s (Mem.start [] W) (CallH.pure (rSum_c s O) ⟨_, rfl, rfl, CallH.pure (rPutInt_c _) ⟨encB (crc (bts s) : Int), 0, if_pos (okI (by omega)), rfl, by show 1 + s.size ≤ _; omega, by rw [ByteArray.size_append]; show 1 + s.size + _ ≤ _; omega, fun t V => finPure ?_⟩⟩)
 rw [V]
 refine congrArg Value.string ?_
 apply bts_inj
 rw [bts_append, bts_append, encB_bts]
 exact Eq.trans rfl (bts_mk (frm (bts s))).symm
theorem qRec_c {W : World} {f : Fct} {tp bp ap : OA} {tc bc ac : Nat} (h : FAt (lkW W) f tp tc bp bc ap ac) (M : f.ok = true) :
  PW TP 19 ⟨[.agg ⟨f.cells tp tc bp bc ap ac⟩]⟩ W (.string (ba (recL f))) := by
 refine qRec_vc f tp tc bp bc ap ac (Mem.start [] W) fun B => CallH.pw (fun a0 V => qEnc_c (h.mono (lkW_kept V))) ⟨ba (encF f), 0, enc_ok M, rfl, ?_⟩
 have a1 := encF_small M
 have Z : (ba (encF f)).size ≤ 65536 := by rw [ba_size]; omega
 refine CallH.pure (rPutString_c _) ⟨encSB (ba (encF f)), 0, if_pos Z, rfl, ?_⟩
 have O : (encSB (ba (encF f))).size < 4611686018427387904 := by
  have := encS_len (encF f)
  rw [← bts_len, encSB_bts, bts_mk]; omega
 refine CallH.pure (qMark_c O) ⟨_, rfl, rfl, finPW ?_⟩
 rw [encSB_bts, bts_mk]; rfl
abbrev zL7aa (a : Fct) (b x2 x3 : Nat) (x4 x5 c : OA) : Array Value := #[IV a.n, IV a.time, IV a.kind, IV a.story, .string a.lang, IV a.rev, IV a.base, .string a.title, .string a.author, .slice x4 a.topics.length b, .slice x5 a.blocks.length x2, IV a.lab.unt, .slice c a.lab.after.length x3, IV a.lab.appr, IV a.lab.den, IV a.editor, IV a.block, IV a.sentence, .string a.text, .string a.name, IV a.partner, IV a.cls, IV a.unt]
noncomputable def law2_c0 (s : Int) (o : OA) (n m : Nat) (d : Fct) (j : OA) (i : Nat) (h : OA) (g : Nat) (f : OA) (e : Nat) (p : Int) (a : Nat) (q : Bool) (c l : OA) (ev k : Int) (b : SHeap) : Cut := ⟨TP, [], 4, 172, (KC Tryz.f4 500), [(1, .slice o n m), (3, IV p), (6, PP a), (9, .bool q), (10, .pointer c), (12, .pointer l), (13, IV ev), (14, IV k)], ((a, .cells (zL7aa d i g e j h f) 38) :: b)⟩
noncomputable def law2_c1 (s : Int) (q : OA) (p o : Nat) (e : Fct) (k : OA) (j : Nat) (i : OA) (h : Nat) (g : OA) (f : Nat) (m : Int) (a : Nat) (n : Bool) (c l : OA) (d : Int) (b : SHeap) : Cut := ⟨TP, [], 4, 172, (KC Tryz.f4 126), [(3, IV m), (6, PP a), (9, .bool n), (10, .pointer c), (12, .pointer l), (13, IV d)], ((a, .cells (zL7aa e j h f k i g) 38) :: b)⟩
noncomputable def law2_c2 (y : Int) (x : OA) (w u : Nat) (g : Fct) (m : OA) (l : Nat) (k : OA) (j : Nat) (i : OA) (h : Nat) (p : Int) (a : Nat) (q : Bool) (c o : OA) (t : BA) (room : Int) (f : OA) (e d : Nat) (n : Int) (s : Bool) (b : SHeap) : Cut := ⟨TP, [], 4, 172, (KC Tryz.f4 8190), [(3, IV p), (6, PP a), (9, .bool q), (10, .pointer c), (12, .pointer o), (16, .string t), (17, IV room), (18, .slice f e d), (19, IV n), (20, .bool s)], ((a, .cells (zL7aa g l j h m k i) 38) :: b)⟩
noncomputable def law2_c3 (q : Int) (p : OA) (o n : Nat) (c : Fct) (i : OA) (h : Nat) (g : OA) (f : Nat) (e : OA) (d : Nat) (l : Int) (a : Nat) (m : Bool) (k j : Int) (b : SHeap) : Cut := ⟨TP, [], 4, 172, (KC Tryz.f4 8191), [(3, IV l), (6, PP a), (9, .bool m), (17, IV k), (19, IV j)], ((a, .cells (zL7aa c h f d i g e) 38) :: b)⟩
noncomputable def law2_c4 (s : Int) (q : OA) (p o : Nat) (c : Fct) (i : OA) (h : Nat) (g : OA) (f : Nat) (e : OA) (d : Nat) (t : Int) (a : Nat) (n : Bool) (m j : Int) (l : OA) (k : Int) (b : SHeap) : Cut := ⟨TP, [], 4, 172, (KC Tryz.f4 65535), [(6, PP a), (9, .bool n), (17, IV m), (19, IV j), (21, .pointer l), (25, IV k)], ((a, .cells (zL7aa c h f d i g e) 38) :: b)⟩
theorem law2_c0_vc (u : Int) (p : OA) (m o : Nat) (d : Fct) (j : OA) (i : Nat) (h : OA) (g : Nat) (f : OA) (e : Nat) (w : Int) (c : Nat) (x : Bool) (t l : OA) (ev k : Int) (n : SHeap) (H : VP [] w0 R (.hp ((c, .cells (zL7aa d i g e j h f) 38) :: n) fun A => .P 8 42 (k < (m : Int)) (.P 4 46 (k < 20) (.P 4 49 (ev = 0) (.r 8 <| .x2 fun F C => .iP p F C m o 23 k (C + ((Int.toNat k) * 23)) <| .x5 fun cw (b : Fct) m1tp m1tc m1bp => .x3 fun N M G => .lMa A F (C + ((Int.toNat k) * 23)) 23 38 cw [IV b.n, IV b.time, IV b.kind, IV b.story, .string b.lang, IV b.rev, IV b.base, .string b.title, .string b.author, .slice m1tp b.topics.length m1tc, .slice m1bp b.blocks.length N, IV b.lab.unt, .slice M b.lab.after.length G, IV b.lab.appr, IV b.lab.den, IV b.editor, IV b.block, IV b.sentence, .string b.text, .string b.name, IV b.partner, IV b.cls, IV b.unt] <| .cl 0 14 [.agg (zL7aa b m1tc N G m1tp m1bp M)] A <| .x5 fun (a : Fct) r71tp r71tc r71bp r71bc => .x2 fun s q => .rt (.agg (zL7aa a r71tc r71bc q r71tp r71bp s)) A <| .nf 0 (.cells #[IV 0, IV 0, IV 0, IV 0, sZ, IV 0, IV 0, sZ, sZ, .slice none 0 0, .slice none 0 0, IV 0, .slice none 0 0, IV 0, IV 0, IV 0, IV 0, IV 0, sZ, sZ, IV 0, IV 0, IV 0] 38) fun y => .ru [200] <| .cl 4 15 [.pointer l] ((y, .cells (zL7aa a r71tc r71bc q r71tp r71bp s) 38) :: (c, .cells (zL7aa d i g e j h f) 38) :: n) <| .x4 fun U z Q D => .rt (.slice U z Q) ((y, .cells (zL7aa a r71tc r71bc q r71tp r71bp s) 38) :: (c, .cells (zL7aa d i g e j h f) 38) :: D) <| .ru [3,200,3,200] <| .cl 0 16 [.pointer l, .agg #[IV (IntKind.i64.wrap ((z : Int) + 1)), IV a.time, IV a.kind, IV a.story, .string a.lang, IV a.rev, IV a.base, .string a.title, .string a.author, .slice r71tp a.topics.length r71tc, .slice r71bp a.blocks.length r71bc, IV a.lab.unt, .slice s a.lab.after.length q, IV a.lab.appr, IV a.lab.den, IV a.editor, IV a.block, IV a.sentence, .string a.text, .string a.name, IV a.partner, IV a.cls, IV a.unt]] ((y, .cells #[IV (IntKind.i64.wrap ((z : Int) + 1)), IV a.time, IV a.kind, IV a.story, .string a.lang, IV a.rev, IV a.base, .string a.title, .string a.author, .slice r71tp a.topics.length r71tc, .slice r71bp a.blocks.length r71bc, IV a.lab.unt, .slice s a.lab.after.length q, IV a.lab.appr, IV a.lab.den, IV a.editor, IV a.block, IV a.sentence, .string a.text, .string a.name, IV a.partner, IV a.cls, IV a.unt] 38) :: (c, .cells (zL7aa d i g e j h f) 38) :: D) <| .x2 fun V E => .rt (IV V) ((y, .cells #[IV (IntKind.i64.wrap ((z : Int) + 1)), IV a.time, IV a.kind, IV a.story, .string a.lang, IV a.rev, IV a.base, .string a.title, .string a.author, .slice r71tp a.topics.length r71tc, .slice r71bp a.blocks.length r71bc, IV a.lab.unt, .slice s a.lab.after.length q, IV a.lab.appr, IV a.lab.den, IV a.editor, IV a.block, IV a.sentence, .string a.text, .string a.name, IV a.partner, IV a.cls, IV a.unt] 38) :: (c, .cells (zL7aa d i g e j h f) 38) :: E) <| .li 6 14 (IntKind.i64.wrap (k + 1)) fun O => .cT 2 [1] 2 (law2_c0 u p m o d j i h g f e w c x t l ev O E)) <| .cT 3 [0] 1 (law2_c1 u p m o d j i h g f e w c x t l ev n)) <| .cT 7 [0] 1 (law2_c1 u p m o d j i h g f e w c x t l ev n)) <| .cT 11 [0] 1 (law2_c1 u p m o d j i h g f e w c x t l ev n))) : law2_c0 u p m o d j i h g f e w c x t l ev k n w0 R := VC.go Tryz.func4 _ H
theorem law2_c1_vc (t : Int) (s : OA) (q p : Nat) (a : Fct) (g : OA) (f : Nat) (e : OA) (d : Nat) (c : OA) (b : Nat) (A : Int) (h : Nat) (C : Bool) (k i : OA) (G : Int) (D : SHeap) (H : VP [] w0 R (.hp ((h, .cells (zL7aa a f d b g e c) 38) :: D) fun M => .I 5 66 (G = 0) (.re 5 (.bool false) M) <| .cl 5 21 [.pointer k] M <| .x2 fun u E => .rt (.string u) ((h, .cells (zL7aa a f d b g e c) 38) :: E) <| .hp ((h, .cells (zL7aa a f d b g e c) 38) :: E) fun o => .cl 5 23 [.pointer i] o <| .ex fun w => .rt (IV w) o <| .cl 5 15 [.pointer i] o <| .x4 fun y m x F => .rt (.slice y m x) ((h, .cells (zL7aa a f d b g e c) 38) :: F) <| .hp ((h, .cells (zL7aa a f d b g e c) 38) :: F) fun n => .ru [5,200] <| .cl 0 14 [.agg (zL7aa a f d b g e c)] n <| .x5 fun (N : Fct) r131tp r131tc r131bp r131bc => .x2 fun Q O => .rt (.agg (zL7aa N r131tc r131bc O r131tp r131bp Q)) n <| .cl 0 16 [.pointer i, .agg (zL7aa N r131tc r131bc O r131tp r131bp Q)] n <| .x2 fun z j => .rt (IV z) ((h, .cells (zL7aa a f d b g e c) 38) :: j) <| .hp ((h, .cells (zL7aa a f d b g e c) 38) :: j) fun l => .ru [4,200] <| .cl 0 14 [.agg (zL7aa a f d b g e c)] l <| .x5 fun (U : Fct) r151tp r151tc r151bp r151bc => .x2 fun X V => .rt (.agg (zL7aa U r151tc r151bc V r151tp r151bp X)) l <| .cl 0 24 [.agg (zL7aa U r151tc r151bc V r151tp r151bp X)] l <| .ex fun Y => .rt (.bool Y) l <| .B 1 80 Y (.ru [1,200] <| .cT 8 [0] 1 (law2_c2 t s q p a g f e d c b A h C k i u w y m x z (decide (a.n = (IntKind.i64.wrap ((m : Int) + 1)))) j)) <| .cT 10 [0] 1 (law2_c2 t s q p a g f e d c b A h C k i u w y m x z false j))) : law2_c1 t s q p a g f e d c b A h C k i G D w0 R := VC.go Tryz.func4 _ H
theorem law2_c2_vc (p : Int) (o : OA) (n m : Nat) (b : Fct) (h : OA) (g : Nat) (f : OA) (e : Nat) (d : OA) (c : Nat) (q : Int) (a : Nat) (s : Bool) (y l : OA) (C : BA) (room : Int) (V : OA) (z U : Nat) (i : Int) (A : Bool) (t : SHeap) (H : VP [] w0 R (.hp ((a, .cells (zL7aa b g e c h f d) 38) :: t) fun u => .P 5 89 (i = 240) (.B 0 90 A (.re 31 (.bool false) u) <| .I 5 95 (i = 0) (.cl 1 21 [.pointer y] u <| .x2 fun F D => .rt (.string F) ((a, .cells (zL7aa b g e c h f d) 38) :: D) <| .hp ((a, .cells (zL7aa b g e c h f d) 38) :: D) fun j => .sN 3 100 F C (.re 21 (.bool false) j) <| .cl 1 23 [.pointer l] j <| .ex fun G => .rt (IV G) j <| .I 4 106 (G = room) (.re 15 (.bool false) j) <| .cl 1 15 [.pointer l] j <| .x4 fun Y M X w => .rt (.slice Y M X) ((a, .cells (zL7aa b g e c h f d) 38) :: w) <| .I 8 115 ((M : Int) = (z : Int)) (.re 5 (.bool false) ((a, .cells (zL7aa b g e c h f d) 38) :: w)) <| .cT 2 [0] 1 (law2_c3 p o n m b h g f e d c q a s room i w)) <| .cT 23 [0] 1 (law2_c3 p o n m b h g f e d c q a s room i t)) <| .B 0 90 A (.I 5 95 (i = 0) (.cl 1 21 [.pointer y] u <| .x2 fun N E => .rt (.string N) ((a, .cells (zL7aa b g e c h f d) 38) :: E) <| .hp ((a, .cells (zL7aa b g e c h f d) 38) :: E) fun k => .sN 3 100 N C (.re 21 (.bool false) k) <| .cl 1 23 [.pointer l] k <| .ex fun O => .rt (IV O) k <| .I 4 106 (O = room) (.re 15 (.bool false) k) <| .cl 1 15 [.pointer l] k <| .x4 fun a0 Q Z x => .rt (.slice a0 Q Z) ((a, .cells (zL7aa b g e c h f d) 38) :: x) <| .I 8 115 ((Q : Int) = (z : Int)) (.re 5 (.bool false) ((a, .cells (zL7aa b g e c h f d) 38) :: x)) <| .cT 2 [0] 1 (law2_c3 p o n m b h g f e d c q a s room i x)) <| .cT 23 [0] 1 (law2_c3 p o n m b h g f e d c q a s room i t)) <| .re 31 (.bool false) u)) : law2_c2 p o n m b h g f e d c q a s y l C room V z U i A t w0 R := VC.go Tryz.func4 _ H
theorem law2_c3_vc (p : Int) (o : OA) (n m : Nat) (b : Fct) (h : OA) (g : Nat) (f : OA) (e : Nat) (d : OA) (c : Nat) (j : Int) (a : Nat) (u : Bool) (t l : Int) (k : SHeap) (H : VP [] w0 R (.hp ((a, .cells (zL7aa b g e c h f d) 38) :: k) fun i => .cl 7 17 [IV j, IV 63] i <| .ex fun q => .rt (IV q) i <| .cl 1 11 [IV (IntKind.i64.wrap (1 + q))] i <| .x3 fun (s : OA) r261 F16 => .rt (.tuple #[.pointer s, IV r261]) ((a, .cells (zL7aa b g e c h f d) 38) :: F16) <| .cl 9 13 [.pointer s] ((a, .cells (zL7aa b g e c h f d) 38) :: F16) <| .x3 fun (w : OA) r281 F17 => .rt (.tuple #[.pointer w, IV r281]) ((a, .cells (zL7aa b g e c h f d) 38) :: F17) <| .cT 6 [0] 1 (law2_c4 p o n m b h g f e d c j a u t l none r281 F17))) : law2_c3 p o n m b h g f e d c j a u t l k w0 R := VC.go Tryz.func4 _ H
theorem law2_c4_vc (Q : Int) (O : OA) (N M : Nat) (b : Fct) (h : OA) (g : Nat) (f : OA) (e : Nat) (d : OA) (c : Nat) (X : Int) (i : Nat) (G : Bool) (F p : Int) (j : OA) (q : Int) (l : SHeap) (H : VP [] w0 R (.hp ((i, .cells (zL7aa b g e c h f d) 38) :: l) fun k => .B 4 129 G (.P 4 133 (q = 240) (.ru [1,200] <| .cl 0 16 [.pointer j, .agg (zL7aa b g e c h f d)] k <| .x2 fun u m => .rt (IV u) ((i, .cells (zL7aa b g e c h f d) 38) :: m) <| .hp ((i, .cells (zL7aa b g e c h f d) 38) :: m) fun s => .P 3 139 (u = 1) (.cl 1 25 [.pointer j] s <| .x2 fun w n => .rt (IV w) ((i, .cells (zL7aa b g e c h f d) 38) :: n) <| .hp ((i, .cells (zL7aa b g e c h f d) 38) :: n) fun t => .P 3 144 (w = 1) (.cl 1 15 [.pointer j] t <| .x4 fun V x U o => .rt (.slice V x U) ((i, .cells (zL7aa b g e c h f d) 38) :: o) <| .hp ((i, .cells (zL7aa b g e c h f d) 38) :: o) fun a => .P 4 150 ((x : Int) = 0) (.cl 1 23 [.pointer j] a <| .ex fun y => .rt (IV y) a <| .P 3 155 (y = 0) (.cl 1 26 [.pointer j] a <| .ex fun z => .rt (IV z) a <| .P 3 160 (z = 0) (.I 3 163 (p = 241) (.re 10 (.bool true) a) <| .ru [1,200] <| .cl 0 14 [.agg (zL7aa b g e c h f d)] a <| .x5 fun (A : Fct) r351tp r351tc r351bp r351bc => .x2 fun D C => .rt (.agg (zL7aa A r351tc r351bc C r351tp r351bp D)) a <| .cl 0 19 [.agg (zL7aa A r351tc r351bc C r351tp r351bp D)] a <| .ex fun E => .rt (.string E) a <| .re 6 (.bool (decide (F < (E.size : Int)))) a) <| .re 13 (.bool false) a) <| .re 18 (.bool false) a) <| .re 23 (.bool false) a) <| .re 29 (.bool false) t) <| .re 34 (.bool false) s) <| .re 40 (.bool false) k) <| .re 44 (.bool false) k)) : law2_c4 Q O N M b h g f e d c X i G F p j q l w0 R := VC.go Tryz.func4 _ H
theorem law2_vc (i : Int) (n : OA) (m l : Nat) (a : Fct) (g : OA) (f : Nat) (e : OA) (d : Nat) (c : OA) (b : Nat) (s : Int) (k : SHeap) (hm : Mem (k) [] w0 W) (H : VP [] w0 R (.nf 2 (.cells (zL7aa a f d b g e c) 38) fun B => .hp ((B, .cells (zL7aa a f d b g e c) 38) :: k) fun h => .cl 4 10 [] h <| .ex fun o => .rt (.bool o) h <| .cl 5 12 [IV i] h <| .ex fun p => .rt (IV p) h <| .cl 0 11 [IV p] h <| .x3 fun (j : OA) r41 F1 => .rt (.tuple #[.pointer j, IV r41]) ((B, .cells (zL7aa a f d b g e c) 38) :: F1) <| .cl 9 13 [.pointer j] ((B, .cells (zL7aa a f d b g e c) 38) :: F1) <| .x3 fun (q : OA) r61 F2 => .rt (.tuple #[.pointer q, IV r61]) ((B, .cells (zL7aa a f d b g e c) 38) :: F2) <| .cT 13 [0] 1 (law2_c0 i n m l a g f e d c b s B o j q r61 0 F2))) : Calls TP 4 ⟨[IV i, .slice n m l, .agg (zL7aa a f d b g e c), IV s]⟩ W R := VC.cs Tryz.func4 hm _ H
section nil
variable {f : Fct} {tp bp ap : Option Addr} {tc bc ac : Nat}
theorem appendN_c : PureC TP 16 ⟨[.pointer none, .agg ⟨f.cells tp tc bp bc ap ac⟩]⟩ (.int .i64 1) := fun W => jAppendN_vc f tp tc bp bc ap ac (Mem.start [] W) fun B => finPure rfl
theorem checkN_c : PureC TP 25 ⟨[.pointer none]⟩ (.int .i64 1) := fun W => jCheckN_vc (Mem.start [] W) (finPure rfl)
theorem factsN_c : PureC TP 15 ⟨[.pointer none]⟩ (.slice none 0 0) := fun W => jFactsN_vc (Mem.start [] W) (finPure rfl)
theorem roomN_c : PureC TP 23 ⟨[.pointer none]⟩ (.int .i64 0) := fun W => jRoomN_vc (Mem.start [] W) (finPure rfl)
theorem genN_c : PureC TP 26 ⟨[.pointer none]⟩ (.int .i64 0) := fun W => jGenN_vc (Mem.start [] W) (finPure rfl)
end nil
section l2
variable {w0 : World} {n small : Int} {lp : Option Addr} {ll lc JB D B : Nat} {f : Fct} {tp bp ap : Option Addr} {tc bc ac : Nat} {R : List UInt8} {m : JM} {d : DS} {F : SHeap} {room g : Int}
theorem l2_c4 (M : FAt (lkW w0) f tp tc bp bc ap ac) (Z : g = 241 → (cutF f).ok = true ∧ room < ((recL (cutF f)).length : Int)) :
  law2_c4 n lp ll lc f tp tc bp bc ap ac small B true room g none 240 F w0 (RT w0) := by
 apply law2_c4_vc
 refine tt rfl (yes rfl (CallH.pure appendN_c ⟨_, _, rfl, rfl, yes rfl (CallH.pure checkN_c ⟨_, _, rfl, rfl, yes rfl (CallH.pure factsN_c ⟨_, _, _, _, rfl, rfl, yes rfl (CallH.pure roomN_c ⟨_, rfl, rfl, yes rfl (CallH.pure genN_c ⟨_, rfl, rfl, yes rfl ⟨fun h => finPW rfl, fun h => ?_⟩⟩)⟩)⟩)⟩)⟩))
 obtain ⟨O, V⟩ := Z h
 refine CallH.pure (few24_c M.cb) ⟨cutF f, tp, tc, bp, bc, ap, ac, rfl, rfl, CallH.pw (fun a1 a0 => qRec_c (cutF_at (M.mono (lkW_kept a0))) O) ⟨_, rfl, rfl, finPW ?_⟩⟩
 rw [ba_size, decide_eq_true V]
theorem openM_small {k : Nat} (M : k < 64) : openM (DS.new k) = (240, none, DS.new k) := by
 have O : (DS.new k).vis.length = k := List.length_replicate
 rw [openM, if_pos (by rw [O]; exact M)]
theorem l2_c3 (a1 : i64 small) (a0 : blkW w0 0 = some tabV) (V : FAt (lkW w0) f tp tc bp bc ap ac) (Z : g = 241 → (cutF f).ok = true ∧ room < ((recL (cutF f)).length : Int)) :
  law2_c3 n lp ll lc f tp tc bp bc ap ac small B true room g F w0 (RT w0) := by
 apply law2_c3_vc
 have hp := Nat.mod_lt (pickN small) (show 63 > 0 by decide)
 refine CallH.pure (pick24_c small 63 a1 (by decide)) ⟨_, rfl, rfl, ?_⟩
 rw [show IntKind.i64.wrap ((1 : Int) + ((pickN small % 63 : Nat) : Int)) = ((1 + pickN small % 63 : Nat) : Int) by rw [wi64 (by omega)]; omega]
 refine CallH.eff (L0 := []) (L1 := [_] ++ F) (New_e (N := 1 + pickN small % 63) rfl (by omega) (by omega)) (List.Perm.refl _) ?_
 rintro _ M ⟨D, rfl, O⟩
 refine ⟨[_] ++ (M ++ F), List.perm_append_comm_assoc _ _ _, _, _, _, rfl, rfl, CallH.opn [_] (List.Perm.refl _) O (by show 0 < 900000; decide) a0 ?_⟩
 rw [openM_small (k := 1 + pickN small % 63) (by omega)]
 rintro _ a2 X a3 rfl
 exact ⟨_, _, _, rfl, rfl, l2_c4 V Z⟩
theorem l2_c2 {a3 : BA} {a6 : OA} {Z a5 : Nat} {V : Bool} (b5 : i64 small) (b3 : blkW w0 0 = some tabV) (b0 : FAt (lkW w0) f tp tc bp bc ap ac) (b1 : g = 241 → (cutF f).ok = true ∧ room < ((recL (cutF f)).length : Int))
  (b4 : JD JB D m d F) (a1 : Clean R m d) (b6 : (g = 240 ∧ V = false) ∨ (g ≠ 240 ∧ V = true)) (a2 : g ≠ 0 → a3 = ⟨d.vis.toArray⟩ ∧ room = ((m.sz - m.en : Nat) : Int) ∧ Z = m.fs.length) :
  law2_c2 n lp ll lc f tp tc bp bc ap ac small B true (SO D) (SO JB) a3 room a6 Z a5 g V F w0 (RT w0) := by
 apply law2_c2_vc
 have hm := a1.mok
 have next : ∀ G, law2_c3 n lp ll lc f tp tc bp bc ap ac small B true room g G w0 (RT w0) := fun G => l2_c3 b5 b3 b0 b1
 obtain ⟨F0, p, c, T, b7, b8, b9⟩ := b4
 have go : ∀ {K : Value → SHeap → Prop} (x : Nat × Obj), (∀ M, JD JB D m d M → K (.string ⟨d.vis.toArray⟩) (x :: M)) → CallH TP 21 ⟨[pt D 0]⟩ (x :: F) [] w0 K := fun x a7 =>
  CallH.dsk [x] (b7.trans pq3) (content_e b8 a1.on) fun M a9 => a7 _ (JD.re (X := []) (N := []) a9 b9)
 rcases b6 with ⟨rfl, rfl⟩ | ⟨h240, rfl⟩
 ·obtain ⟨rfl, rfl, rfl⟩ := a2 (by decide)
  refine yes rfl (ff rfl (no' (by decide) ?_))
  refine go _ fun M O => ⟨_, _, rfl, rfl, yes' rfl (CallH.room [_] O hm ⟨_, rfl, rfl, yes' rfl (CallH.facts [_] O hm fun p1 c1 a4 a8 => ⟨_, _, _, _, rfl, rfl, yes' rfl (next _)⟩)⟩)⟩
 ·refine no h240 (tt rfl ⟨fun a0 => ?_, fun a0 => next _⟩)
  obtain ⟨rfl, rfl, rfl⟩ := a2 a0
  refine go _ fun M O => ⟨_, _, rfl, rfl, yes' rfl (CallH.room [_] O hm ⟨_, rfl, rfl, yes' rfl (CallH.facts [_] O hm fun p1 c1 a4 a8 => ⟨_, _, _, _, rfl, rfl, yes' rfl (next _)⟩)⟩)⟩
theorem l2_c1 (a2 : i64 small) (Z : blkW w0 0 = some tabV) (M : FAt (lkW w0) f tp tc bp bc ap ac) (a8 : JD JB D m d F) (V : Clean R m d) (a6 : d.cut = 0) :
  law2_c1 n lp ll lc f tp tc bp bc ap ac small B true (SO D) (SO JB) 0 F w0 (RT w0) := by
 apply law2_c1_vc
 have hm := V.mok
 have b7 := hm.len
 obtain ⟨F0, p, c, T, b1, b3, b4⟩ := a8
 refine yes' rfl (CallH.dsk [_] (b1.trans pq3) (content_e b3 V.on) fun a3 a7 => ⟨_, _, rfl, rfl, ?_⟩)
 have a1 : JD JB D m d (a3 ++ (jH JB D (m.js p c) :: T)) := JD.re (X := []) (N := []) a7 b4
 generalize a3 ++ (jH JB D (m.js p c) :: T) = G at *
 refine CallH.room [_] a1 hm ⟨_, rfl, rfl, CallH.facts [_] a1 hm fun p1 c1 N b6 => ⟨_, _, _, _, rfl, rfl, CallH.pure (few24_c M.cb) ⟨cutF f, tp, tc, bp, bc, ap, ac, rfl, rfl, ?_⟩⟩⟩
 refine CallH.appA (f := cutF f) (N := N) [_] rfl (List.Perm.refl _) a1 hm (by rw [V.pend]; decide) Z (cutF_at M) fun L' a0 => ⟨_, _, rfl, rfl, ?_⟩
 refine CallH.pure (few24_c M.cb) ⟨cutF f, tp, tc, bp, bc, ap, ac, rfl, rfl, CallH.pw (fun b5 a9 => fValid_c (cutF_at (M.mono (lkW_kept a9)))) ⟨_, rfl, rfl, ?_⟩⟩
 have hn : (cutF f).n = f.n := rfl
 have b0 : IntKind.i64.wrap ((m.fs.length : Int) + (1 : Int)) = ((m.fs.length + 1 : Nat) : Int) := by rw [wi64 (by omega)]; omega
 rw [b0]
 have a5 := append_out V (cutF f)
 generalize appendM m d (cutF f) = r at a5 a0 ⊢
 cases a5 with
 | no e he =>
  have a4 : e = 241 → (cutF f).ok = true ∧ ((m.sz - m.en : Nat) : Int) < ((recL (cutF f)).length : Int) := fun h => by
   rcases he with ⟨h1, _⟩ | ⟨_, h1, _, h2⟩
   ·omega
   ·exact ⟨h1, by omega⟩
  refine ⟨fun O => l2_c2 a2 Z M a4 (a0.more N) V ?_ fun _ => ⟨rfl, rfl, rfl⟩, fun O => l2_c2 a2 Z M a4 (a0.more N) V (.inl ⟨?_, rfl⟩) fun _ => ⟨rfl, rfl, rfl⟩⟩
  ·rcases he with ⟨h1, h2 | h2⟩ | ⟨h1, _, h2, _⟩
   ·rw [O] at h2; cases h2
   ·exact .inl ⟨h1, decide_eq_false h2⟩
   ·exact .inr ⟨by omega, decide_eq_true h2⟩
  ·rcases he with ⟨h1, _⟩ | ⟨_, h2, _⟩
   ·exact h1
   ·rw [O] at h2; cases h2
 | yes d' hok hn' h hl hc' =>
  refine ⟨fun O => l2_c2 a2 Z M (fun h => by cases h) (a0.more N) h (.inr ⟨show (0 : Int) ≠ 240 by decide, decide_eq_true hn'⟩) fun h => absurd rfl h, fun O => ?_⟩
  rw [hok] at O; cases O
 | pow d' _ hc' _ => exact absurd a6 hc'
theorem l2_loop {l : List Fct} (V : i64 small) (M : blkW w0 0 = some tabV) (O : FAt (lkW w0) f tp tc bp bc ap ac) (a4 : SlAt (lkW w0) 23 (FctLc (lkW w0)) lp l) :
  ∀ (g i : Nat) (m : JM) (d : DS) (F : SHeap), g + i = 20 → JD JB D m d F → Clean R m d → d.cut = 0 → law2_c0 n lp l.length lc f tp tc bp bc ap ac small B true (SO D) (SO JB) 0 (i : Int) F w0 (RT w0)
 | 0, i, m, d, F, hgi, hj, hc, h0 => by
  apply law2_c0_vc
  exact ⟨fun _ => no (by omega) (l2_c1 V M O hj hc h0), fun _ => l2_c1 V M O hj hc h0⟩
 | g + 1, i, m, d, F, hgi, hj, hc, h0 => by
  apply law2_c0_vc
  have ih := l2_loop V M O a4 g (i + 1)
  refine ⟨fun hi => yes (by omega) (yes rfl ?_), fun _ => l2_c1 V M O hj hc h0⟩
  have hi : i < l.length := by omega
  have hm := hc.mok
  have b6 := hm.len
  have b0 : IntKind.i64.wrap ((i : Int) + 1) = ((i + 1 : Nat) : Int) := by rw [wi64 (by omega)]; omega
  obtain ⟨b, o, cs, rfl, b1, b3, a9, a8, a3, a2, a1, a0, b4, a7⟩ := a4.get hi
  refine ⟨b, o, rfl, by omega, cs, l[i], a9, a8, a3, a2, a1, a0, .inr b1, ⟨by simpa using b4, by simpa using b3⟩, CallH.pure (few24_c a7.cb) ⟨cutF l[i], a9, a8, a3, a2, a1, a0, rfl, rfl, ?_⟩⟩
  have a6 := cutF_at a7.at
  generalize cutF l[i] = z at a6 ⊢
  intro B2
  refine CallH.facts [_, _] hj hm fun p c N b5 => ⟨_, _, _, _, rfl, rfl, ?_⟩
  refine CallH.appA (f := { z with n := IntKind.i64.wrap ((m.fs.length : Int) + (1 : Int)) }) (N := N) [_, _] rfl (List.Perm.refl _) hj hm (by rw [hc.pend]; decide) M (numF_at a6 _) fun F' Z => ⟨_, _, rfl, rfl, ?_⟩
  rintro _ rfl
  rw [b0]
  have a5 := append_out hc { z with n := IntKind.i64.wrap ((m.fs.length : Int) + (1 : Int)) }
  generalize appendM m d _ = r at a5 Z
  cases a5 with
  | no e he => exact ih m d _ (by omega) (Z.more N) hc h0
  | yes d' _ _ h hl' hc' => exact ih _ d' _ (by omega) (Z.more N) h (hc' h0)
  | pow d' _ hc' _ => exact absurd h0 hc'
theorem jrn2 {W : World} {l : List Fct} (hn : i64 n) (a3 : i64 small) (M : blkW W 0 = some tabV) (a1 : FArg (lkW W) f tp tc bp bc ap ac) (Z : SlAt (lkW W) 23 (FctLc (lkW W)) lp l) :
  PW TP 4 ⟨[.int .i64 n, .slice lp l.length lc, .agg ⟨f.cells tp tc bp bc ap ac⟩, .int .i64 small]⟩ W (.bool true) := by
 obtain ⟨V, b2⟩ := sizeN_bounds n
 refine law2_vc n lp l.length lc f tp tc bp bc ap ac small [] (Mem.start [] W) fun B => CallH.sane24 M ⟨_, rfl, rfl, CallH.pure (size24_c n hn) ⟨_, rfl, rfl, ?_⟩⟩
 refine CallH.eff (L0 := []) (L1 := [_] ++ []) (New_e (N := sizeN n) rfl (by omega) b2) (List.Perm.refl _) ?_
 rintro _ O ⟨D, rfl, a0⟩
 obtain ⟨a5, o1, c1, k1, n1⟩ := openM_new' V b2
 refine ⟨[_] ++ (O ++ []), List.perm_append_comm_assoc _ _ _, _, _, _, rfl, rfl, CallH.opn [_] (List.Perm.refl _) a0 (by show 0 < 900000; decide) M ?_⟩
 rw [o1]
 rintro _ a4 X a6 ⟨JB, rfl, a2⟩
 exact ⟨_, _, _, rfl, rfl, l2_loop a3 M a1.at Z 20 0 _ _ _ rfl a2 c1 k1⟩
end l2
end Go.Eng
