/- A part of the proof: the engine by which functions are walked, verification conditions that a program of the prover wrote, contracts and plain laws; no claim of its own. -/
import Derived.Test.YtfobdgoklnhebaaGreatDoorChecked
import Derived.Test.YtfobdgoklnhebaaGreatDoorReoF
set_option linter.unusedVariables false
set_option linter.unusedSimpArgs false
namespace Go.Eng
open Go Go.RowKit Go.Proofs Wire
def SRow (JB D : Nat) (ops : List DOp) (p : OA) (c : Nat) (G : SHeap) : Prop :=
 ops.length ≤ c ∧ ((p = none ∧ c = 0 ∧ ops = []) ∨ ∃ Q cs G0, p = some ⟨Q, 0, none⟩ ∧ G.Perm ((Q, .cells ⟨cs⟩ 53) :: G0) ∧ cs.length = c ∧ ∀ i (h : i < ops.length), ∃ v, cs[i]? = some v ∧ StepAt G0 JB D ops[i] v)
theorem SRow.nil0 {JB D : Nat} {G : SHeap} : SRow JB D [] none 0 G := ⟨Nat.le_refl _, .inl ⟨rfl, rfl, rfl⟩⟩
theorem SRow.push {JB D : Nat} {ops os : List DOp} {p : OA} {c n : Nat} {G X Y L : SHeap} {S : List Nat} {w0 : World} {vs : List Value} (h : SRow JB D ops p c G) (hn : ops.length = n) (hl : n ≤ 1000) (hv : os.length = vs.length) (h0 : 0 < vs.length) (h9 : vs.length ≤ 1000) (hs : ∀ i (h : i < os.length), StepAt X JB D os[i] (vs[i]'(by omega))) (hp : L.Perm (X ++ (G ++ Y))) {m : Nat} (hm : m = vs.length) :
  AppN TP 1 92 92 (.slice p n c) m vs L S w0 (fun v L' => ∃ p' c' N, v = .slice p' (n + m) c' ∧ L'.Perm (N ++ Y) ∧ SRow JB D (ops ++ os) p' c' N) := by
 subst hn hm
 obtain ⟨h1, ⟨rfl, rfl, rfl⟩ | ⟨Q, cs, G0, rfl, h2, h3, h4⟩⟩ := h
 ·refine (AppN.nil (T := 92) (E := 53) (z := .nilFunc) (sz := 1) (bytes := 8) (by kernel_rfl) (by kernel_rfl) rfl h0 (by omega)).mono ?_
  rintro _ _ ⟨B, cap, r, rfl, q1, q2, rfl⟩
  refine ⟨some ⟨B, 0, none⟩, cap, (B, .cells ⟨vs ++ r⟩ 53) :: (X ++ G), by rw [List.length_nil, Nat.zero_add], ?_, ⟨by simpa [hv] using q1, .inr ⟨B, _, X ++ G, rfl, List.Perm.refl _, by omega, fun i hi => ?_⟩⟩⟩
  ·exact List.perm_append_comm.trans ((List.Perm.cons _ hp).trans perm_as1)
  ·simp only [List.nil_append] at hi ⊢
   exact ⟨vs[i]'(by omega), by rw [List.getElem?_append_left (by omega), List.getElem?_eq_getElem], (hs i hi).mono fun x hx => List.mem_append_left _ hx⟩
 ·have hp2 : L.Perm ((Q, .cells ⟨cs⟩ 53) :: (X ++ (G0 ++ Y))) := hp.trans (((h2.append_right Y).append_left X).trans List.perm_middle)
  refine (AppN.row (E := 53) (z := .nilFunc) (sz := 1) (bytes := 8) (by kernel_rfl) (by kernel_rfl) rfl hp2 ⟨h1, by omega⟩ h0 (by omega)).mono ?_
  rintro _ _ ⟨B, cap, r, rfl, q1, q2, hB⟩
  have hst : ∀ i (h : i < (ops ++ os).length), ∃ v, (cs.take (ops.length * 1) ++ vs ++ r)[i]? = some v ∧ StepAt (X ++ G0) JB D (ops ++ os)[i] v := by
   intro i hi
   rw [List.length_append] at hi
   have hcl : (cs.take (ops.length * 1)).length = ops.length := by rw [List.length_take]; omega
   rcases Nat.lt_or_ge i ops.length with hlt | hge
   ·obtain ⟨v, k1, k2⟩ := h4 i hlt
    refine ⟨v, ?_, ?_⟩
    ·rw [List.append_assoc, List.getElem?_append_left (by omega), List.getElem?_take_of_lt (by omega)]; exact k1
    ·rw [List.getElem_append_left hlt]; exact k2.mono fun x hx => List.mem_append_right _ hx
   ·refine ⟨vs[i - ops.length]'(by omega), ?_, ?_⟩
    ·rw [List.append_assoc, List.getElem?_append_right (by omega), hcl, List.getElem?_append_left (by omega), List.getElem?_eq_getElem]
    ·rw [List.getElem_append_right hge]; exact (hs _ (by omega)).mono fun x hx => List.mem_append_left _ hx
  rcases hB with ⟨rfl, rfl, rfl⟩ | rfl
  ·exact ⟨some ⟨B, 0, none⟩, cap, (B, .cells ⟨cs.take (ops.length * 1) ++ vs ++ r⟩ 53) :: (X ++ G0), rfl, perm_as1, ⟨by rw [List.length_append, hv]; exact q1, .inr ⟨B, _, X ++ G0, rfl, List.Perm.refl _, by omega, hst⟩⟩⟩
  ·refine ⟨some ⟨B, 0, none⟩, cap, (B, .cells ⟨cs.take (ops.length * 1) ++ vs ++ r⟩ 53) :: (Q, .cells ⟨cs⟩ 53) :: (X ++ G0), rfl, perm_as2, ⟨by rw [List.length_append, hv]; exact q1, .inr ⟨B, _, (Q, .cells ⟨cs⟩ 53) :: (X ++ G0), rfl, List.Perm.refl _, by omega, fun i hi => ?_⟩⟩⟩
   obtain ⟨v, k1, k2⟩ := hst i hi
   exact ⟨v, k1, k2.mono fun x hx => List.mem_cons_of_mem _ hx⟩
def dirtyOp (k sz fr : Nat) (img : List UInt8) : List DOp := if (img.drop fr).all (fun b => b == 0) = true then [] else [.write ((k * sz + fr : Nat) : Int) (ba (zs (img.length - fr)))]
def syncIf (ops : List DOp) : List DOp := if ops.length = 0 then [] else ops ++ [.sync]
def cleanOps (gen : Int) (cu en sz : Nat) (i0 i1 : List UInt8) : List DOp :=
 syncIf (if cu = 0 then (if gen = 0 then dirtyOp 0 sz en i0 ++ dirtyOp 1 sz 0 i1 else dirtyOp 1 sz 0 i1 ++ dirtyOp 0 sz en i0) else dirtyOp 0 sz 0 i0 ++ dirtyOp 1 sz en i1)
theorem scan_ind {rest : BA} {P : Nat → Prop} (hit : (bts rest).all (fun b => b == 0) = false → ∀ t, t < rest.size → ¬ bat rest (t : Int) = 0 → P t) (go : ∀ t, t < rest.size → bat rest (t : Int) = 0 → P (t + 1) → P t) (miss : (bts rest).all (fun b => b == 0) = true → P rest.size) : P 0 := by
 have key : ∀ g t, g + t = rest.size → (∀ i, i < t → bat rest (i : Int) = 0) → P t := by
  intro g
  induction g with
  | zero =>
   intro t hg h
   obtain rfl : t = rest.size := by omega
   refine miss (List.all_eq_true.2 fun b hb => ?_)
   obtain ⟨i, hi, rfl⟩ := List.mem_iff_getElem.1 hb
   simpa using (bat_zero hi).1 (h i (by rw [bts_len] at hi; exact hi))
  | succ g ih =>
   intro t hg h
   by_cases hb : bat rest (t : Int) = 0
   ·exact go t (by omega) hb (ih (t + 1) (by omega) fun i hi => by
     rcases Nat.lt_or_ge i t with h1 | h1
     ·exact h i h1
     ·obtain rfl : i = t := by omega
      exact hb)
   ·refine hit ?_ t (by omega) hb
    have hl : t < (bts rest).length := by rw [bts_len]; omega
    rw [Bool.eq_false_iff]
    intro hall
    have := List.all_eq_true.1 hall _ (List.getElem_mem hl)
    exact hb ((bat_zero hl).2 (by simpa using this))
 exact key rest.size 0 (by omega) fun i hi => absurd hi (by omega)
section perms
variable (x y z q u : Nat × Obj) (A F T X Z N G Y : SHeap)
theorem pl1 (hp : F.Perm (G ++ Y)) : (q :: x :: y :: z :: (X ++ F)).Perm (X ++ (G ++ (q :: x :: y :: z :: Y))) := perm_of fun c w h1 h2 h3 h4 => by
 have := h4 _ _ hp
 simp only [h1, h2, h3] at this ⊢; omega
theorem pl2 : (N ++ (q :: x :: y :: z :: Y)).Perm (x :: y :: z :: (N ++ (q :: Y))) := perm_a
theorem pl3 : ((x :: X) ++ (y :: z :: F)).Perm (x :: y :: z :: (X ++ F)) := perm_a
theorem pl4 (hp : F.Perm (N ++ Y)) : (x :: y :: z :: F).Perm (x :: (N ++ (y :: z :: Y))) := perm_of fun c w h1 h2 h3 h4 => by
 have := h4 _ _ hp
 simp only [h1, h2, h3] at this ⊢; omega
end perms
def ClnK (JB D : Nat) (m : JM) (p : OA) (c : Nat) (T : SHeap) (ops : List DOp) (v : Value) (L' : SHeap) : Prop :=
 ∃ q qc N Y, v = .slice q ops.length qc ∧ L'.Perm (jH JB D (m.js p c) :: (N ++ (Y ++ T))) ∧ SRow JB D ops q qc N
section cln
variable {JB D : Nat} {m : JM} {p : Option Addr} {c : Nat} {T : SHeap} {S : List Nat} {w0 : World} (y z : Nat × Obj)
theorem clean_hit {k fr : Nat} {rest : BA} {ops : List DOp} {q : OA} {qc n : Nat} {F G Y : SHeap} {NEXT : OA → Nat → SHeap → Prop} (hk : k ≤ 1) (hz : m.sz ≤ 2097152) (hfr : fr ≤ 2097152) (hr : rest.size ≤ 2097152) (hp : F.Perm (G ++ (Y ++ T))) (hs : SRow JB D ops q qc G) (hn : ops.length = n) (hl : n ≤ 10)
    (next : ∀ ap ac F' G' Y', F'.Perm (G' ++ (Y' ++ T)) → SRow JB D (ops ++ [.write ((k * m.sz + fr : Nat) : Int) (ba (zs rest.size))]) ap ac G' → NEXT ap ac F') :
    ∃ (r1 : Int), (QCallB TP 44 ⟨[pt JB 0, .int .i64 (k : Int)]⟩ [jH JB D (m.js p c), y, z] S w0 (.int .i64 r1)) ∧
          ∃ (r21 : BA), (QCallB TP 70 ⟨[.int .i64 (rest.size : Int)]⟩ [jH JB D (m.js p c), y, z] S w0 (.string r21)) ∧
          CallH TP 69 ⟨[pt JB 0, .int .i64 (IntKind.i64.wrap (r1 + (fr : Int))), .string r21]⟩ (jH JB D (m.js p c) :: y :: z :: F) S w0 (fun v L' => ∃ (kj : Nat) (ko : Nat) (ks : Nat) (F3 : SHeap), v = jcloV kj ko ks ∧ L' = (jH JB D (m.js p c) :: y :: z :: F3) ∧
            ∀ B9 : Nat,
            AppN TP 1 92 92 (.slice q n qc) (1) [jcloV kj ko ks] ((B9, .cells #[jcloV kj ko ks] 53) :: jH JB D (m.js p c) :: y :: z :: F3) S w0 (fun v L' => ∃ (ap : OA) (ac : Nat) (F4 : SHeap), v = (.slice ap (n + 1) ac) ∧ L' = (jH JB D (m.js p c) :: y :: z :: F4) ∧ NEXT ap ac F4)) := by
  have hks : k * m.sz ≤ 1 * 2097152 := Nat.mul_le_mul hk hz
  refine ⟨((k * m.sz : Nat) : Int), QCallB.pw fun W' hm' => start_pw (m := m) (hm'.here _ List.mem_cons_self) hk (by omega), ba (zs rest.size), QCallB.of (zeros_c rest.size (by omega)), ?_⟩
  have ew : IntKind.i64.wrap (((k * m.sz : Nat) : Int) + (fr : Int)) = ((k * m.sz + fr : Nat) : Int) := by rw [wi64 (by omega)]; omega
  rw [ew]
  refine CallH.eff (L0 := [jH JB D (m.js p c)]) (L1 := y :: z :: F) (jwrite_e (j := m.js p c) (D := D)) (List.Perm.refl _) ?_
  rintro _ _ ⟨kj, ko, ks, rfl, rfl⟩
  refine ⟨_, pl3 _ _ _ _ _, kj, ko, ks, _, rfl, rfl, fun B9 => ?_⟩
  refine (SRow.push (os := [.write ((k * m.sz + fr : Nat) : Int) (ba (zs rest.size))]) (vs := [jcloV kj ko ks]) hs hn (by omega) rfl (by simp) (by simp) (fun i hi => ?_) (pl1 _ _ _ _ _ (jcloX JB kj ko ks _ _) _ _ hp) rfl).monoP ?_
  · match i, hi with
    | 0, _ => exact jclo_at fun x hx => hx
  · rintro _ L2 ⟨p', c', N, rfl, hp2, hN⟩
    exact ⟨_, hp2.trans (pl2 _ _ _ _ _ _), p', c', _, rfl, rfl, next p' c' _ N ((B9, .cells #[jcloV kj ko ks] 53) :: Y) (List.Perm.refl _) hN⟩
theorem clean_fin {ops : List DOp} {q : OA} {qc n : Nat} {F G Y : SHeap} (hp : F.Perm (G ++ (Y ++ T))) (hs : SRow JB D ops q qc G) (hn : ops.length = n) (hl : n ≤ 10) :
    (((0 : Int) < (n : Int)) →
          ∀ B19 : Nat,
          AppN TP 1 92 92 (.slice q n qc) (1) [.func (.func 68) #[pt D 0] #[]] ((B19, .cells #[.func (.func 68) #[pt D 0] #[]] 53) :: jH JB D (m.js p c) :: y :: z :: F) S w0 (fun v L' => ∃ (ap4 : OA) (ac4 : Nat) (F12 : SHeap), v = (.slice ap4 (n + 1) ac4) ∧ L' = (jH JB D (m.js p c) :: y :: z :: F12) ∧
            Fin (fun e W' => ∃ v L', e = .returned v ∧ Mem L' S w0 W' ∧ ClnK JB D m p c T (syncIf ops) v L') (jH JB D (m.js p c) :: y :: z :: F12) S w0 (.slice ap4 (n + 1) ac4))) ∧
         ((¬ ((0 : Int) < (n : Int))) →
          Fin (fun e W' => ∃ v L', e = .returned v ∧ Mem L' S w0 W' ∧ ClnK JB D m p c T (syncIf ops) v L') (jH JB D (m.js p c) :: y :: z :: F) S w0 (.slice q n qc)) := by
  refine ⟨fun h B19 => ?_, fun h => ?_⟩
  · have e : syncIf ops = ops ++ [.sync] := if_neg (by omega)
    refine (SRow.push (os := [.sync]) (X := []) (vs := [.func (.func 68) #[pt D 0] #[]]) hs hn (by omega) rfl (by simp) (by simp) (fun i hi => ?_) (pl1 _ _ _ _ _ [] _ _ hp) rfl).monoP ?_
    · match i, hi with
      | 0, _ => exact rfl
    · rintro _ L2 ⟨p', c', N, rfl, hp2, hN⟩
      refine ⟨_, hp2.trans (pl2 _ _ _ _ _ _), p', c', _, rfl, rfl, dkFin ⟨p', c', N, y :: z :: (_ :: Y), by rw [e, List.length_append, hn]; rfl, pl4 _ _ _ _ _ _ (List.Perm.refl _), by rw [e]; exact hN⟩⟩
  · have e : syncIf ops = ops := by rw [syncIf, if_pos (by omega)]; exact (List.length_eq_zero_iff.1 (by omega)).symm
    exact dkFin ⟨q, qc, G, y :: z :: Y, by rw [e, hn], pl4 _ _ _ _ _ _ hp, by rw [e]; exact hs⟩
abbrev ClnR (S : List Nat) (w0 : World) (K : Value → SHeap → Prop) : Ending → World → Prop := fun e W' => ∃ v L', e = .returned v ∧ Mem L' S w0 W' ∧ K v L'
theorem rest_bts (i : BA) (fr : Nat) : bts (i.extract fr i.size) = (bts i).drop fr := by
 rw [bts_extract, List.take_of_length_le (by rw [List.length_drop, bts_len]; omega)]
theorem rest_size {i : BA} {fr : Nat} (h : fr ≤ i.size) : (i.extract fr i.size).size = (bts i).length - fr := by
 rw [ByteArray.size_extract, bts_len]; omega
theorem dirty_hit {k sz fr : Nat} {rest : BA} {img : List UInt8} (e : bts rest = img.drop fr) (es : rest.size = img.length - fr) (hd : (bts rest).all (fun b => b == 0) = false) : dirtyOp k sz fr img = [.write ((k * sz + fr : Nat) : Int) (ba (zs rest.size))] := by
 rw [dirtyOp, ← e, hd, if_neg (by decide), es]
theorem dirty_miss {k sz fr : Nat} {rest : BA} {img : List UInt8} (e : bts rest = img.drop fr) (hd : (bts rest).all (fun b => b == 0) = true) : dirtyOp k sz fr img = [] := by
 rw [dirtyOp, ← e, hd, if_pos rfl]
theorem cleaning0 {gen : Int} {fs : List Fct} {en sz : Nat} {br : Bool} {i0 i1 : BA} (hsz : sz ≤ 2097152) (h0 : i0.size ≤ 2097152) (h1 : i1.size ≤ 2097152) (hen : en ≤ i0.size) {W : World} (hm0 : Mem (jH JB D ((JM.mk gen fs en sz 0 br).js p c) :: T) S w0 W) :
  Calls TP 46 ⟨[pt JB 0, .agg #[.string i0, .string i1]]⟩ W (ClnR S w0 (ClnK JB D (JM.mk gen fs en sz 0 br) p c T (cleanOps gen 0 en sz (bts i0) (bts i1)))) := by
 have hm1 : Mem ((JB, .cells (jClean0A2 gen p fs.length c (en : Int) D (sz : Int) br) 86) :: T) S w0 W := hm0
 have b0 : (bts i0).length = i0.size := bts_len i0
 have b1 : (bts i1).length = i1.size := bts_len i1
 have e1 : bts (i1.extract (Int.toNat (0 : Int)) i1.size) = (bts i1).drop 0 := rest_bts i1 0
 have e1s : (i1.extract (Int.toNat (0 : Int)) i1.size).size = (bts i1).length - 0 := rest_size (Nat.zero_le _)
 have e0 : bts (i0.extract (Int.toNat (en : Int)) i0.size) = (bts i0).drop en := by rw [Int.toNat_natCast]; exact rest_bts i0 en
 have e0s : (i0.extract (Int.toNat (en : Int)) i0.size).size = (bts i0).length - en := by rw [Int.toNat_natCast]; exact rest_size hen
 rw [cleanOps, if_pos rfl]
 refine jClean0_vc JB i0 i1 gen p fs.length c (en : Int) D (sz : Int) br T hm1 fun B B1 B2 => ⟨fun hg => ?_, fun hg => ?_⟩
 ·rw [if_pos hg]
  have L2 : ∀ (ops : List DOp) (q : OA) (qc n : Nat) (F G Y : SHeap), F.Perm (G ++ (Y ++ T)) → SRow JB D ops q qc G → ops.length = n → n ≤ 5 →
    jClean0_c2 JB gen p fs.length c (en : Int) D (sz : Int) br JB B B1 q n qc (i1.extract (Int.toNat (0 : Int)) i1.size) ((i1.extract (Int.toNat (0 : Int)) i1.size).size : Int) (0 : Int) D br i0 i1 F S w0 (ClnR S w0 (ClnK JB D (JM.mk gen fs en sz 0 br) p c T (syncIf (ops ++ dirtyOp 1 sz 0 (bts i1))))) := by
   intro ops q qc n F G Y hp hs hn hl
   refine scan_ind (rest := (i1.extract (Int.toNat (0 : Int)) i1.size)) (P := fun t => jClean0_c2 JB gen p fs.length c (en : Int) D (sz : Int) br JB B B1 q n qc (i1.extract (Int.toNat (0 : Int)) i1.size) ((i1.extract (Int.toNat (0 : Int)) i1.size).size : Int) (t : Int) D br i0 i1 F S w0 (ClnR S w0 (ClnK JB D (JM.mk gen fs en sz 0 br) p c T (syncIf (ops ++ dirtyOp 1 sz 0 (bts i1)))))) (fun hd t ht hb => ?_) (fun t ht hb ih => ?_) fun ha => ?_
   ·apply jClean0_c2_vc
    rw [dirty_hit e1 e1s hd]
    exact yes (by omega) ⟨by omega, fun _ => clean_hit (m := JM.mk gen fs en sz 0 br) (k := 1) (fr := 0) _ _ (by omega) hsz (by omega) (by omega) hp hs hn (by omega) fun ap ac F' G' Y' hp' hs' => clean_fin (m := JM.mk gen fs en sz 0 br) (n := n + 1) _ _ hp' hs' (by rw [List.length_append, hn]; simp) (by omega), fun h => absurd h hb⟩
   ·apply jClean0_c2_vc
    refine yes (by omega) ⟨by omega, fun h => absurd hb h, fun _ => ?_⟩
    rw [wi64 (by omega), show (t : Int) + 1 = ((t + 1 : Nat) : Int) by omega]
    exact ih
   ·apply jClean0_c2_vc
    rw [dirty_miss e1 ha, List.append_nil]
    exact no (by omega) (clean_fin (m := JM.mk gen fs en sz 0 br) _ _ hp hs hn (by omega))
  refine ⟨by omega, ?_⟩
  rintro _ rfl
  refine scan_ind (rest := (i0.extract (Int.toNat (en : Int)) i0.size)) (P := fun t => jClean0_c0 JB gen p fs.length c (en : Int) D (sz : Int) br JB B B1 none 0 0 (i0.extract (Int.toNat (en : Int)) i0.size) ((i0.extract (Int.toNat (en : Int)) i0.size).size : Int) (t : Int) D br i0 i1 T S w0 (ClnR S w0 (ClnK JB D (JM.mk gen fs en sz 0 br) p c T (syncIf (dirtyOp 0 sz en (bts i0) ++ dirtyOp 1 sz 0 (bts i1)))))) (fun hd t ht hb => ?_) (fun t ht hb ih => ?_) fun ha => ?_
  ·apply jClean0_c0_vc
   rw [dirty_hit e0 e0s hd]
   refine yes (by omega) ⟨by omega, fun _ => clean_hit (m := JM.mk gen fs en sz 0 br) (k := 0) (fr := en) (ops := []) (G := []) (Y := []) _ _ (by omega) hsz (by omega) (by omega) (List.Perm.refl _) SRow.nil0 rfl (by omega) fun ap ac F' G' Y' hp' hs' => ⟨by omega, ?_⟩, fun h => absurd h hb⟩
   rintro _ rfl
   exact L2 _ _ _ _ _ _ _ hp' hs' rfl (by decide)
  ·apply jClean0_c0_vc
   refine yes (by omega) ⟨by omega, fun h => absurd hb h, fun _ => ?_⟩
   rw [wi64 (by omega), show (t : Int) + 1 = ((t + 1 : Nat) : Int) by omega]
   exact ih
  ·apply jClean0_c0_vc
   rw [dirty_miss e0 ha]
   refine no (by omega) ⟨by omega, ?_⟩
   rintro _ rfl
   exact L2 [] none 0 0 T [] [] (List.Perm.refl _) SRow.nil0 rfl (by omega)
 ·rw [if_neg hg]
  have L2 : ∀ (ops : List DOp) (q : OA) (qc n : Nat) (F G Y : SHeap), F.Perm (G ++ (Y ++ T)) → SRow JB D ops q qc G → ops.length = n → n ≤ 5 →
    jClean0_c3 JB gen p fs.length c (en : Int) D (sz : Int) br JB B B1 q n qc (i0.extract (Int.toNat (en : Int)) i0.size) ((i0.extract (Int.toNat (en : Int)) i0.size).size : Int) (0 : Int) D br i0 i1 F S w0 (ClnR S w0 (ClnK JB D (JM.mk gen fs en sz 0 br) p c T (syncIf (ops ++ dirtyOp 0 sz en (bts i0))))) := by
   intro ops q qc n F G Y hp hs hn hl
   refine scan_ind (rest := (i0.extract (Int.toNat (en : Int)) i0.size)) (P := fun t => jClean0_c3 JB gen p fs.length c (en : Int) D (sz : Int) br JB B B1 q n qc (i0.extract (Int.toNat (en : Int)) i0.size) ((i0.extract (Int.toNat (en : Int)) i0.size).size : Int) (t : Int) D br i0 i1 F S w0 (ClnR S w0 (ClnK JB D (JM.mk gen fs en sz 0 br) p c T (syncIf (ops ++ dirtyOp 0 sz en (bts i0)))))) (fun hd t ht hb => ?_) (fun t ht hb ih => ?_) fun ha => ?_
   ·apply jClean0_c3_vc
    rw [dirty_hit e0 e0s hd]
    exact yes (by omega) ⟨by omega, fun _ => clean_hit (m := JM.mk gen fs en sz 0 br) (k := 0) (fr := en) _ _ (by omega) hsz (by omega) (by omega) hp hs hn (by omega) fun ap ac F' G' Y' hp' hs' => clean_fin (m := JM.mk gen fs en sz 0 br) (n := n + 1) _ _ hp' hs' (by rw [List.length_append, hn]; simp) (by omega), fun h => absurd h hb⟩
   ·apply jClean0_c3_vc
    refine yes (by omega) ⟨by omega, fun h => absurd hb h, fun _ => ?_⟩
    rw [wi64 (by omega), show (t : Int) + 1 = ((t + 1 : Nat) : Int) by omega]
    exact ih
   ·apply jClean0_c3_vc
    rw [dirty_miss e0 ha, List.append_nil]
    exact no (by omega) (clean_fin (m := JM.mk gen fs en sz 0 br) _ _ hp hs hn (by omega))
  refine ⟨by omega, ?_⟩
  rintro _ rfl
  refine scan_ind (rest := (i1.extract (Int.toNat (0 : Int)) i1.size)) (P := fun t => jClean0_c1 JB gen p fs.length c (en : Int) D (sz : Int) br JB B B1 none 0 0 (i1.extract (Int.toNat (0 : Int)) i1.size) ((i1.extract (Int.toNat (0 : Int)) i1.size).size : Int) (t : Int) D br i0 i1 T S w0 (ClnR S w0 (ClnK JB D (JM.mk gen fs en sz 0 br) p c T (syncIf (dirtyOp 1 sz 0 (bts i1) ++ dirtyOp 0 sz en (bts i0)))))) (fun hd t ht hb => ?_) (fun t ht hb ih => ?_) fun ha => ?_
  ·apply jClean0_c1_vc
   rw [dirty_hit e1 e1s hd]
   refine yes (by omega) ⟨by omega, fun _ => clean_hit (m := JM.mk gen fs en sz 0 br) (k := 1) (fr := 0) (ops := []) (G := []) (Y := []) _ _ (by omega) hsz (by omega) (by omega) (List.Perm.refl _) SRow.nil0 rfl (by omega) fun ap ac F' G' Y' hp' hs' => ⟨by omega, ?_⟩, fun h => absurd h hb⟩
   rintro _ rfl
   exact L2 _ _ _ _ _ _ _ hp' hs' rfl (by decide)
  ·apply jClean0_c1_vc
   refine yes (by omega) ⟨by omega, fun h => absurd hb h, fun _ => ?_⟩
   rw [wi64 (by omega), show (t : Int) + 1 = ((t + 1 : Nat) : Int) by omega]
   exact ih
  ·apply jClean0_c1_vc
   rw [dirty_miss e1 ha]
   refine no (by omega) ⟨by omega, ?_⟩
   rintro _ rfl
   exact L2 [] none 0 0 T [] [] (List.Perm.refl _) SRow.nil0 rfl (by omega)
theorem cleaning1 {gen : Int} {fs : List Fct} {en sz : Nat} {br : Bool} {i0 i1 : BA} (hsz : sz ≤ 2097152) (h0 : i0.size ≤ 2097152) (h1 : i1.size ≤ 2097152) (hen : en ≤ i1.size) {W : World} (hm0 : Mem (jH JB D ((JM.mk gen fs en sz 1 br).js p c) :: T) S w0 W) :
  Calls TP 46 ⟨[pt JB 0, .agg #[.string i0, .string i1]]⟩ W (ClnR S w0 (ClnK JB D (JM.mk gen fs en sz 1 br) p c T (cleanOps gen 1 en sz (bts i0) (bts i1)))) := by
 have hm1 : Mem ((JB, .cells (jClean1A1 gen p fs.length c (en : Int) D (sz : Int) br) 86) :: T) S w0 W := hm0
 have b0 : (bts i0).length = i0.size := bts_len i0
 have b1 : (bts i1).length = i1.size := bts_len i1
 have e1 : bts (i1.extract (Int.toNat (en : Int)) i1.size) = (bts i1).drop en := by rw [Int.toNat_natCast]; exact rest_bts i1 en
 have e1s : (i1.extract (Int.toNat (en : Int)) i1.size).size = (bts i1).length - en := by rw [Int.toNat_natCast]; exact rest_size hen
 have e0 : bts (i0.extract (Int.toNat (0 : Int)) i0.size) = (bts i0).drop 0 := rest_bts i0 0
 have e0s : (i0.extract (Int.toNat (0 : Int)) i0.size).size = (bts i0).length - 0 := rest_size (Nat.zero_le _)
 rw [cleanOps, if_neg (by decide)]
 have key : ∀ B B1 : Nat, (0 ≤ (0 : Int) ∧ (0 : Int) ≤ (i0.size : Int) ∧ (i0.size : Int) ≤ i0.size) ∧ ∀ restv : BA, restv = (i0.extract (Int.toNat (0 : Int)) i0.size) → jClean1_c0 JB gen p fs.length c (en : Int) D (sz : Int) br JB B B1 none 0 0 restv (restv.size : Int) (0 : Int) D br i0 i1 T S w0 (ClnR S w0 (ClnK JB D (JM.mk gen fs en sz 1 br) p c T (syncIf (dirtyOp 0 sz 0 (bts i0) ++ dirtyOp 1 sz en (bts i1))))) := by
  intro B B1
  have L2 : ∀ (ops : List DOp) (q : OA) (qc n : Nat) (F G Y : SHeap), F.Perm (G ++ (Y ++ T)) → SRow JB D ops q qc G → ops.length = n → n ≤ 5 →
    jClean1_c1 JB gen p fs.length c (en : Int) D (sz : Int) br JB B B1 q n qc (i1.extract (Int.toNat (en : Int)) i1.size) ((i1.extract (Int.toNat (en : Int)) i1.size).size : Int) (0 : Int) D br i0 i1 F S w0 (ClnR S w0 (ClnK JB D (JM.mk gen fs en sz 1 br) p c T (syncIf (ops ++ dirtyOp 1 sz en (bts i1))))) := by
   intro ops q qc n F G Y hp hs hn hl
   refine scan_ind (rest := (i1.extract (Int.toNat (en : Int)) i1.size)) (P := fun t => jClean1_c1 JB gen p fs.length c (en : Int) D (sz : Int) br JB B B1 q n qc (i1.extract (Int.toNat (en : Int)) i1.size) ((i1.extract (Int.toNat (en : Int)) i1.size).size : Int) (t : Int) D br i0 i1 F S w0 (ClnR S w0 (ClnK JB D (JM.mk gen fs en sz 1 br) p c T (syncIf (ops ++ dirtyOp 1 sz en (bts i1)))))) (fun hd t ht hb => ?_) (fun t ht hb ih => ?_) fun ha => ?_
   ·apply jClean1_c1_vc
    rw [dirty_hit e1 e1s hd]
    exact yes (by omega) ⟨by omega, fun _ => clean_hit (m := JM.mk gen fs en sz 1 br) (k := 1) (fr := en) _ _ (by omega) hsz (by omega) (by omega) hp hs hn (by omega) fun ap ac F' G' Y' hp' hs' => clean_fin (m := JM.mk gen fs en sz 1 br) (n := n + 1) _ _ hp' hs' (by rw [List.length_append, hn]; simp) (by omega), fun h => absurd h hb⟩
   ·apply jClean1_c1_vc
    refine yes (by omega) ⟨by omega, fun h => absurd hb h, fun _ => ?_⟩
    rw [wi64 (by omega), show (t : Int) + 1 = ((t + 1 : Nat) : Int) by omega]
    exact ih
   ·apply jClean1_c1_vc
    rw [dirty_miss e1 ha, List.append_nil]
    exact no (by omega) (clean_fin (m := JM.mk gen fs en sz 1 br) _ _ hp hs hn (by omega))
  refine ⟨by omega, ?_⟩
  rintro _ rfl
  refine scan_ind (rest := (i0.extract (Int.toNat (0 : Int)) i0.size)) (P := fun t => jClean1_c0 JB gen p fs.length c (en : Int) D (sz : Int) br JB B B1 none 0 0 (i0.extract (Int.toNat (0 : Int)) i0.size) ((i0.extract (Int.toNat (0 : Int)) i0.size).size : Int) (t : Int) D br i0 i1 T S w0 (ClnR S w0 (ClnK JB D (JM.mk gen fs en sz 1 br) p c T (syncIf (dirtyOp 0 sz 0 (bts i0) ++ dirtyOp 1 sz en (bts i1)))))) (fun hd t ht hb => ?_) (fun t ht hb ih => ?_) fun ha => ?_
  ·apply jClean1_c0_vc
   rw [dirty_hit e0 e0s hd]
   refine yes (by omega) ⟨by omega, fun _ => clean_hit (m := JM.mk gen fs en sz 1 br) (k := 0) (fr := 0) (ops := []) (G := []) (Y := []) _ _ (by omega) hsz (by omega) (by omega) (List.Perm.refl _) SRow.nil0 rfl (by omega) fun ap ac F' G' Y' hp' hs' => ⟨by omega, ?_⟩, fun h => absurd h hb⟩
   rintro _ rfl
   exact L2 _ _ _ _ _ _ _ hp' hs' rfl (by decide)
  ·apply jClean1_c0_vc
   refine yes (by omega) ⟨by omega, fun h => absurd hb h, fun _ => ?_⟩
   rw [wi64 (by omega), show (t : Int) + 1 = ((t + 1 : Nat) : Int) by omega]
   exact ih
  ·apply jClean1_c0_vc
   rw [dirty_miss e0 ha]
   refine no (by omega) ⟨by omega, ?_⟩
   rintro _ rfl
   exact L2 [] none 0 0 T [] [] (List.Perm.refl _) SRow.nil0 rfl (by omega)
 exact jClean1_vc JB i0 i1 gen p fs.length c (en : Int) D (sz : Int) br T hm1 fun B B1 B2 => ⟨fun hg => key B B1, fun hg => key B B1⟩
end cln
variable {P : Program} {R : Ending → World → Prop} {S : List Nat} {w0 W : World} {lk : Lk} {tp bp ap : OA} {tc bc ac : Nat} {K K' : Value → SHeap → Prop} {args : Array Value} {g : FuncId}
set_option maxRecDepth 100000
abbrev parsedH0 (B B1 B2 : Nat) (r1 r21 : Int) (kb : Nat) (s : BA) (ka : Nat) : SHeap := [(B, .cells #[IV 0, .slice none 0 0, IV 0] 84), (B1, .cells #[.bool false] 4), (B2, .cells #[IV r1, .slice none 0 0, IV r21] 84), (kb, .cells #[.string s] 9), (ka, .cells #[IV r21] 3)]
abbrev parsedH1 (B B1 : Nat) : SHeap := [(B, .cells #[IV 0, .slice none 0 0, IV 0] 84), (B1, .cells #[.bool false] 4)]
abbrev parsedA0 (d : Fct) (dtp : OA) (dtc : Nat) (dbp : OA) (dbc : Nat) (dap : OA) (dac : Nat) : Array Value := ⟨d.cells dtp dtc dbp dbc dap dac⟩
theorem parsed_vc (s : BA) (hm : Mem [] S w0 W)
 (H :
 ∀ B B1 : Nat,
 (0 ≤ (0 : Int) ∧ (0 : Int) < s.size) ∧
 Br ((bat s (0 : Int)) = (0 : Int))
 (Fin R [(B, .cells #[IV 0, .slice none 0 0, IV 0] 84), (B1, .cells #[.bool true] 4)] S w0 (.tuple #[.agg #[IV 0, .slice none 0 0, IV 0], .bool true]))
 (CallH TP 82 ⟨[.string s, IV 0, .func (.func 83) #[] #[]]⟩ (parsedH1 B B1) S w0 (fun v L' => ∃ r1 r21 r31, v = (.tuple #[IV r1, IV r21, .bool r31]) ∧ L' = (parsedH1 B B1) ∧
 Bb (r31)
 (Br (r1 < 1)
 (Fin R (parsedH1 B B1) S w0 (.tuple #[.agg #[IV 0, .slice none 0 0, IV 0], .bool false]))
 (∀ B2 : Nat,
 CallH TP 84 ⟨[.string s, IV r21]⟩ [(B, .cells #[IV 0, .slice none 0 0, IV 0] 84), (B1, .cells #[.bool false] 4), (B2, .cells #[IV r1, .slice none 0 0, IV r21] 84)] S w0 (fun v L' => ∃ (kb : Nat) (ka : Nat), v = (.func (.func 120) #[] #[PP ka, PP kb]) ∧ L' = (parsedH0 B B1 B2 r1 r21 kb s ka) ∧
 ∀ (D l : Nat) (t : Array Value), Knows 73 [(0, .string s), (2, PP B), (3, PP B1), (7, PP B2)] t →
 CallH TP 120 ⟨.func (.yield l) #[] #[] :: [PP ka, PP kb]⟩ [(B, .cells #[IV 0, .slice none 0 0, IV 0] 84), (B1, .cells #[.bool false] 4), (B2, .cells #[IV r1, .slice none 0 0, IV r21] 84), (kb, .cells #[.string s] 9), (ka, .cells #[IV r21] 3), (D, .deferred (some [])), (l, loopO .ready none 45 t (sub (Eng.body Tryz.f45) [1,1,1,1,1,0,1,0]) D)] S w0 (fun v L' => (∃ (hp : OA) (hl : Nat) (hc : Nat) (en : Int) (F : SHeap), L' = ((B, .cells #[IV 0, .slice none 0 0, IV 0] 84) :: (B1, .cells #[.bool false] 4) :: (B2, .cells #[IV r1, .slice hp hl hc, IV en] 84) :: (kb, .cells #[.string s] 9) :: (D, .deferred (some [])) :: (l, loopO .ready none 45 t (sub (Eng.body Tryz.f45) [1,1,1,1,1,0,1,0]) D) :: F) ∧
 Br (en < (s.size : Int))
 ((0 ≤ en ∧ en < s.size) ∧
 Bn ((bat s en) = (0 : Int))
 (Fin R ((B, .cells #[IV 0, .slice none 0 0, IV 0] 84) :: (B1, .cells #[.bool false] 4) :: (B2, .cells #[IV r1, .slice hp hl hc, IV en] 84) :: (kb, .cells #[.string s] 9) :: (D, .deferred none) :: (l, loopO .exhausted none 45 t (sub (Eng.body Tryz.f45) [1,1,1,1,1,0,1,0]) D) :: F) S w0 (.tuple #[.agg #[IV 0, .slice none 0 0, IV 0], .bool false]))
 (Fin R ((B, .cells #[IV r1, .slice hp hl hc, IV en] 84) :: (B1, .cells #[.bool true] 4) :: (B2, .cells #[IV r1, .slice hp hl hc, IV en] 84) :: (kb, .cells #[.string s] 9) :: (D, .deferred none) :: (l, loopO .exhausted none 45 t (sub (Eng.body Tryz.f45) [1,1,1,1,1,0,1,0]) D) :: F) S w0 (.tuple #[.agg #[IV r1, .slice hp hl hc, IV en], .bool true])))
 (Fin R ((B, .cells #[IV r1, .slice hp hl hc, IV en] 84) :: (B1, .cells #[.bool true] 4) :: (B2, .cells #[IV r1, .slice hp hl hc, IV en] 84) :: (kb, .cells #[.string s] 9) :: (D, .deferred none) :: (l, loopO .exhausted none 45 t (sub (Eng.body Tryz.f45) [1,1,1,1,1,0,1,0]) D) :: F) S w0 (.tuple #[.agg #[IV r1, .slice hp hl hc, IV en], .bool true]))) ∨
 (∃ (hp1 : OA) (hl1 : Nat) (hc1 : Nat) (en1 : Int) (F1 : SHeap), L' = ((B, .cells #[IV 0, .slice none 0 0, IV 0] 84) :: (B1, .cells #[.bool false] 4) :: (B2, .cells #[IV r1, .slice hp1 hl1 hc1, IV en1] 84) :: (kb, .cells #[.string s] 9) :: (D, .deferred (some [])) :: (l, loopO .done (some .ret) 45 t (sub (Eng.body Tryz.f45) [1,1,1,1,1,0,1,0]) D) :: F1) ∧
 Fin R ((B, .cells #[IV 0, .slice none 0 0, IV 0] 84) :: (B1, .cells #[.bool false] 4) :: (B2, .cells #[IV r1, .slice hp1 hl1 hc1, IV en1] 84) :: (kb, .cells #[.string s] 9) :: (D, .deferred none) :: (l, loopO .exhausted (some .ret) 45 t (sub (Eng.body Tryz.f45) [1,1,1,1,1,0,1,0]) D) :: F1) S w0 (.tuple #[.agg #[IV 0, .slice none 0 0, IV 0], .bool false]))))))
 (Fin R (parsedH1 B B1) S w0 (.tuple #[.agg #[IV 0, .slice none 0 0, IV 0], .bool false]))))) :
 Calls TP 45 ⟨[.string s]⟩ W R:= by
 refine AtE.cs 73 Tryz.func45 hm (.ru 2 (.nH (.cells #[IV 0, .slice none 0 0, IV 0] 84) H fun B H => (.nH (.cells #[.bool false] 4) H fun B1 H => (.ru 5 (.indexS (s := s) (kd := .i64) (i := (0 : Int)) (by kernel_rfl) H.1 ?_)))))
 replace H := H.2
 refine .ru 2 (.sP 14 H (fun H => ?_) fun H => ?_)
 ·refine .ru 4 (.st 0 0 (.st 1 0 (.ru 1 (.retR Tryz.func45 (by kernel_rfl) (ResOk.cells2 (a := 2) (b := 3) (T := 84) (U := 4) (u := .agg #[IV 0, .slice none 0 0, IV 0]) (v := .bool true) 0 0 1 0 (by kernel_rfl) (by kernel_rfl)) H))))
 ·refine .ru 5 (.cl H ?_)
  rintro _ _ ⟨r1, r21, r31, rfl, rfl, H⟩
  refine .ru 12 (.sB 22 H (fun H => ?_) fun H => ?_)
  ·refine .ru 6 (.sP 27 H (fun H => ?_) fun H => ?_)
   ·refine .ru 4 (.st 0 0 (.st 1 0 (.ru 1 (.retR Tryz.func45 (by kernel_rfl) (ResOk.cells2 (a := 2) (b := 3) (T := 84) (U := 4) (u := .agg #[IV 0, .slice none 0 0, IV 0]) (v := .bool false) 0 0 1 0 (by kernel_rfl) (by kernel_rfl)) H))))
   ·refine .ru 7 (.nH (.cells #[IV 0, .slice none 0 0, IV 0] 84) H fun B2 H => (.st 2 0 (.ru 6 (.cl H ?_))))
    rintro _ _ ⟨kb, ka, rfl, rfl, H⟩
    refine .ru 2 (.nm (KC Tryz.f45 506) [(0, .string s), (2, PP B), (3, PP B1), (7, PP B2), (34, .func (.func 120) #[] #[PP ka, PP kb])] (parsedH0 B B1 B2 r1 r21 kb s ka) (.rangeFunc (rf := sub (Eng.body Tryz.f45) [1,1,1,1,1,0,1,0]) (k' := [.inBlock 0, .code (sub (Eng.body Tryz.f45) [1,1,1,1,1,1])]) (L1 := (parsedH0 B B1 B2 r1 r21 kb s ka)) 120 [PP ka, PP kb] (e' := [(0, .string s), (2, PP B), (3, PP B1), (7, PP B2)]) (by kernel_rfl) (fun W l => by kernel_rfl) (fun D l t hT => ?_)))
    refine CallH.mono (H D l t hT) ?_
    rintro _ _ (⟨hp, hl, hc, en, F, rfl, H⟩ | ⟨hp1, hl1, hc1, en1, F1, rfl, H⟩)
    ·skip
     refine ⟨5, .ready, none, rfl, by decide, ?_⟩
     refine .nm [.inBlock 0, .code (sub (Eng.body Tryz.f45) [1,1,1,1,1,1])] [(0, .string s), (2, PP B), (3, PP B1), (7, PP B2)] ((B, .cells #[IV 0, .slice none 0 0, IV 0] 84) :: (B1, .cells #[.bool false] 4) :: (B2, .cells #[IV r1, .slice hp hl hc, IV en] 84) :: (kb, .cells #[.string s] 9) :: (D, .deferred (some [])) :: (l, loopO .exhausted none 45 t (sub (Eng.body Tryz.f45) [1,1,1,1,1,0,1,0]) D) :: F) (.ru 5 (.ld 2 2 (.ru 4 (.sP 64 H (fun H => ?_) fun H => ?_))))
     ·refine .ru 2 (.ld 2 2 (.indexS (s := s) (kd := .i64) (i := en) (by kernel_rfl) H.1 ?_))
      replace H := H.2
      refine .ru 3 (.sN 70 H (fun H => ?_) fun H => ?_)
      ·refine .ru 4 (.st 0 0 (.st 1 0 (.ru 1 (.retM 4 (D := D) (v := (.tuple #[.agg #[IV 0, .slice none 0 0, IV 0], .bool false])) (L1 := ((B, .cells #[IV 0, .slice none 0 0, IV 0] 84) :: (B1, .cells #[.bool false] 4) :: (B2, .cells #[IV r1, .slice hp hl hc, IV en] 84) :: (kb, .cells #[.string s] 9) :: (D, .deferred (some [])) :: (l, loopO .exhausted none 45 t (sub (Eng.body Tryz.f45) [1,1,1,1,1,0,1,0]) D) :: F)) Tryz.func45 (by kernel_rfl) (ResOk.cells2 (a := 2) (b := 3) (T := 84) (U := 4) (u := .agg #[IV 0, .slice none 0 0, IV 0]) (v := .bool false) 0 0 1 0 (by kernel_rfl) (by kernel_rfl)) H))))
      ·refine .ru 4 (.ld 2 0 (.st 0 0 (.st 1 0 (.ru 1 (.retM 4 (D := D) (v := (.tuple #[.agg #[IV r1, .slice hp hl hc, IV en], .bool true])) (L1 := ((B, .cells #[IV r1, .slice hp hl hc, IV en] 84) :: (B1, .cells #[.bool true] 4) :: (B2, .cells #[IV r1, .slice hp hl hc, IV en] 84) :: (kb, .cells #[.string s] 9) :: (D, .deferred (some [])) :: (l, loopO .exhausted none 45 t (sub (Eng.body Tryz.f45) [1,1,1,1,1,0,1,0]) D) :: F)) Tryz.func45 (by kernel_rfl) (ResOk.cells2 (a := 2) (b := 3) (T := 84) (U := 4) (u := .agg #[IV r1, .slice hp hl hc, IV en]) (v := .bool true) 0 0 1 0 (by kernel_rfl) (by kernel_rfl)) H)))))
     ·refine .ru 11 (.ld 2 0 (.st 0 0 (.st 1 0 (.ru 1 (.retM 4 (D := D) (v := (.tuple #[.agg #[IV r1, .slice hp hl hc, IV en], .bool true])) (L1 := ((B, .cells #[IV r1, .slice hp hl hc, IV en] 84) :: (B1, .cells #[.bool true] 4) :: (B2, .cells #[IV r1, .slice hp hl hc, IV en] 84) :: (kb, .cells #[.string s] 9) :: (D, .deferred (some [])) :: (l, loopO .exhausted none 45 t (sub (Eng.body Tryz.f45) [1,1,1,1,1,0,1,0]) D) :: F)) Tryz.func45 (by kernel_rfl) (ResOk.cells2 (a := 2) (b := 3) (T := 84) (U := 4) (u := .agg #[IV r1, .slice hp hl hc, IV en]) (v := .bool true) 0 0 1 0 (by kernel_rfl) (by kernel_rfl)) H)))))
    ·skip
     refine ⟨5, .done, (some .ret), rfl, by decide, ?_⟩
     refine .nm [.code .ret, .inBlock 0, .code (sub (Eng.body Tryz.f45) [1,1,1,1,1,1])] [(2, PP B), (3, PP B1)] ((B, .cells #[IV 0, .slice none 0 0, IV 0] 84) :: (B1, .cells #[.bool false] 4) :: (B2, .cells #[IV r1, .slice hp1 hl1 hc1, IV en1] 84) :: (kb, .cells #[.string s] 9) :: (D, .deferred (some [])) :: (l, loopO .exhausted (some .ret) 45 t (sub (Eng.body Tryz.f45) [1,1,1,1,1,0,1,0]) D) :: F1) (.retM 4 (D := D) (v := (.tuple #[.agg #[IV 0, .slice none 0 0, IV 0], .bool false])) (L1 := ((B, .cells #[IV 0, .slice none 0 0, IV 0] 84) :: (B1, .cells #[.bool false] 4) :: (B2, .cells #[IV r1, .slice hp1 hl1 hc1, IV en1] 84) :: (kb, .cells #[.string s] 9) :: (D, .deferred (some [])) :: (l, loopO .exhausted (some .ret) 45 t (sub (Eng.body Tryz.f45) [1,1,1,1,1,0,1,0]) D) :: F1)) Tryz.func45 (by kernel_rfl) (ResOk.cells2 (a := 2) (b := 3) (T := 84) (U := 4) (u := .agg #[IV 0, .slice none 0 0, IV 0]) (v := .bool false) 0 0 1 0 (by kernel_rfl) (by kernel_rfl)) H)
  ·refine .ru 10 (.st 0 0 (.st 1 0 (.ru 1 (.retR Tryz.func45 (by kernel_rfl) (ResOk.cells2 (a := 2) (b := 3) (T := 84) (U := 4) (u := .agg #[IV 0, .slice none 0 0, IV 0]) (v := .bool false) 0 0 1 0 (by kernel_rfl) (by kernel_rfl)) H))))
theorem parsed_r0_vc (s : BA) (B B1 B2 kb : Nat) (r1 : Int) (hp : OA) (hl hc : Nat) (en : Int) (F : SHeap) (x0 : BA) (x1 : Int) (D l : Nat) (t : Array Value) {K : Value → SHeap → Prop} (hT : Knows 73 [(0, .string s), (2, PP B), (3, PP B1), (7, PP B2)] t)
 (H :
 CallH TP 85 ⟨[.string x0]⟩ ((B, .cells #[IV 0, .slice none 0 0, IV 0] 84) :: (B1, .cells #[.bool false] 4) :: (B2, .cells #[IV r1, .slice hp hl hc, IV en] 84) :: (kb, .cells #[.string s] 9) :: (D, .deferred (some [])) :: (l, loopO .busy none 45 t (sub (Eng.body Tryz.f45) [1,1,1,1,1,0,1,0]) D) :: F) S w0 (fun v L' => ∃ (d : Fct) (dtp : OA) (dtc : Nat) (dbp : OA) (dbc : Nat) (dap : OA) (dac : Nat), ∃ de F2, v = (.tuple #[.agg (parsedA0 d dtp dtc dbp dbc dap dac), IV de]) ∧ L' = ((B, .cells #[IV 0, .slice none 0 0, IV 0] 84) :: (B1, .cells #[.bool false] 4) :: (B2, .cells #[IV r1, .slice hp hl hc, IV en] 84) :: (kb, .cells #[.string s] 9) :: (D, .deferred (some [])) :: (l, loopO .busy none 45 t (sub (Eng.body Tryz.f45) [1,1,1,1,1,0,1,0]) D) :: F2) ∧
 ∀ B3 : Nat,
 Bn (de = 0)
 (K (.bool false) ((B3, .cells (parsedA0 d dtp dtc dbp dbc dap dac) 38) :: (B, .cells #[IV 0, .slice none 0 0, IV 0] 84) :: (B1, .cells #[.bool false] 4) :: (B2, .cells #[IV r1, .slice hp hl hc, IV en] 84) :: (kb, .cells #[.string s] 9) :: (D, .deferred (some [])) :: (l, loopO .done (some .ret) 45 t (sub (Eng.body Tryz.f45) [1,1,1,1,1,0,1,0]) D) :: F2))
 (∃ (r71 : Int), (QCall TP 53 ⟨[PP B2]⟩ ((B3, .cells (parsedA0 d dtp dtc dbp dbc dap dac) 38) :: (B, .cells #[IV 0, .slice none 0 0, IV 0] 84) :: (B1, .cells #[.bool false] 4) :: (B2, .cells #[IV r1, .slice hp hl hc, IV en] 84) :: (kb, .cells #[.string s] 9) :: (D, .deferred (some [])) :: (l, loopO .busy none 45 t (sub (Eng.body Tryz.f45) [1,1,1,1,1,0,1,0]) D) :: F2) S w0 (IV r71)) ∧
 Bn (d.n = r71)
 (K (.bool false) ((B3, .cells (parsedA0 d dtp dtc dbp dbc dap dac) 38) :: (B, .cells #[IV 0, .slice none 0 0, IV 0] 84) :: (B1, .cells #[.bool false] 4) :: (B2, .cells #[IV r1, .slice hp hl hc, IV en] 84) :: (kb, .cells #[.string s] 9) :: (D, .deferred (some [])) :: (l, loopO .done (some .ret) 45 t (sub (Eng.body Tryz.f45) [1,1,1,1,1,0,1,0]) D) :: F2))
 (∀ B4 : Nat,
 AppN TP 23 22 22 (.slice hp hl hc) (1) (d.cells dtp dtc dbp dbc dap dac) ((B4, .cells (parsedA0 d dtp dtc dbp dbc dap dac) 38) :: (B3, .cells (parsedA0 d dtp dtc dbp dbc dap dac) 38) :: (B, .cells #[IV 0, .slice none 0 0, IV 0] 84) :: (B1, .cells #[.bool false] 4) :: (B2, .cells #[IV r1, .slice hp hl hc, IV en] 84) :: (kb, .cells #[.string s] 9) :: (D, .deferred (some [])) :: (l, loopO .busy none 45 t (sub (Eng.body Tryz.f45) [1,1,1,1,1,0,1,0]) D) :: F2) S w0 (fun v L' => ∃ (ap : OA) (ac : Nat), ∃ F3, v = (.slice ap (hl + 1) ac) ∧ L' = ((B3, .cells (parsedA0 d dtp dtc dbp dbc dap dac) 38) :: (B, .cells #[IV 0, .slice none 0 0, IV 0] 84) :: (B1, .cells #[.bool false] 4) :: (B2, .cells #[IV r1, .slice hp hl hc, IV en] 84) :: (kb, .cells #[.string s] 9) :: (D, .deferred (some [])) :: (l, loopO .busy none 45 t (sub (Eng.body Tryz.f45) [1,1,1,1,1,0,1,0]) D) :: F3) ∧
 K (.bool true) ((B3, .cells (parsedA0 d dtp dtc dbp dbc dap dac) 38) :: (B, .cells #[IV 0, .slice none 0 0, IV 0] 84) :: (B1, .cells #[.bool false] 4) :: (B2, .cells #[IV r1, .slice ap (hl + 1) ac, IV x1] 84) :: (kb, .cells #[.string s] 9) :: (D, .deferred (some [])) :: (l, loopO .ready none 45 t (sub (Eng.body Tryz.f45) [1,1,1,1,1,0,1,0]) D) :: F3)))))) :
 YieldH TP l ⟨[.string x0, IV x1]⟩ ((B, .cells #[IV 0, .slice none 0 0, IV 0] 84) :: (B1, .cells #[.bool false] 4) :: (B2, .cells #[IV r1, .slice hp hl hc, IV en] 84) :: (kb, .cells #[.string s] 9) :: (D, .deferred (some [])) :: (l, loopO .ready none 45 t (sub (Eng.body Tryz.f45) [1,1,1,1,1,0,1,0]) D) :: F) S w0 K:= by
 refine YieldH.of (f := 45) (nt := 73) (l := l) (D := D) (t := t) (rf := sub (Eng.body Tryz.f45) [1,1,1,1,1,0,1,0]) (e1 := [(36, IV x1), (35, .string x0), (0, .string s), (2, PP B), (3, PP B1), (7, PP B2)]) (k1 := [.code (sub (Eng.body Tryz.f45) [1,1,1,1,1,0,1,0,0]), .beginRound, .code (sub (Eng.body Tryz.f45) [1,1,1,1,1,0,1,0,1])]) 5 hT (by kernel_rfl) (by kernel_rfl) ?_
 refine .ru 7 (.begin 5 (l := l) (D := D) (f' := 45) (t := t) (rf := sub (Eng.body Tryz.f45) [1,1,1,1,1,0,1,0]) (k' := [.code (sub (Eng.body Tryz.f45) [1,1,1,1,1,0,1,0,1])]) (by kernel_rfl) (.nm [.code (sub (Eng.body Tryz.f45) [1,1,1,1,1,0,1,0,1])] [(2, PP B), (3, PP B1), (7, PP B2), (8, .string x0), (9, IV x1)] ((B, .cells #[IV 0, .slice none 0 0, IV 0] 84) :: (B1, .cells #[.bool false] 4) :: (B2, .cells #[IV r1, .slice hp hl hc, IV en] 84) :: (kb, .cells #[.string s] 9) :: (D, .deferred (some [])) :: (l, loopO .busy none 45 t (sub (Eng.body Tryz.f45) [1,1,1,1,1,0,1,0]) D) :: F) (.ru 4 (.cl H ?_))))
 rintro _ _ ⟨d, dtp, dtc, dbp, dbc, dap, dac, de, F2, rfl, rfl, H⟩
 refine .ru 3 (.nH (.cells #[IV 0, IV 0, IV 0, IV 0, .string (⟨#[]⟩), IV 0, IV 0, .string (⟨#[]⟩), .string (⟨#[]⟩), .slice none 0 0, .slice none 0 0, IV 0, .slice none 0 0, IV 0, IV 0, IV 0, IV 0, IV 0, .string (⟨#[]⟩), .string (⟨#[]⟩), IV 0, IV 0, IV 0] 38) H fun B3 H => (.front (.store 0 0 (T := 38) (v := .agg (parsedA0 d dtp dtc dbp dbc dap dac)) (by kernel_rfl) (.ru 4 (.nm [.code (sub (Eng.body Tryz.f45) [1,1,1,1,1,0,1,0,1,0,1,0,0]), .code (sub (Eng.body Tryz.f45) [1,1,1,1,1,0,1,0,1,0,1,0,1]), .code (sub (Eng.body Tryz.f45) [1,1,1,1,1,0,1,0,1,0,1,1]), .inBlock 1] [(2, PP B), (3, PP B1), (7, PP B2), (9, IV x1), (10, PP B3), (11, IV de)] ((B3, .cells (parsedA0 d dtp dtc dbp dbc dap dac) 38) :: (B, .cells #[IV 0, .slice none 0 0, IV 0] 84) :: (B1, .cells #[.bool false] 4) :: (B2, .cells #[IV r1, .slice hp hl hc, IV en] 84) :: (kb, .cells #[.string s] 9) :: (D, .deferred (some [])) :: (l, loopO .busy none 45 t (sub (Eng.body Tryz.f45) [1,1,1,1,1,0,1,0]) D) :: F2) (.dr 8 (.pu (.pu (.pu (.splitN 44 (p := de = 0) (by kernel_rfl) (fun h6' => ?_) (fun h6' => ?_)))))))))))
 ·replace H := H.1 h6'
  refine .sk (.sk (.sk (.sk (.pu (.dn (.ru 5 (.store 1 0 (T := 84) (v := .agg #[IV 0, .slice none 0 0, IV 0]) (by kernel_rfl) (.store 2 0 (T := 4) (v := .bool false) (by kernel_rfl) (.ru 1 (.jumpRound 6 (l := l) (D := D) (f' := 45) (t := t) (rf := sub (Eng.body Tryz.f45) [1,1,1,1,1,0,1,0]) (st := .busy) (L1 := ((B3, .cells (parsedA0 d dtp dtc dbp dbc dap dac) 38) :: (B, .cells #[IV 0, .slice none 0 0, IV 0] 84) :: (B1, .cells #[.bool false] 4) :: (B2, .cells #[IV r1, .slice hp hl hc, IV en] 84) :: (kb, .cells #[.string s] 9) :: (D, .deferred (some [])) :: (l, loopO .busy none 45 t (sub (Eng.body Tryz.f45) [1,1,1,1,1,0,1,0]) D) :: F2)) (c := .ret) (by kernel_rfl) ?_))))))))))
  exact H
 ·replace H := H.2 h6'
  refine .pu (.ld 0 0 ?_)
  obtain ⟨r71, hq, H⟩ := H
  refine .cl hq (.pu (.pu (.dn (.ru 1 (.sN 49 H (fun H => ?_) fun H => ?_)))))
  ·refine .ru 4 (.store 1 0 (T := 84) (v := .agg #[IV 0, .slice none 0 0, IV 0]) (by kernel_rfl) (.store 2 0 (T := 4) (v := .bool false) (by kernel_rfl) (.ru 1 (.jumpRound 6 (l := l) (D := D) (f' := 45) (t := t) (rf := sub (Eng.body Tryz.f45) [1,1,1,1,1,0,1,0]) (st := .busy) (L1 := ((B3, .cells (parsedA0 d dtp dtc dbp dbc dap dac) 38) :: (B, .cells #[IV 0, .slice none 0 0, IV 0] 84) :: (B1, .cells #[.bool false] 4) :: (B2, .cells #[IV r1, .slice hp hl hc, IV en] 84) :: (kb, .cells #[.string s] 9) :: (D, .deferred (some [])) :: (l, loopO .busy none 45 t (sub (Eng.body Tryz.f45) [1,1,1,1,1,0,1,0]) D) :: F2)) (c := .ret) (by kernel_rfl) ?_))))
   exact H
  ·refine .ru 5 (.ld 3 1 (.ld 0 0 (.nw (fun B => .slice (SO B) 1 1) (.cells (parsedA0 d dtp dtc dbp dbc dap dac) 38) fun B4 => ?_)))
   replace H := H B4
   refine .front (.appendT (sz := 23) (T := 22) (U := 22) (s := .slice hp hl hc) (x := .slice (SO B4) 1 1) (1) (d.cells dtp dtc dbp dbc dap dac) (by kernel_rfl) (srcRow (E' := 38) (t := 38) (fz := (0, 0)) (c := (d.cells dtp dtc dbp dbc dap dac)) (by simp) (by kernel_rfl) (by simp) (by simp [Value.oneCell'])) H ?_)
   rintro _ _ ⟨ap, ac, F3, rfl, rfl, H⟩
   refine .ru 1 (.store 3 1 (T := 22) (v := .slice ap (hl + 1) ac) (by kernel_rfl) (.ru 4 (.store 3 2 (T := 3) (v := IV x1) (by kernel_rfl) (.ru 2 (.endRound 6 (l := l) (D := D) (f' := 45) (t := t) (rf := sub (Eng.body Tryz.f45) [1,1,1,1,1,0,1,0]) (st := .busy) (L1 := ((B3, .cells (parsedA0 d dtp dtc dbp dbc dap dac) 38) :: (B, .cells #[IV 0, .slice none 0 0, IV 0] 84) :: (B1, .cells #[.bool false] 4) :: (B2, .cells #[IV r1, .slice ap (hl + 1) ac, IV x1] 84) :: (kb, .cells #[.string s] 9) :: (D, .deferred (some [])) :: (l, loopO .busy none 45 t (sub (Eng.body Tryz.f45) [1,1,1,1,1,0,1,0]) D) :: F3)) (by kernel_rfl) ?_)))))
   exact H
def pR (l : List UInt8) (n : Nat) : Option (List Fct × Nat) := parseR l.length l n
def halfR : List UInt8 → Option (Int × List Fct × Nat)
 | [] => some (0, [], 0)
 | b :: r => if b = 0 then some (0, [], 0) else (match frmR rdInt (b :: r) with
  | none => none
  | some (g, k) => if g < 1 then none else (pR ((b :: r).drop k) 1).map fun q => (g, q.1, k + q.2))
theorem pR_step {b : UInt8} {r : List UInt8} {n : Nat} (hb : b ≠ 0) {t : BA} {k : Nat} (hf : frmR rdStrB (b :: r) = some (t, k)) :
  pR (b :: r) n = if Takes t n then (pR ((b :: r).drop k) (n + 1)).map (fun q => ((decF (bts t)).1 :: q.1, k + q.2)) else none := by
 unfold pR
 rw [List.length_cons, parseR, if_neg hb, hf]
 simp only
 have hk := frmR_pos hf
 have hd : ((b :: r).drop k).length ≤ r.length := by rw [List.length_drop, List.length_cons]; omega
 rw [parseR_fuel r.length _ _ hd]
theorem pR_none {b : UInt8} {r : List UInt8} {n : Nat} (hb : b ≠ 0) (hf : frmR rdStrB (b :: r) = none) : pR (b :: r) n = none := by
 unfold pR
 rw [List.length_cons, parseR, if_neg hb, hf]
theorem pR_zero {r : List UInt8} {n : Nat} : pR (0 :: r) n = some ([], 0) := by
 unfold pR
 rw [List.length_cons, parseR, if_pos rfl]
theorem pR_nil {n : Nat} : pR [] n = some ([], 0) := rfl
def PRel (s : List UInt8) (a0 : Nat) (l : List Fct) (a : Nat) : Prop := a0 ≤ a ∧ pR (s.drop a0) 1 = (pR (s.drop a) (l.length + 1)).map fun q => (l ++ q.1, a - a0 + q.2)
theorem PRel.start (s : List UInt8) (a : Nat) : PRel s a [] a := ⟨Nat.le_refl _, by
 simp only [List.length_nil, Nat.zero_add, List.nil_append, Nat.sub_self]
 cases pR (s.drop a) 1 <;> simp⟩
theorem dropH {s : List UInt8} {a : Nat} (h : a < s.length) : ∃ r, s.drop a = s[a] :: r := ⟨_, List.drop_eq_getElem_cons h⟩
theorem PRel.step {s : List UInt8} {a0 a : Nat} {l : List Fct} (h : PRel s a0 l a) (ha : a < s.length) (hb : s[a] ≠ 0) {t : BA} {k : Nat} (hf : frmR rdStrB (s.drop a) = some (t, k)) (ht : Takes t (l.length + 1)) : PRel s a0 (l ++ [(decF (bts t)).1]) (a + k) := by
 obtain ⟨h1, h2⟩ := h
 refine ⟨by omega, ?_⟩
 obtain ⟨r, e⟩ := dropH ha
 rw [h2]
 rw [e] at hf ⊢
 rw [pR_step hb hf, if_pos ht, ← e, List.drop_drop, List.length_append, List.length_singleton]
 cases pR (s.drop (a + k)) (l.length + 1 + 1) with
 | none => rfl
 | some q => simp; omega
theorem PRel.bad {s : List UInt8} {a0 a : Nat} {l : List Fct} (h : PRel s a0 l a) (ha : a < s.length) (hb : s[a] ≠ 0) {t : BA} {k : Nat} (hf : frmR rdStrB (s.drop a) = some (t, k)) (ht : ¬ Takes t (l.length + 1)) : pR (s.drop a0) 1 = none := by
 obtain ⟨r, e⟩ := dropH ha
 rw [h.2]
 rw [e] at hf ⊢
 rw [pR_step hb hf, if_neg ht]; rfl
theorem PRel.bad2 {s : List UInt8} {a0 a : Nat} {l : List Fct} (h : PRel s a0 l a) (ha : a < s.length) (hb : s[a] ≠ 0) (hf : frmR rdStrB (s.drop a) = none) : pR (s.drop a0) 1 = none := by
 obtain ⟨r, e⟩ := dropH ha
 rw [h.2]
 rw [e] at hf ⊢
 rw [pR_none hb hf]; rfl
theorem PRel.stop {s : List UInt8} {a0 a : Nat} {l : List Fct} (h : PRel s a0 l a) (he : s.length ≤ a ∨ ∃ ha : a < s.length, s[a] = 0) : pR (s.drop a0) 1 = some (l, a - a0) := by
 rw [h.2]
 rcases he with he | ⟨ha, hb⟩
 ·rw [List.drop_of_length_le he, pR_nil]; simp
 ·obtain ⟨r, e⟩ := dropH ha
  rw [e, hb, pR_zero]; simp
abbrev hZ (B : Nat) : Nat × Obj := hH B 0 none 0 0 0
abbrev bF (B : Nat) : Nat × Obj := (B, .cells #[.bool false] 4)
abbrev kA (ka : Nat) (k : Int) : Nat × Obj := (ka, .cells #[.int .i64 k] 3)
noncomputable abbrev lpO (l : Nat) (st : LoopState) (o : Option Code) (t : Array Value) (D : Nat) : Nat × Obj := (l, loopO st o 45 t (sub (Eng.body Tryz.f45) [1, 1, 1, 1, 1, 0, 1, 0]) D)
abbrev dfN (D : Nat) : Nat × Obj := (D, .deferred (some []))
section par
variable (s : ByteArray) (B B1 B2 kb : Nat) (g : Int) (a0 D lp : Nat) (t : Array Value)
noncomputable abbrev parH (st : LoopState) (o : Option Code) (p : OA) (n c : Nat) (en : Int) (T : SHeap) : SHeap :=
 hZ B :: bF B1 :: hH B2 g p n c en :: dfN D :: lpO lp st o t D :: T
def ParI (l : List Fct) (a : Nat) (F : SHeap) : Prop :=
 ∃ p c T, F.Perm (parH B B1 B2 g D lp t .ready none p l.length c (a : Int) T) ∧ FRow noLk l p c T ∧ PRel (bts s) a0 l a ∧ l.length ≤ 500 ∧ a ≤ (bts s).length
def ParJ (F : SHeap) : Prop :=
 ∃ p n c en T, F.Perm (parH B B1 B2 g D lp t .done (some .ret) p n c en T) ∧ pR ((bts s).drop a0) 1 = none
end par
section perms
variable (x y z v w' q r : Nat × Obj) (A F T X Z N : SHeap)
theorem pp1 (hp : F.Perm (x :: y :: z :: v :: w' :: T)) : (x :: y :: z :: q :: v :: w' :: T).Perm (q :: F) := perm_of fun c w h1 h2 h3 h4 => by
 have := h4 _ _ hp
 simp only [h1, h2, h3] at this ⊢; omega
theorem pp3 : (r :: x :: y :: z :: q :: v :: w' :: T).Perm (q :: x :: y :: z :: v :: w' :: (r :: T)) := perm_a
theorem pp4 (r' : Nat × Obj) : (r' :: r :: x :: y :: z :: q :: v :: w' :: (F ++ T)).Perm (F ++ (T ++ [r', r, x, y, z, q, v, w'])) := perm_a
theorem pp5 (r' : Nat × Obj) : (N ++ [r', r, x, y, z, q, v, w']).Perm (r :: x :: y :: z :: q :: v :: w' :: (r' :: N)) := perm_a
theorem pp6 : (q :: r :: [x, y, z, v, w']).Perm [x, y, z, r, q, v, w'] := perm_a
end perms
theorem frmR_one {α : Type} {rd : List UInt8 → Option (α × Nat)} {l : List UInt8} {v : α} {k : Nat} (h : frmR rd l = some (v, k)) : ∃ r, l = 1 :: r := by
 cases l with
 | nil => cases h
 | cons b r =>
  rw [frmR] at h
  split at h
  ·next hb => exact ⟨r, by rw [hb]⟩
  ·cases h
theorem rdStrB_sz {l : List UInt8} {v : BA} {k : Nat} (h : rdStrB l = some (v, k)) : v.size ≤ 65536 := by
 rw [rdStrB, Option.map_eq_some_iff] at h
 obtain ⟨⟨t, k'⟩, h1, h2⟩ := h
 simp only [Prod.mk.injEq] at h2
 obtain ⟨rfl, _⟩ := h2
 have := (rdStr_inv h1).1
 show t.toArray.size ≤ 65536
 simpa using this
theorem frmR_sz {l : List UInt8} {v : BA} {k : Nat} (h : frmR rdStrB l = some (v, k)) : v.size ≤ 65536 := by
 obtain ⟨r, rfl⟩ := frmR_one h
 rw [frmR, if_pos rfl] at h
 split at h
 ·cases h
 ·next v' k' hv =>
  split at h
  ·cases h
  ·split at h
   ·simp only [Option.some.injEq, Prod.mk.injEq] at h
    obtain ⟨rfl, _⟩ := h
    exact rdStrB_sz hv
   ·cases h
theorem hnext_pw {W : World} {HB n c : Nat} {gen en : Int} {p : OA} (h : W.heap[HB]? = some (hH HB gen p n c en).2) (hn : n ≤ 1000000) : PW TP 53 ⟨[pt HB 0]⟩ W (.int .i64 ((n + 1 : Nat) : Int)) := by
 refine PW.ro (x := hH HB gen p n c en) (fun hm hF => jNext_vc HB gen p n c en [] hm ?_) h
 rintro _ rfl
 rw [wi64 (by omega), show (n : Int) + 1 = ((n + 1 : Nat) : Int) by omega]
 exact hF
section round
variable {s : ByteArray} {B B1 B2 kb : Nat} {g : Int} {a0 D lp : Nat} {tt : Array Value} {S : List Nat} {w0 : World}
def ParK (s : BA) (B B1 B2 : Nat) (g : Int) (a0 D lp : Nat) (tt : Array Value) (l : List Fct) (a : Nat) (t : BA) (k : Nat) (v : Value) (F' : SHeap) : Prop :=
 (v = .bool true ∧ Takes t (l.length + 1) ∧ ParI s B B1 B2 g a0 D lp tt (l ++ [(decF (bts t)).1]) (a + k) F') ∨ (v = .bool false ∧ ¬ Takes t (l.length + 1) ∧ ParJ s B B1 B2 g a0 D lp tt F')
theorem par_round (hs : s.size < 4611686018427387904) (hT : Knows 73 [(0, .string s), (2, .pointer (SO B)), (3, .pointer (SO B1)), (7, .pointer (SO B2))] tt) {l : List Fct} {a : Nat} {F : SHeap} {t : BA} {k : Nat} (ha : a < (bts s).length) (hI : ParI s B B1 B2 g a0 D lp tt l a F) (hf : frmR rdStrB ((bts s).drop a) = some (t, k)) :
  YieldH TP lp ⟨[.string t, .int .i64 ((a + k : Nat) : Int)]⟩ (tStr kb s :: F) S w0 (fun v L' => ∃ F', L' = tStr kb s :: F' ∧ ParK s B B1 B2 g a0 D lp tt l a t k v F') := by
 obtain ⟨p, c, T, hp, hR, hrel, h5, hle⟩ := hI
 have hb0 : (bts s)[a] ≠ 0 := by
  obtain ⟨r, e⟩ := frmR_one hf
  have := List.drop_eq_getElem_cons ha
  rw [e] at this
  simp only [List.cons.injEq] at this
  rw [← this.1]; decide
 have hkl : a + k ≤ (bts s).length := by
  have := frmR_len rdStrB_len hf
  rw [List.length_drop] at this; omega
 refine YieldH.perm (pp1 _ _ _ _ _ (tStr kb s) _ _ hp) ?_
 refine YieldH.monoP (K := fun v L' => ∃ F', L'.Perm (tStr kb s :: F') ∧ ParK s B B1 B2 g a0 D lp tt l a t k v F') ?_ fun v L' ⟨F', h1, h2⟩ => ⟨tStr kb s :: F', h1.symm, F', rfl, h2⟩
 refine parsed_r0_vc s B B1 B2 kb g p l.length c (a : Int) T t _ D lp tt hT ?_
 have hsz := frmR_sz hf
 refine CallH.addF [_, _, _, _, _, _] (fDecode_e (s := t) (by omega)) ?_
 rintro _ F' ⟨tp, tc, bp, bc, ap, ac, rfl, hd⟩
 refine ⟨_, tp, tc, bp, bc, ap, ac, _, _, rfl, rfl, fun B3 => ⟨fun hne => ?_, fun he => ?_⟩⟩
 ·exact ⟨_, pp3 _ _ _ _ _ _ _ _, .inr ⟨rfl, fun hk => hne hk.1, p, l.length, c, (a : Int), _, List.Perm.refl _, hrel.bad ha hb0 hf fun hk => hne hk.1⟩⟩
 ·refine ⟨((l.length + 1 : Nat) : Int), QCall.pw fun W' hm' => hnext_pw (hm'.here (hH B2 g p l.length c (a : Int)) (by simp)) (by omega), fun hn => ?_, fun hn B4 => ?_⟩
  ·exact ⟨_, pp3 _ _ _ _ _ _ _ _, .inr ⟨rfl, fun hk => hn hk.2, p, l.length, c, (a : Int), _, List.Perm.refl _, hrel.bad ha hb0 hf fun hk => hn hk.2⟩⟩
  ·refine (FRow.push (Y := [_, _, _, _, _, _, _, _]) (f := (decF (bts t)).1) hR (hd.mono lkU_l) rfl (by omega) (pp4 _ _ _ _ _ _ _ _ _ _)).monoP ?_
   rintro _ L2 ⟨p', c', N, rfl, hp2, hN, _, _⟩
   refine ⟨_, hp2.trans (pp5 _ _ _ _ _ _ _ _ _), p', c', _, rfl, rfl, _, pp3 _ _ _ _ _ _ _ _, .inl ⟨rfl, ⟨he, hn⟩, p', c', [(B3, .cells (parsedA0 (decF (bts t)).1 tp tc bp bc ap ac) 38), (B4, .cells (parsedA0 (decF (bts t)).1 tp tc bp bc ap ac) 38)] ++ N, ?_, hN.more [_, _], hrel.step ha hb0 hf ⟨he, hn⟩, ?_, hkl⟩⟩
   ·rw [List.length_append, List.length_singleton]; exact List.Perm.refl _
   ·have hok : (decF (bts t)).1.ok = true := by
     rcases decF_err (bts t) with h | h
     ·exact h.2
     ·exact absurd he h.2
    have := (Fct.good hok).n
    rw [List.length_append, List.length_singleton]
    omega
end round
def ParOut (s : List UInt8) (v : Value) (F : SHeap) : Prop :=
 match halfR s with
 | none => v = .tuple #[.agg #[.int .i64 0, .slice none 0 0, .int .i64 0], .bool false]
 | some (g, fs, e) => ∃ p c, v = .tuple #[.agg #[.int .i64 g, .slice p fs.length c, .int .i64 (e : Int)], .bool true] ∧ FRow noLk fs p c F
theorem parsed_e {s : BA} (hs : s.size < 4611686018427387904) (h0 : 0 < s.size) : EffW TP 45 ⟨[.string s]⟩ [] (fun W => blkW W 0 = some tabV) (ParOut (bts s)) := by
 intro W hm hg
 have hl : 0 < (bts s).length := h0
 obtain ⟨r, e⟩ := dropH hl
 rw [List.drop_zero] at e
 have e' : bts s = (bts s)[0] :: r := e
 refine parsed_vc s hm fun B B1 => ⟨by omega, fun hz => ?_, fun hz => ?_⟩
 ·have hb : (bts s)[0] = 0 := (bat_zero hl).1 hz
  refine dkFin ?_
  have : halfR (bts s) = some (0, [], 0) := by rw [e', hb, halfR, if_pos rfl]
  rw [ParOut, this]
  exact ⟨none, 0, rfl, FRow.nil0⟩
 ·have hb : (bts s)[0] ≠ 0 := fun h => hz ((bat_zero hl).2 h)
  refine CallH.pureG (framedI_c hs h0) (by simp) hg ?_
  have hd0 : (bts s).drop 0 = bts s := List.drop_zero
  rw [hd0]
  have hRf : halfR (bts s) = match frmR rdInt (bts s) with | none => none | some (g, k) => if g < 1 then none else (pR ((bts s).drop k) 1).map fun q => (g, q.1, k + q.2) := by
   conv => lhs; rw [e', halfR, if_neg hb, ← e']
  cases hf : frmR rdInt (bts s) with
  | none =>
   rw [hf] at hRf
   refine ⟨0, 0, false, rfl, rfl, fun h => Bool.noConfusion h, fun _ => dkFin ?_⟩
   rw [ParOut, hRf]
  | some q =>
   obtain ⟨g, k⟩ := q
   rw [hf] at hRf
   simp only at hRf
   refine ⟨g, ((0 + k : Nat) : Int), true, rfl, rfl, fun _ => ⟨fun hg1 => dkFin ?_, fun hg1 B2 => ?_⟩, fun h => Bool.noConfusion h⟩
   ·rw [ParOut, hRf, if_pos hg1]
   ·rw [if_neg hg1] at hRf
    refine CallH.eff (L0 := []) (L1 := [hZ B, bF B1, hH B2 g none 0 0 ((0 + k : Nat) : Int)]) (K := fun v L' => ∃ kb ka, v = .func (.func 120) ⟨[]⟩ ⟨[pt ka 0, pt kb 0]⟩ ∧ L' = [tStr kb s, kA ka ((0 + k : Nat) : Int)]) (fun W1 hm1 => records_vc s _ hm1 fun kb ka => dkFin ⟨kb, ka, rfl, rfl⟩) (List.Perm.refl _) ?_
    rintro _ _ ⟨kb, ka, rfl, rfl⟩
    refine ⟨_, List.perm_append_comm, kb, ka, rfl, rfl, fun D lp t hKn => ?_⟩
    intro W1 hm1
    have hp0 : (kA ka ((0 + k : Nat) : Int) :: tStr kb s :: [hZ B, bF B1, hH B2 g none 0 0 ((0 + k : Nat) : Int), dfN D, lpO lp .ready none t D]).Perm [hZ B, bF B1, hH B2 g none 0 0 ((0 + k : Nat) : Int), tStr kb s, kA ka ((0 + k : Nat) : Int), dfN D, lpO lp .ready none t D] := pp6 _ _ _ _ _ _ _
    have hkl := frmR_len (fun l v k h => (rdInt_inv h).2.1) hf
    refine recIter_vc lp ka kb _ s _ (hm1.perm hp0) (rec_loop hs (by simp) hg (I := ParI s B B1 B2 g (0 + k) D lp t) (J := ParJ s B B1 B2 g (0 + k) D lp t) (fun l a F t' k' ha hI hf' => par_round hs hKn ha hI hf') (fun l a F hI hst => ?_) (fun F hJ => ?_) s.size (0 + k) [] _ (by omega) ⟨none, 0, [], List.Perm.refl _, FRow.nil0, PRel.start _ _, by simp, by omega⟩)
    ·obtain ⟨p, c, T, hp, hR, hrel, h5, hle⟩ := hI
     have hlen : ((bts s).drop k).length = (bts s).length - k := List.length_drop
     intro W2 hm2
     refine ⟨_, _, rfl, hm2.perm (pp1 _ _ _ _ _ (tStr kb s) _ _ hp), .inl ⟨p, l.length, c, (a : Int), T, rfl, fun ha => ?_, fun ha => ?_⟩⟩
     ·have ha' : a < (bts s).length := by rw [bts_len]; omega
      refine ⟨by omega, fun hz => dkFin ?_, fun hz => dkFin ?_⟩
      ·rcases hst with hst | ⟨_, hst | ⟨h1, h2⟩⟩
       ·omega
       ·exact absurd ((bat_zero ha').2 hst) hz
       ·have := hrel.bad2 ha' h1 h2
        rw [Nat.zero_add] at this
        rw [ParOut, hRf, this]; rfl
      ·have := hrel.stop (.inr ⟨ha', (bat_zero ha').1 hz⟩)
       rw [Nat.zero_add] at this
       have hle2 := hrel.1
       rw [ParOut, hRf, this]
       simp only [Option.map_some]
       exact ⟨p, c, by rw [show k + (a - k) = a by omega], hR.more [_, _, _, _, _, _]⟩
     ·have := hrel.stop (.inl (by rw [bts_len]; omega))
      rw [Nat.zero_add] at this
      have hle2 := hrel.1
      refine dkFin ?_
      rw [ParOut, hRf, this]
      simp only [Option.map_some]
      exact ⟨p, c, by rw [show k + (a - k) = a by omega], hR.more [_, _, _, _, _, _]⟩
    ·obtain ⟨p, n, c, en, T, hp, hno⟩ := hJ
     rw [Nat.zero_add] at hno
     intro W2 hm2
     refine ⟨_, _, rfl, hm2.perm (pp1 _ _ _ _ _ (tStr kb s) _ _ hp), .inr ⟨p, n, c, en, T, rfl, dkFin ?_⟩⟩
     rw [ParOut, hRf, hno]; rfl
theorem crc_okInt (s : List UInt8) : okInt (crc s : Int) := by
 have := crc_lt s
 unfold okInt maxInt; omega
theorem frm_int {g : Int} (h : okInt g) (r : List UInt8) : frmR rdInt (headL g ++ r) = some (g, (headL g).length) := by
 have e : headL g ++ r = 1 :: (Wire.enc g ++ (Wire.enc (crc (Wire.enc g) : Int) ++ r)) := by rw [headL, frm]; simp
 rw [e, frmR, if_pos rfl, rdInt_enc h]
 simp only [List.drop_left, rdInt_enc (crc_okInt _), List.take_left, if_true]
 rw [headL, frm]; simp; omega
theorem frm_str {t : List UInt8} (h : t.length ≤ 65536) (r : List UInt8) : frmR rdStrB (frm (encS t) ++ r) = some (ba t, (frm (encS t)).length) := by
 have e : frm (encS t) ++ r = 1 :: (encS t ++ (Wire.enc (crc (encS t) : Int) ++ r)) := by rw [frm]; simp
 have e2 : rdStrB (encS t ++ (Wire.enc (crc (encS t) : Int) ++ r)) = some (ba t, (encS t).length) := by rw [rdStrB, rdStr_enc h]; rfl
 rw [e, frmR, if_pos rfl, e2]
 simp only [List.drop_left, rdInt_enc (crc_okInt _), List.take_left, if_true]
 rw [frm]; simp; omega
theorem frm_int_inv {l : List UInt8} {g : Int} {k : Nat} (h : frmR rdInt l = some (g, k)) : okInt g ∧ k = (headL g).length ∧ l = headL g ++ l.drop k := by
 obtain ⟨r, rfl⟩ := frmR_one h
 rw [frmR, if_pos rfl] at h
 split at h
 ·cases h
 ·next v k1 hv =>
  split at h
  ·cases h
  ·next c k2 hc =>
   split at h
   ·next hcrc =>
    simp only [Option.some.injEq, Prod.mk.injEq] at h
    obtain ⟨rfl, rfl⟩ := h
    obtain ⟨a1, a2, a3, a4⟩ := rdInt_inv hv
    have s1 := rdInt_split hv
    have s2 := rdInt_split hc
    obtain ⟨b1, b2, b3, b4⟩ := rdInt_inv hc
    subst hcrc
    rw [a3] at s2 b4
    have hl : (headL v).length = 1 + k1 + k2 := by rw [headL, frm]; simp; omega
    refine ⟨a1, hl.symm, ?_⟩
    have e : (1 :: r).drop (1 + k1 + k2) = (r.drop k1).drop k2 := by rw [List.drop_drop, show 1 + k1 + k2 = (k1 + k2) + 1 by omega, List.drop_succ_cons]
    rw [e, headL, frm]
    simp only [List.cons_append, List.append_assoc, List.cons.injEq, true_and]
    rw [← s2, ← s1]
   ·cases h
theorem frm_str_inv {l : List UInt8} {t : BA} {k : Nat} (h : frmR rdStrB l = some (t, k)) : (bts t).length ≤ 65536 ∧ k = (frm (encS (bts t))).length ∧ l = frm (encS (bts t)) ++ l.drop k := by
 obtain ⟨r, rfl⟩ := frmR_one h
 rw [frmR, if_pos rfl] at h
 split at h
 ·cases h
 ·next v k1 hv =>
  split at h
  ·cases h
  ·next c k2 hc =>
   split at h
   ·next hcrc =>
    simp only [Option.some.injEq, Prod.mk.injEq] at h
    obtain ⟨rfl, rfl⟩ := h
    rw [rdStrB, Option.map_eq_some_iff] at hv
    obtain ⟨⟨u, k'⟩, hv, hq⟩ := hv
    simp only [Prod.mk.injEq] at hq
    obtain ⟨rfl, rfl⟩ := hq
    have ebt : bts (⟨u.toArray⟩ : BA) = u := bts_mk u
    rw [ebt]
    obtain ⟨a1, a2, a3, a4⟩ := rdStr_inv hv
    have s1 := rdStr_split hv
    have s2 := rdInt_split hc
    obtain ⟨b1, b2, b3, b4⟩ := rdInt_inv hc
    subst hcrc
    rw [a3] at s2 b4
    have hl : (frm (encS u)).length = 1 + k' + k2 := by rw [frm]; simp; omega
    refine ⟨a1, hl.symm, ?_⟩
    have e : (1 :: r).drop (1 + k' + k2) = (r.drop k').drop k2 := by rw [List.drop_drop, show 1 + k' + k2 = (k' + k2) + 1 by omega, List.drop_succ_cons]
    rw [e, frm]
    simp only [List.cons_append, List.append_assoc, List.cons.injEq, true_and]
    rw [← s2, ← s1]
   ·cases h
def Numb : List Fct → Nat → Prop
 | [], _ => True
 | f :: r, n => f.ok = true ∧ f.n = (n : Int) ∧ Numb r (n + 1)
theorem Numb.snoc : ∀ {l : List Fct} {n : Nat} {f : Fct}, Numb l n → f.ok = true → f.n = ((n + l.length : Nat) : Int) → Numb (l ++ [f]) n
 | [], n, f, _, h1, h2 => ⟨h1, by simpa using h2, trivial⟩
 | a :: l, n, f, h, h1, h2 => ⟨h.1, h.2.1, Numb.snoc h.2.2 h1 (by rw [h2]; simp; omega)⟩
theorem Numb.all : ∀ {l : List Fct} {n : Nat}, Numb l n → ∀ f ∈ l, f.ok = true
 | [], _, _, f, hf => by cases hf
 | a :: l, n, h, f, hf => by
  rcases List.mem_cons.1 hf with rfl | hf
  ·exact h.1
  ·exact Numb.all h.2.2 f hf
theorem Numb.len : ∀ {l : List Fct} {n : Nat}, Numb l n → n + l.length ≤ 501 ∨ l = []
 | [], _, _ => .inr rfl
 | a :: l, n, h => by
  refine .inl ?_
  have := (Fct.good h.1).n
  have hn := h.2.1
  rcases Numb.len h.2.2 with h2 | h2
  ·rw [List.length_cons]; omega
  ·subst h2; simp; omega
theorem Numb.red {t : List Fct} : ∀ {l : List Fct} {n : Nat}, Numb l n → Numb (redG t l) n
 | [], _, _ => trivial
 | a :: l, n, h => ⟨red_ok' h.1, by
   show (if takenB t a.story = true then redF a else a).n = _
   split
   ·rw [red_n]; exact h.2.1
   ·exact h.2.1, Numb.red h.2.2⟩
theorem recL_head (f : Fct) : ∃ r, recL f = 1 :: r := ⟨_, by rw [recL, frm]⟩
theorem pR_fwd : ∀ (fs : List Fct) (n : Nat) (t : List UInt8), Numb fs n → Ends t → pR (flat fs ++ t) n = some (fs, (flat fs).length)
 | [], n, t, _, ht => by
  rcases ht with rfl | ⟨r, rfl⟩
  ·rfl
  ·exact pR_zero
 | f :: r, n, t, h, ht => by
  obtain ⟨h1, h2, h3⟩ := h
  have hs := encF_small h1
  have e : flat (f :: r) ++ t = recL f ++ (flat r ++ t) := by simp
  obtain ⟨q, hq⟩ := recL_head f
  have hf := frm_str (t := encF f) (by omega) (flat r ++ t)
  have hf : frmR rdStrB (recL f ++ (flat r ++ t)) = some (ba (encF f), (recL f).length) := hf
  have e2 : recL f ++ (flat r ++ t) = 1 :: (q ++ (flat r ++ t)) := by rw [hq]; rfl
  rw [e]
  have hf2 := hf
  rw [e2] at hf2
  have hstep := pR_step (n := n) (show (1 : UInt8) ≠ 0 by decide) hf2
  have hd : decF (bts (ba (encF f))) = (f, 0) := by rw [bts_mk]; exact decF_enc h1
  have htk : Takes (ba (encF f)) n := ⟨by rw [hd], by rw [hd]; exact h2⟩
  rw [if_pos htk, ← e2, List.drop_left, pR_fwd r (n + 1) t h3 ht, hd] at hstep
  rw [hstep]
  simp
theorem pR_inv : ∀ (g : Nat) (l : List UInt8) (n : Nat) (fs : List Fct) (m : Nat), l.length ≤ g → pR l n = some (fs, m) → Numb fs n ∧ m = (flat fs).length ∧ ∃ t, l = flat fs ++ t ∧ Ends t
 | 0, l, n, fs, m, hg, h => by
  obtain rfl : l = [] := List.length_eq_zero_iff.1 (by omega)
  rw [pR_nil] at h
  simp only [Option.some.injEq, Prod.mk.injEq] at h
  obtain ⟨rfl, rfl⟩ := h
  exact ⟨trivial, rfl, [], rfl, .inl rfl⟩
 | g + 1, l, n, fs, m, hg, h => by
  cases l with
  | nil =>
   rw [pR_nil] at h
   simp only [Option.some.injEq, Prod.mk.injEq] at h
   obtain ⟨rfl, rfl⟩ := h
   exact ⟨trivial, rfl, [], rfl, .inl rfl⟩
  | cons b r =>
   by_cases hb : b = 0
   ·subst hb
    rw [pR_zero] at h
    simp only [Option.some.injEq, Prod.mk.injEq] at h
    obtain ⟨rfl, rfl⟩ := h
    exact ⟨trivial, rfl, 0 :: r, rfl, .inr ⟨r, rfl⟩⟩
   ·cases hf : frmR rdStrB (b :: r) with
    | none => rw [pR_none hb hf] at h; cases h
    | some q =>
     obtain ⟨t, k⟩ := q
     rw [pR_step hb hf] at h
     have hk := frmR_pos hf
     obtain ⟨i1, i2, i3⟩ := frm_str_inv hf
     split at h
     ·next ht =>
      rw [Option.map_eq_some_iff] at h
      obtain ⟨⟨fs', m'⟩, h1, h2⟩ := h
      simp only [Prod.mk.injEq] at h2
      obtain ⟨rfl, rfl⟩ := h2
      obtain ⟨j1, j2, t', j3, j4⟩ := pR_inv g _ _ _ _ (by rw [List.length_drop, List.length_cons]; simp at hg; omega) h1
      obtain ⟨o1, o2⟩ := enc_decF (s := bts t) (f := (decF (bts t)).1) (Prod.ext rfl ht.1)
      have er : recL (decF (bts t)).1 = frm (encS (bts t)) := by rw [recL, o2]
      refine ⟨⟨o1, ht.2, j1⟩, ?_, t', ?_, j4⟩
      ·rw [j2, i2, ← er]; simp
      ·rw [i3, j3, ← er]; simp
     ·cases h
theorem halfR_fwd {g : Int} {fs : List Fct} {t : List UInt8} (hg : okInt g) (h1 : 1 ≤ g) (hn : Numb fs 1) (ht : Ends t) : halfR (cont g fs ++ t) = some (g, fs, (cont g fs).length) := by
 have hf := frm_int hg (flat fs ++ t)
 have e : cont g fs ++ t = headL g ++ (flat fs ++ t) := by rw [cont, List.append_assoc]
 obtain ⟨q, hq⟩ : ∃ q, headL g = 1 :: q := ⟨_, by rw [headL, frm]⟩
 have e2 : headL g ++ (flat fs ++ t) = 1 :: (q ++ (flat fs ++ t)) := by rw [hq]; rfl
 rw [e, e2, halfR, if_neg (by decide), ← e2, hf]
 simp only
 rw [if_neg (by omega), List.drop_left, pR_fwd fs 1 t hn ht]
 simp
theorem halfR_ends {l : List UInt8} (h : Ends l) : halfR l = some (0, [], 0) := by
 rcases h with rfl | ⟨r, rfl⟩
 ·rfl
 ·rw [halfR, if_pos rfl]
theorem halfR_inv {l : List UInt8} {g : Int} {fs : List Fct} {e : Nat} (h : halfR l = some (g, fs, e)) : (g = 0 ∧ fs = [] ∧ e = 0 ∧ Ends l) ∨ (1 ≤ g ∧ okInt g ∧ Numb fs 1 ∧ e = (cont g fs).length ∧ ∃ t, l = cont g fs ++ t ∧ Ends t) := by
 cases l with
 | nil =>
  rw [halfR] at h
  simp only [Option.some.injEq, Prod.mk.injEq] at h
  obtain ⟨rfl, rfl, rfl⟩ := h
  exact .inl ⟨rfl, rfl, rfl, .inl rfl⟩
 | cons b r =>
  rw [halfR] at h
  split at h
  ·next hb =>
   simp only [Option.some.injEq, Prod.mk.injEq] at h
   obtain ⟨rfl, rfl, rfl⟩ := h
   exact .inl ⟨rfl, rfl, rfl, .inr ⟨r, by rw [hb]⟩⟩
  ·split at h
   ·cases h
   ·next v k hf =>
    split at h
    ·cases h
    ·next hg =>
     rw [Option.map_eq_some_iff] at h
     obtain ⟨⟨fs', m'⟩, h1, h2⟩ := h
     simp only [Prod.mk.injEq] at h2
     obtain ⟨rfl, rfl, rfl⟩ := h2
     obtain ⟨i1, i2, i3⟩ := frm_int_inv hf
     obtain ⟨j1, j2, t', j3, j4⟩ := pR_inv _ _ _ _ _ (Nat.le_refl _) h1
     refine .inr ⟨by omega, i1, j1, ?_, t', ?_, j4⟩
     ·rw [cont, List.length_append, i2, j2]
     ·rw [i3, j3, cont, List.append_assoc]
set_option maxRecDepth 100000
abbrev zK7aa : Array Value := #[IV 0, .slice none 0 0, IV 0, IV 0, .slice none 0 0, IV 0]
abbrev jOpenH0 (B5 : Nat) (m01 : Int) (m11_p : OA) (m11_l m11_c : Nat) (m2 : Int) (m3_b : Nat) (m4 : Int) (B6 : Nat) (m0 m1 : BA) (B7 : Nat) (m3 : Int) (m41_p : OA) (m41_l m41_c : Nat) (m5 : Int) (F14 : SHeap) : SHeap := ((B5, .cells #[IV m01, .slice m11_p m11_l m11_c, IV m2, PP m3_b, IV m4, IV 0, .bool false] 86) :: (B6, .cells #[.string m0, .string m1] 87) :: (B7, .cells #[IV m01, .slice m11_p m11_l m11_c, IV m2, IV m3, .slice m41_p m41_l m41_c, IV m5] 89) :: F14)
abbrev jOpenH1 (B5 : Nat) (m3 : Int) (m41_p : OA) (m41_l m41_c : Nat) (m5 : Int) (m3_b : Nat) (m4 : Int) (B6 : Nat) (m0 m1 : BA) (B7 : Nat) (m01 : Int) (m11_p : OA) (m11_l m11_c : Nat) (m2 : Int) (F9 : SHeap) : SHeap := ((B5, .cells #[IV m3, .slice m41_p m41_l m41_c, IV m5, PP m3_b, IV m4, IV 1, .bool false] 86) :: (B6, .cells #[.string m0, .string m1] 87) :: (B7, .cells #[IV m01, .slice m11_p m11_l m11_c, IV m2, IV m3, .slice m41_p m41_l m41_c, IV m5] 89) :: F9)
abbrev jOpenH2 (B4 : Nat) (pg1 : Int) (pp1 : OA) (pl1 pc1 : Nat) (pe1 : Int) (B3 : Nat) (pg : Int) (pp : OA) (pl pc : Nat) (pe : Int) (B2 B1 : Nat) (rs rs1 : BA) (B D : Nat) (dn2 : Int) (F7 : SHeap) : SHeap := ((B4, .cells #[IV pg1, .slice pp1 pl1 pc1, IV pe1] 84) :: (B3, .cells #[IV pg, .slice pp pl pc, IV pe] 84) :: (B2, .cells #[IV pg, .slice pp pl pc, IV pe, IV 0, .slice none 0 0, IV 0] 89) :: (B1, .cells #[.string rs, .string rs1] 87) :: (B, .cells #[IV 0, .slice none 0 0, IV 0, PP D, IV (IntKind.i64.wrap (dn2.tdiv (2 : Int))), IV 0, .bool false] 86) :: F7)
abbrev jOpenH3 (B1 B D : Nat) (dn2 : Int) (F3 : SHeap) : SHeap := ((B1, .cells #[.string (⟨#[]⟩), .string (⟨#[]⟩)] 87) :: (B, .cells #[IV 0, .slice none 0 0, IV 0, PP D, IV (IntKind.i64.wrap (dn2.tdiv (2 : Int))), IV 0, .bool false] 86) :: F3)
abbrev jOpenH4 (B1 B D : Nat) (dn2 : Int) (F4 : SHeap) : SHeap := ((B1, .cells #[.string (⟨#[]⟩), .string (⟨#[]⟩)] 87) :: (B, .cells #[IV 0, .slice none 0 0, IV 0, PP D, IV (IntKind.i64.wrap (dn2.tdiv (2 : Int))), IV 0, .bool false] 86) :: F4)
abbrev jOpenH5 (B1 : Nat) (rs : BA) (B D : Nat) (dn2 : Int) (F5 : SHeap) : SHeap := ((B1, .cells #[.string rs, .string (⟨#[]⟩)] 87) :: (B, .cells #[IV 0, .slice none 0 0, IV 0, PP D, IV (IntKind.i64.wrap (dn2.tdiv (2 : Int))), IV 0, .bool false] 86) :: F5)
abbrev jOpenH6 (B5 : Nat) (r251 : BA) (m3_b : Nat) (m4 : Int) (br2 : Bool) (B6 : Nat) (m0 m1 : BA) (B7 : Nat) (m01 : Int) (m11_p : OA) (m11_l m11_c : Nat) (m2 m3 : Int) (m41_p : OA) (m41_l m41_c : Nat) (m5 : Int) (F17 : SHeap) : SHeap := ((B5, .cells #[IV 1, .slice none 0 0, IV (r251.size : Int), PP m3_b, IV m4, IV 0, .bool br2] 86) :: (B6, .cells #[.string m0, .string m1] 87) :: (B7, .cells #[IV m01, .slice m11_p m11_l m11_c, IV m2, IV m3, .slice m41_p m41_l m41_c, IV m5] 89) :: F17)
abbrev jOpenH7 (B1 B D : Nat) (dn2 : Int) : SHeap := [(B1, .cells #[.string (⟨#[]⟩), .string (⟨#[]⟩)] 87), (B, .cells #[IV 0, .slice none 0 0, IV 0, PP D, IV (IntKind.i64.wrap (dn2.tdiv (2 : Int))), IV 0, .bool false] 86)]
abbrev jOpenH8 (B1 : Nat) (rs : BA) (B D : Nat) (dn2 : Int) (F4 : SHeap) : SHeap := ((B1, .cells #[.string rs, .string (⟨#[]⟩)] 87) :: (B, .cells #[IV 0, .slice none 0 0, IV 0, PP D, IV (IntKind.i64.wrap (dn2.tdiv (2 : Int))), IV 0, .bool false] 86) :: F4)
abbrev jOpenH9 (B1 : Nat) (rs : BA) (B D : Nat) (dn2 : Int) : SHeap := [(B1, .cells #[.string rs, .string (⟨#[]⟩)] 87), (B, .cells #[IV 0, .slice none 0 0, IV 0, PP D, IV (IntKind.i64.wrap (dn2.tdiv (2 : Int))), IV 0, .bool false] 86)]
abbrev jOpenH10 (B5 : Nat) (m01 : Int) (m11_p : OA) (m11_l m11_c : Nat) (m2 : Int) (m3_b : Nat) (m4 : Int) (B6 : Nat) (m0 m1 : BA) (B7 : Nat) (m3 : Int) (m41_p : OA) (m41_l m41_c : Nat) (m5 : Int) (F15 : SHeap) : SHeap := ((B5, .cells #[IV m01, .slice m11_p m11_l m11_c, IV m2, PP m3_b, IV m4, IV 0, .bool false] 86) :: (B6, .cells #[.string m0, .string m1] 87) :: (B7, .cells #[IV m01, .slice m11_p m11_l m11_c, IV m2, IV m3, .slice m41_p m41_l m41_c, IV m5] 89) :: F15)
abbrev jOpenH11 (B5 : Nat) (m3 : Int) (m41_p : OA) (m41_l m41_c : Nat) (m5 : Int) (m3_b : Nat) (m4 : Int) (B6 : Nat) (m0 m1 : BA) (B7 : Nat) (m01 : Int) (m11_p : OA) (m11_l m11_c : Nat) (m2 : Int) (F10 : SHeap) : SHeap := ((B5, .cells #[IV m3, .slice m41_p m41_l m41_c, IV m5, PP m3_b, IV m4, IV 1, .bool false] 86) :: (B6, .cells #[.string m0, .string m1] 87) :: (B7, .cells #[IV m01, .slice m11_p m11_l m11_c, IV m2, IV m3, .slice m41_p m41_l m41_c, IV m5] 89) :: F10)
abbrev jOpenH12 (B5 : Nat) (r171 : BA) (m3_b : Nat) (m4 : Int) (br : Bool) (B6 : Nat) (m0 m1 : BA) (B7 : Nat) (m01 : Int) (m11_p : OA) (m11_l m11_c : Nat) (m2 m3 : Int) (m41_p : OA) (m41_l m41_c : Nat) (m5 : Int) (F12 : SHeap) : SHeap := ((B5, .cells #[IV 1, .slice none 0 0, IV (r171.size : Int), PP m3_b, IV m4, IV 1, .bool br] 86) :: (B6, .cells #[.string m0, .string m1] 87) :: (B7, .cells #[IV m01, .slice m11_p m11_l m11_c, IV m2, IV m3, .slice m41_p m41_l m41_c, IV m5] 89) :: F12)
abbrev jOpenH13 (B5 : Nat) (m01 : Int) (m11_p : OA) (m11_l m11_c : Nat) (m2 : Int) (m3_b : Nat) (m4 : Int) (br3 : Bool) (B6 : Nat) (m0 m1 : BA) (B7 : Nat) (m3 : Int) (m41_p : OA) (m41_l m41_c : Nat) (m5 : Int) (F18 : SHeap) : SHeap := ((B5, .cells #[IV m01, .slice m11_p m11_l m11_c, IV m2, PP m3_b, IV m4, IV 0, .bool br3] 86) :: (B6, .cells #[.string m0, .string m1] 87) :: (B7, .cells #[IV m01, .slice m11_p m11_l m11_c, IV m2, IV m3, .slice m41_p m41_l m41_c, IV m5] 89) :: F18)
abbrev jOpenH14 (B5 : Nat) (m3 : Int) (m41_p : OA) (m41_l m41_c : Nat) (m5 : Int) (m3_b : Nat) (m4 : Int) (br1 : Bool) (B6 : Nat) (m0 m1 : BA) (B7 : Nat) (m01 : Int) (m11_p : OA) (m11_l m11_c : Nat) (m2 : Int) (F13 : SHeap) : SHeap := ((B5, .cells #[IV m3, .slice m41_p m41_l m41_c, IV m5, PP m3_b, IV m4, IV 1, .bool br1] 86) :: (B6, .cells #[.string m0, .string m1] 87) :: (B7, .cells #[IV m01, .slice m11_p m11_l m11_c, IV m2, IV m3, .slice m41_p m41_l m41_c, IV m5] 89) :: F13)
abbrev jOpenH15 (B3 : Nat) (pg : Int) (pp : OA) (pl pc : Nat) (pe : Int) (B2 B1 : Nat) (rs rs1 : BA) (B D : Nat) (dn2 : Int) (F6 : SHeap) : SHeap := ((B3, .cells #[IV pg, .slice pp pl pc, IV pe] 84) :: (B2, .cells zK7aa 89) :: (B1, .cells #[.string rs, .string rs1] 87) :: (B, .cells #[IV 0, .slice none 0 0, IV 0, PP D, IV (IntKind.i64.wrap (dn2.tdiv (2 : Int))), IV 0, .bool false] 86) :: F6)
abbrev jOpenH16 (B4 : Nat) (pg1 : Int) (pp1 : OA) (pl1 pc1 : Nat) (pe1 : Int) (B3 : Nat) (pg : Int) (pp : OA) (pl pc : Nat) (pe : Int) (B2 B1 : Nat) (rs rs1 : BA) (B D : Nat) (dn2 : Int) (F7 : SHeap) : SHeap := ((B4, .cells #[IV pg1, .slice pp1 pl1 pc1, IV pe1] 84) :: (B3, .cells #[IV pg, .slice pp pl pc, IV pe] 84) :: (B2, .cells #[IV pg, .slice pp pl pc, IV pe, IV pg1, .slice pp1 pl1 pc1, IV pe1] 89) :: (B1, .cells #[.string rs, .string rs1] 87) :: (B, .cells #[IV 0, .slice none 0 0, IV 0, PP D, IV (IntKind.i64.wrap (dn2.tdiv (2 : Int))), IV 0, .bool false] 86) :: F7)
abbrev jOpenA0 (D : Nat) (dn2 : Int) : Array Value := #[IV 0, .slice none 0 0, IV 0, PP D, IV (IntKind.i64.wrap (dn2.tdiv (2 : Int))), IV 0, .bool false]
abbrev jOpenA1 (m01 : Int) (m11_p : OA) (m11_l m11_c : Nat) (m2 m3 : Int) (m41_p : OA) (m41_l m41_c : Nat) (m5 : Int) : Array Value := #[IV m01, .slice m11_p m11_l m11_c, IV m2, IV m3, .slice m41_p m41_l m41_c, IV m5]
def jOpen_c0 (D B5 B6 B7 : Nat) (first second : Int) (m3_b : Nat) (m4 : Int) (m0 m1 : BA) (m01 : Int) (m11_p : OA) (m11_l m11_c : Nat) (m2 m3 : Int) (m41_p : OA) (m41_l m41_c : Nat) (m5 : Int) (F8 : SHeap) (S : List Nat) (w0 : World) (R : Ending → World → Prop) : Prop :=
 AtE TP 13 139 (KC Tryz.f13 4094) [(4, PP B5), (5, PP B6), (9, PP B7), (14, IV first), (15, IV second)] ((B5, .cells #[IV 0, .slice none 0 0, IV 0, PP m3_b, IV m4, IV 0, .bool false] 86) :: (B6, .cells #[.string m0, .string m1] 87) :: (B7, .cells (jOpenA1 m01 m11_p m11_l m11_c m2 m3 m41_p m41_l m41_c m5) 89) :: F8) S w0 (nrm R)
theorem jOpen_c0_vc (D B5 B6 B7 : Nat) (first second : Int) (m3_b : Nat) (m4 : Int) (m0 m1 : BA) (m01 : Int) (m11_p : OA) (m11_l m11_c : Nat) (m2 m3 : Int) (m41_p : OA) (m41_l m41_c : Nat) (m5 : Int) (F8 : SHeap)
 (H :
 Br (first < second)
 (CallH TP 46 ⟨[PP B5, .agg #[.string m0, .string m1]]⟩ ((B5, .cells #[IV m3, .slice m41_p m41_l m41_c, IV m5, PP m3_b, IV m4, IV 1, .bool false] 86) :: (B6, .cells #[.string m0, .string m1] 87) :: (B7, .cells (jOpenA1 m01 m11_p m11_l m11_c m2 m3 m41_p m41_l m41_c m5) 89) :: F8) S w0 (fun v L' => ∃ (sp : OA) (sl : Nat) (sc : Nat), ∃ F9, v = (.slice sp sl sc) ∧ L' = (jOpenH1 B5 m3 m41_p m41_l m41_c m5 m3_b m4 B6 m0 m1 B7 m01 m11_p m11_l m11_c m2 F9) ∧
 Br (m3 = 0)
 (CallH TP 48 ⟨[IV 1]⟩ (jOpenH1 B5 m3 m41_p m41_l m41_c m5 m3_b m4 B6 m0 m1 B7 m01 m11_p m11_l m11_c m2 F9) S w0 (fun v L' => ∃ r151 r161, v = (.tuple #[.string r151, IV r161]) ∧ L' = (jOpenH1 B5 m3 m41_p m41_l m41_c m5 m3_b m4 B6 m0 m1 B7 m01 m11_p m11_l m11_c m2 F9) ∧
 CallH TP 47 ⟨[.string r151, IV r161]⟩ (jOpenH1 B5 m3 m41_p m41_l m41_c m5 m3_b m4 B6 m0 m1 B7 m01 m11_p m11_l m11_c m2 F9) S w0 (fun v L' => ∃ r171, v = .string r171 ∧ L' = (jOpenH1 B5 m3 m41_p m41_l m41_c m5 m3_b m4 B6 m0 m1 B7 m01 m11_p m11_l m11_c m2 F9) ∧
 CallH TP 49 ⟨[PP B5, IV 0, .string r171]⟩ (jOpenH1 B5 m3 m41_p m41_l m41_c m5 m3_b m4 B6 m0 m1 B7 m01 m11_p m11_l m11_c m2 F9) S w0 (fun v L' => ∃ (sp1 : OA) (sc1 : Nat), ∃ F10, v = (.slice sp1 4 sc1) ∧ L' = (jOpenH11 B5 m3 m41_p m41_l m41_c m5 m3_b m4 B6 m0 m1 B7 m01 m11_p m11_l m11_c m2 F10) ∧
 ∃ news : List Value, (∀ W, Mem (jOpenH11 B5 m3 m41_p m41_l m41_c m5 m3_b m4 B6 m0 m1 B7 m01 m11_p m11_l m11_c m2 F10) S w0 W → Go.Src TP 1 92 (.slice sp1 4 sc1) 4 news W) ∧
 AppN TP 1 92 92 (.slice sp sl sc) (4) news (jOpenH11 B5 m3 m41_p m41_l m41_c m5 m3_b m4 B6 m0 m1 B7 m01 m11_p m11_l m11_c m2 F10) S w0 (fun v L' => ∃ (ap : OA) (ac : Nat), ∃ F11, v = (.slice ap (sl + 4) ac) ∧ L' = ((B5, .cells #[IV m3, .slice m41_p m41_l m41_c, IV m5, PP m3_b, IV m4, IV 1, .bool false] 86) :: (B6, .cells #[.string m0, .string m1] 87) :: (B7, .cells (jOpenA1 m01 m11_p m11_l m11_c m2 m3 m41_p m41_l m41_c m5) 89) :: F11) ∧
 CallH TP 50 ⟨[PP B5, .slice ap (sl + 4) ac]⟩ ((B5, .cells #[IV 1, .slice none 0 0, IV (r171.size : Int), PP m3_b, IV m4, IV 1, .bool false] 86) :: (B6, .cells #[.string m0, .string m1] 87) :: (B7, .cells (jOpenA1 m01 m11_p m11_l m11_c m2 m3 m41_p m41_l m41_c m5) 89) :: F11) S w0 (fun v L' => ∃ F12 re2, ∃ (br : Bool), v = IV re2 ∧ L' = (jOpenH12 B5 r171 m3_b m4 br B6 m0 m1 B7 m01 m11_p m11_l m11_c m2 m3 m41_p m41_l m41_c m5 F12) ∧
 Bn (re2 = 0)
 (Fin R (jOpenH12 B5 r171 m3_b m4 br B6 m0 m1 B7 m01 m11_p m11_l m11_c m2 m3 m41_p m41_l m41_c m5 F12) S w0 (.tuple #[.pointer none, IV re2]))
 (Fin R (jOpenH12 B5 r171 m3_b m4 br B6 m0 m1 B7 m01 m11_p m11_l m11_c m2 m3 m41_p m41_l m41_c m5 F12) S w0 (.tuple #[PP B5, IV 0]))))))))
 (CallH TP 50 ⟨[PP B5, .slice sp sl sc]⟩ (jOpenH1 B5 m3 m41_p m41_l m41_c m5 m3_b m4 B6 m0 m1 B7 m01 m11_p m11_l m11_c m2 F9) S w0 (fun v L' => ∃ F13 re3, ∃ (br1 : Bool), v = IV re3 ∧ L' = (jOpenH14 B5 m3 m41_p m41_l m41_c m5 m3_b m4 br1 B6 m0 m1 B7 m01 m11_p m11_l m11_c m2 F13) ∧
 Bn (re3 = 0)
 (Fin R (jOpenH14 B5 m3 m41_p m41_l m41_c m5 m3_b m4 br1 B6 m0 m1 B7 m01 m11_p m11_l m11_c m2 F13) S w0 (.tuple #[.pointer none, IV re3]))
 (Fin R (jOpenH14 B5 m3 m41_p m41_l m41_c m5 m3_b m4 br1 B6 m0 m1 B7 m01 m11_p m11_l m11_c m2 F13) S w0 (.tuple #[PP B5, IV 0]))))))
 (CallH TP 46 ⟨[PP B5, .agg #[.string m0, .string m1]]⟩ ((B5, .cells #[IV m01, .slice m11_p m11_l m11_c, IV m2, PP m3_b, IV m4, IV 0, .bool false] 86) :: (B6, .cells #[.string m0, .string m1] 87) :: (B7, .cells (jOpenA1 m01 m11_p m11_l m11_c m2 m3 m41_p m41_l m41_c m5) 89) :: F8) S w0 (fun v L' => ∃ (sp2 : OA) (sl1 : Nat) (sc2 : Nat), ∃ F14, v = (.slice sp2 sl1 sc2) ∧ L' = (jOpenH0 B5 m01 m11_p m11_l m11_c m2 m3_b m4 B6 m0 m1 B7 m3 m41_p m41_l m41_c m5 F14) ∧
 Br (m01 = 0)
 (CallH TP 48 ⟨[IV 1]⟩ (jOpenH0 B5 m01 m11_p m11_l m11_c m2 m3_b m4 B6 m0 m1 B7 m3 m41_p m41_l m41_c m5 F14) S w0 (fun v L' => ∃ r231 r241, v = (.tuple #[.string r231, IV r241]) ∧ L' = (jOpenH0 B5 m01 m11_p m11_l m11_c m2 m3_b m4 B6 m0 m1 B7 m3 m41_p m41_l m41_c m5 F14) ∧
 CallH TP 47 ⟨[.string r231, IV r241]⟩ (jOpenH0 B5 m01 m11_p m11_l m11_c m2 m3_b m4 B6 m0 m1 B7 m3 m41_p m41_l m41_c m5 F14) S w0 (fun v L' => ∃ r251, v = .string r251 ∧ L' = (jOpenH0 B5 m01 m11_p m11_l m11_c m2 m3_b m4 B6 m0 m1 B7 m3 m41_p m41_l m41_c m5 F14) ∧
 CallH TP 49 ⟨[PP B5, IV 0, .string r251]⟩ (jOpenH0 B5 m01 m11_p m11_l m11_c m2 m3_b m4 B6 m0 m1 B7 m3 m41_p m41_l m41_c m5 F14) S w0 (fun v L' => ∃ (sp3 : OA) (sc3 : Nat), ∃ F15, v = (.slice sp3 4 sc3) ∧ L' = (jOpenH10 B5 m01 m11_p m11_l m11_c m2 m3_b m4 B6 m0 m1 B7 m3 m41_p m41_l m41_c m5 F15) ∧
 ∃ news1 : List Value, (∀ W, Mem (jOpenH10 B5 m01 m11_p m11_l m11_c m2 m3_b m4 B6 m0 m1 B7 m3 m41_p m41_l m41_c m5 F15) S w0 W → Go.Src TP 1 92 (.slice sp3 4 sc3) 4 news1 W) ∧
 AppN TP 1 92 92 (.slice sp2 sl1 sc2) (4) news1 (jOpenH10 B5 m01 m11_p m11_l m11_c m2 m3_b m4 B6 m0 m1 B7 m3 m41_p m41_l m41_c m5 F15) S w0 (fun v L' => ∃ (ap1 : OA) (ac1 : Nat), ∃ F16, v = (.slice ap1 (sl1 + 4) ac1) ∧ L' = ((B5, .cells #[IV m01, .slice m11_p m11_l m11_c, IV m2, PP m3_b, IV m4, IV 0, .bool false] 86) :: (B6, .cells #[.string m0, .string m1] 87) :: (B7, .cells (jOpenA1 m01 m11_p m11_l m11_c m2 m3 m41_p m41_l m41_c m5) 89) :: F16) ∧
 CallH TP 50 ⟨[PP B5, .slice ap1 (sl1 + 4) ac1]⟩ ((B5, .cells #[IV 1, .slice none 0 0, IV (r251.size : Int), PP m3_b, IV m4, IV 0, .bool false] 86) :: (B6, .cells #[.string m0, .string m1] 87) :: (B7, .cells (jOpenA1 m01 m11_p m11_l m11_c m2 m3 m41_p m41_l m41_c m5) 89) :: F16) S w0 (fun v L' => ∃ F17 re4, ∃ (br2 : Bool), v = IV re4 ∧ L' = (jOpenH6 B5 r251 m3_b m4 br2 B6 m0 m1 B7 m01 m11_p m11_l m11_c m2 m3 m41_p m41_l m41_c m5 F17) ∧
 Bn (re4 = 0)
 (Fin R (jOpenH6 B5 r251 m3_b m4 br2 B6 m0 m1 B7 m01 m11_p m11_l m11_c m2 m3 m41_p m41_l m41_c m5 F17) S w0 (.tuple #[.pointer none, IV re4]))
 (Fin R (jOpenH6 B5 r251 m3_b m4 br2 B6 m0 m1 B7 m01 m11_p m11_l m11_c m2 m3 m41_p m41_l m41_c m5 F17) S w0 (.tuple #[PP B5, IV 0]))))))))
 (CallH TP 50 ⟨[PP B5, .slice sp2 sl1 sc2]⟩ (jOpenH0 B5 m01 m11_p m11_l m11_c m2 m3_b m4 B6 m0 m1 B7 m3 m41_p m41_l m41_c m5 F14) S w0 (fun v L' => ∃ F18 re5, ∃ (br3 : Bool), v = IV re5 ∧ L' = (jOpenH13 B5 m01 m11_p m11_l m11_c m2 m3_b m4 br3 B6 m0 m1 B7 m3 m41_p m41_l m41_c m5 F18) ∧
 Bn (re5 = 0)
 (Fin R (jOpenH13 B5 m01 m11_p m11_l m11_c m2 m3_b m4 br3 B6 m0 m1 B7 m3 m41_p m41_l m41_c m5 F18) S w0 (.tuple #[.pointer none, IV re5]))
 (Fin R (jOpenH13 B5 m01 m11_p m11_l m11_c m2 m3_b m4 br3 B6 m0 m1 B7 m3 m41_p m41_l m41_c m5 F18) S w0 (.tuple #[PP B5, IV 0]))))))) :
 jOpen_c0 D B5 B6 B7 first second m3_b m4 m0 m1 m01 m11_p m11_l m11_c m2 m3 m41_p m41_l m41_c m5 F8 S w0 R:= by
 unfold jOpen_c0
 refine .ru 6 (.sP 95 H (fun H => ?_) fun H => ?_)
 ·refine .ru 5 (.store 0 5 (T := 3) (v := IV 1) (by kernel_rfl) (.ru 7 (.ld 0 5 (.ru 1 (.ld 2 3 (.ru 2 (.store 0 0 (T := 84) (v := .agg #[IV m3, .slice m41_p m41_l m41_c, IV m5]) (by kernel_rfl) (.ru 4 (.ld 1 0 (.cl H ?_))))))))))
  rintro _ _ ⟨sp, sl, sc, F9, rfl, rfl, H⟩
  refine .nm (KR Tryz.f13 16382 [3]) [(4, PP B5), (110, .slice sp sl sc)] (jOpenH1 B5 m3 m41_p m41_l m41_c m5 m3_b m4 B6 m0 m1 B7 m01 m11_p m11_l m11_c m2 F9) (.ru 9 (.ld 0 0 (.ru 2 (.sP 116 H (fun H => ?_) fun H => ?_))))
  ·refine .ru 3 (.cl H ?_)
   rintro _ _ ⟨r151, r161, rfl, rfl, H⟩
   refine .ru 2 (.cl H ?_)
   rintro _ _ ⟨r171, rfl, rfl, H⟩
   refine .ru 7 (.cl H ?_)
   rintro _ _ ⟨sp1, sc1, F10, rfl, rfl, H⟩
   obtain ⟨news, hsrc, H⟩ := H
   refine .appendT (sz := 1) (T := 92) (U := 92) (s := .slice sp sl sc) (x := .slice sp1 4 sc1) (4) news (by kernel_rfl) hsrc H ?_
   rintro _ _ ⟨ap, ac, F11, rfl, rfl, H⟩
   refine .ru 9 (.store 0 0 (T := 84) (v := .agg #[IV 1, .slice none 0 0, IV (r171.size : Int)]) (by kernel_rfl) (.nm (KR Tryz.f13 524267 []) [(4, PP B5), (16, .slice ap (sl + 4) ac)] ((B5, .cells #[IV 1, .slice none 0 0, IV (r171.size : Int), PP m3_b, IV m4, IV 1, .bool false] 86) :: (B6, .cells #[.string m0, .string m1] 87) :: (B7, .cells (jOpenA1 m01 m11_p m11_l m11_c m2 m3 m41_p m41_l m41_c m5) 89) :: F11) (.ru 6 (.cl H ?_))))
   rintro _ _ ⟨F12, re2, br, rfl, rfl, H⟩
   refine .ru 7 (.sN 136 H (fun H => ?_) fun H => ?_)
   ·refine .ru 7 (.rt Tryz.func13 H)
   ·refine .ru 8 (.rt Tryz.func13 H)
  ·refine .ru 7 (.cl H ?_)
   rintro _ _ ⟨F13, re3, br1, rfl, rfl, H⟩
   refine .ru 7 (.sN 136 H (fun H => ?_) fun H => ?_)
   ·refine .ru 7 (.rt Tryz.func13 H)
   ·refine .ru 8 (.rt Tryz.func13 H)
 ·refine .ru 8 (.ld 0 5 (.ru 1 (.ld 2 0 (.ru 2 (.store 0 0 (T := 84) (v := .agg #[IV m01, .slice m11_p m11_l m11_c, IV m2]) (by kernel_rfl) (.ru 4 (.ld 1 0 (.cl H ?_))))))))
  rintro _ _ ⟨sp2, sl1, sc2, F14, rfl, rfl, H⟩
  refine .ru 9 (.ld 0 0 (.nm (KR Tryz.f13 65532 [5]) [(4, PP B5), (16, .slice sp2 sl1 sc2), (115, IV m01)] (jOpenH0 B5 m01 m11_p m11_l m11_c m2 m3_b m4 B6 m0 m1 B7 m3 m41_p m41_l m41_c m5 F14) (.ru 2 (.sP 116 H (fun H => ?_) fun H => ?_))))
  ·refine .ru 3 (.cl H ?_)
   rintro _ _ ⟨r231, r241, rfl, rfl, H⟩
   refine .ru 2 (.cl H ?_)
   rintro _ _ ⟨r251, rfl, rfl, H⟩
   refine .ru 7 (.cl H ?_)
   rintro _ _ ⟨sp3, sc3, F15, rfl, rfl, H⟩
   obtain ⟨news1, hsrc, H⟩ := H
   refine .appendT (sz := 1) (T := 92) (U := 92) (s := .slice sp2 sl1 sc2) (x := .slice sp3 4 sc3) (4) news1 (by kernel_rfl) hsrc H ?_
   rintro _ _ ⟨ap1, ac1, F16, rfl, rfl, H⟩
   refine .ru 9 (.store 0 0 (T := 84) (v := .agg #[IV 1, .slice none 0 0, IV (r251.size : Int)]) (by kernel_rfl) (.ru 6 (.cl H ?_)))
   rintro _ _ ⟨F17, re4, br2, rfl, rfl, H⟩
   refine .nm (KR Tryz.f13 131068 [3]) [(4, PP B5), (134, IV re4)] (jOpenH6 B5 r251 m3_b m4 br2 B6 m0 m1 B7 m01 m11_p m11_l m11_c m2 m3 m41_p m41_l m41_c m5 F17) (.ru 7 (.sN 136 H (fun H => ?_) fun H => ?_))
   ·refine .ru 7 (.rt Tryz.func13 H)
   ·refine .ru 8 (.rt Tryz.func13 H)
  ·refine .ru 7 (.cl H ?_)
   rintro _ _ ⟨F18, re5, br3, rfl, rfl, H⟩
   refine .ru 7 (.sN 136 H (fun H => ?_) fun H => ?_)
   ·refine .ru 7 (.rt Tryz.func13 H)
   ·refine .ru 8 (.rt Tryz.func13 H)
theorem jOpen_vc (D : Nat) (F : SHeap) (hm : Mem (F) S w0 W)
 (H :
 CallH TP 42 ⟨[PP D]⟩ (F) S w0 (fun v L' => ∃ F1 dn, v = IV dn ∧ L' = F1 ∧
 Br (dn = 0)
 (Fin R (F1) S w0 (.tuple #[.pointer none, IV 1]))
 (CallH TP 42 ⟨[PP D]⟩ (F1) S w0 (fun v L' => ∃ F2 dn1, v = IV dn1 ∧ L' = F2 ∧
 Br (dn1 < 64)
 (Fin R (F2) S w0 (.tuple #[.pointer none, IV 240]))
 (CallH TP 42 ⟨[PP D]⟩ (F2) S w0 (fun v L' => ∃ F3 dn2, v = IV dn2 ∧ L' = F3 ∧
 ∀ B B1 : Nat,
 ∃ (r41 : Int), (QCallB TP 44 ⟨[PP B, IV 0]⟩ (jOpenH7 B1 B D dn2) S w0 (IV r41)) ∧
 CallH TP 43 ⟨[PP D, IV r41, IV (IntKind.i64.wrap (dn2.tdiv (2 : Int)))]⟩ (jOpenH3 B1 B D dn2 F3) S w0 (fun v L' => ∃ F4 rs re, v = (.tuple #[.string rs, IV re]) ∧ L' = (jOpenH4 B1 B D dn2 F4) ∧
 Bn (re = 0)
 (Fin R (jOpenH4 B1 B D dn2 F4) S w0 (.tuple #[.pointer none, IV re]))
 (∃ (r71 : Int), (QCallB TP 44 ⟨[PP B, IV 1]⟩ (jOpenH9 B1 rs B D dn2) S w0 (IV r71)) ∧
 CallH TP 43 ⟨[PP D, IV r71, IV (IntKind.i64.wrap (dn2.tdiv (2 : Int)))]⟩ (jOpenH8 B1 rs B D dn2 F4) S w0 (fun v L' => ∃ F5 rs1 re1, v = (.tuple #[.string rs1, IV re1]) ∧ L' = (jOpenH5 B1 rs B D dn2 F5) ∧
 Bn (re1 = 0)
 (Fin R (jOpenH5 B1 rs B D dn2 F5) S w0 (.tuple #[.pointer none, IV re1]))
 (∀ B2 : Nat,
 CallH TP 45 ⟨[.string rs]⟩ ((B2, .cells zK7aa 89) :: (B1, .cells #[.string rs, .string rs1] 87) :: (B, .cells (jOpenA0 D dn2) 86) :: F5) S w0 (fun v L' => ∃ pg, ∃ (pp : OA) (pl : Nat) (pc : Nat), ∃ pe good F6, v = (.tuple #[.agg #[IV pg, .slice pp pl pc, IV pe], .bool good]) ∧ L' = ((B2, .cells zK7aa 89) :: (B1, .cells #[.string rs, .string rs1] 87) :: (B, .cells (jOpenA0 D dn2) 86) :: F6) ∧
 ∀ B3 : Nat,
 Bb (good)
 (CallH TP 45 ⟨[.string rs1]⟩ ((B3, .cells #[IV pg, .slice pp pl pc, IV pe] 84) :: (B2, .cells #[IV pg, .slice pp pl pc, IV pe, IV 0, .slice none 0 0, IV 0] 89) :: (B1, .cells #[.string rs, .string rs1] 87) :: (B, .cells (jOpenA0 D dn2) 86) :: F6) S w0 (fun v L' => ∃ pg1, ∃ (pp1 : OA) (pl1 : Nat) (pc1 : Nat), ∃ pe1 good1 F7, v = (.tuple #[.agg #[IV pg1, .slice pp1 pl1 pc1, IV pe1], .bool good1]) ∧ L' = ((B3, .cells #[IV pg, .slice pp pl pc, IV pe] 84) :: (B2, .cells #[IV pg, .slice pp pl pc, IV pe, IV 0, .slice none 0 0, IV 0] 89) :: (B1, .cells #[.string rs, .string rs1] 87) :: (B, .cells (jOpenA0 D dn2) 86) :: F7) ∧
 ∀ B4 : Nat,
 Bb (good1)
 (Br ((0 : Int) < pg)
 (Br ((0 : Int) < pg1)
 (Bn ((IntKind.i64.wrap (pg - pg1)) = (1 : Int))
 (Bn ((IntKind.i64.wrap (pg1 - pg)) = (1 : Int))
 (Fin R (jOpenH16 B4 pg1 pp1 pl1 pc1 pe1 B3 pg pp pl pc pe B2 B1 rs rs1 B D dn2 F7) S w0 (.tuple #[.pointer none, IV 242]))
 (jOpen_c0 D B B1 B2 pg pg1 D (IntKind.i64.wrap (dn2.tdiv (2 : Int))) rs rs1 pg pp pl pc pe pg1 pp1 pl1 pc1 pe1 F7 S w0 R))
 (jOpen_c0 D B B1 B2 pg pg1 D (IntKind.i64.wrap (dn2.tdiv (2 : Int))) rs rs1 pg pp pl pc pe pg1 pp1 pl1 pc1 pe1 F7 S w0 R))
 (jOpen_c0 D B B1 B2 pg pg1 D (IntKind.i64.wrap (dn2.tdiv (2 : Int))) rs rs1 pg pp pl pc pe pg1 pp1 pl1 pc1 pe1 F7 S w0 R))
 (jOpen_c0 D B B1 B2 pg pg1 D (IntKind.i64.wrap (dn2.tdiv (2 : Int))) rs rs1 pg pp pl pc pe pg1 pp1 pl1 pc1 pe1 F7 S w0 R))
 (Fin R (jOpenH2 B4 pg1 pp1 pl1 pc1 pe1 B3 pg pp pl pc pe B2 B1 rs rs1 B D dn2 F7) S w0 (.tuple #[.pointer none, IV 242]))))
 (Fin R (jOpenH15 B3 pg pp pl pc pe B2 B1 rs rs1 B D dn2 F6) S w0 (.tuple #[.pointer none, IV 242]))))))))))))) :
 Calls TP 13 ⟨[PP D]⟩ W R:= by
 refine AtE.cs 139 Tryz.func13 hm (.ru 9 (.cl H ?_))
 rintro _ F1 ⟨_, dn, rfl, rfl, H⟩
 refine .ru 2 (.sP 21 H (fun H => ?_) fun H => ?_)
 ·refine .ru 6 (.rt Tryz.func13 H)
 ·refine .ru 6 (.cl H ?_)
  rintro _ F2 ⟨_, dn1, rfl, rfl, H⟩
  refine .ru 2 (.sP 24 H (fun H => ?_) fun H => ?_)
  ·refine .ru 6 (.rt Tryz.func13 H)
  ·refine .ru 6 (.cl H ?_)
   rintro _ F3 ⟨_, dn2, rfl, rfl, H⟩
   refine .ru 2 (.nH (.cells (jOpenA0 D dn2) 86) H fun B H => (.front (.ru 4 (.nH (.cells #[.string (⟨#[]⟩), .string (⟨#[]⟩)] 87) H fun B1 H => (.front (.nm (KR Tryz.f13 62 []) [(0, PP D), (4, PP B), (5, PP B1)] (jOpenH3 B1 B D dn2 F3) (.ru 23 (.nm (KC Tryz.f13 64818) [(0, PP D), (4, PP B), (5, PP B1), (6, IV 0), (31, IV 0)] (jOpenH3 B1 B D dn2 F3) (.dD (.ph 9 [0,1,2,3,4,5,6,7] [8] (jOpenH7 B1 B D dn2) (.pu (.pu (.pu ?_)))))))))))))
   obtain ⟨r41, hq, H⟩ := H
   refine .cl hq (.pu (.pu (.pu (.ld 1 4 (.dn (.cl H ?_))))))
   rintro _ _ ⟨F4, rs, re, rfl, rfl, H⟩
   refine .dn (.nm [(0, PP D), (4, PP B), (5, PP B1), (6, IV 0), (31, IV 0), (43, .tuple #[.string rs, IV re])] (jOpenH4 B1 B D dn2 F4) (.ph 14 [9,10,11,12,13] [] (jOpenH7 B1 B D dn2) (.pu (.pu (.pu (.pu (.pu (.dn (.dn (.nm [(0, PP D), (4, PP B), (5, PP B1), (6, IV 0), (7, .string rs), (8, IV re), (31, IV 0)] (jOpenH4 B1 B D dn2 F4) (.tl (.ru 7 (.sN 47 H (fun H => ?_) fun H => ?_)))))))))))))
   ·refine .ru 7 (.rt Tryz.func13 H)
   ·refine .ru 6 (.st 0 0 (.ru 22 (.nm (KC Tryz.f13 64818) [(0, PP D), (4, PP B), (5, PP B1), (6, IV 1), (31, IV 1)] (jOpenH8 B1 rs B D dn2 F4) (.dD (.ph 9 [0,1,2,3,4,5,6,7] [8] (jOpenH9 B1 rs B D dn2) (.pu (.pu (.pu ?_))))))))
    obtain ⟨r71, hq, H⟩ := H
    refine .cl hq (.pu (.pu (.pu (.ld 1 4 (.dn (.cl H ?_))))))
    rintro _ _ ⟨F5, rs1, re1, rfl, rfl, H⟩
    refine .dn (.nm [(0, PP D), (4, PP B), (5, PP B1), (6, IV 1), (31, IV 1), (43, .tuple #[.string rs1, IV re1])] (jOpenH5 B1 rs B D dn2 F5) (.ph 14 [9,10,11,12,13] [] (jOpenH9 B1 rs B D dn2) (.pu (.pu (.pu (.pu (.pu (.dn (.dn (.nm [(0, PP D), (4, PP B), (5, PP B1), (6, IV 1), (7, .string rs1), (8, IV re1), (31, IV 1)] (jOpenH5 B1 rs B D dn2 F5) (.tl (.ru 7 (.sN 47 H (fun H => ?_) fun H => ?_)))))))))))))
    ·refine .ru 7 (.rt Tryz.func13 H)
    ·refine .ru 6 (.st 0 1 (.ru 16 (.nH (.cells zK7aa 89) H fun B2 H => (.front (.ru 4 (.ld 1 0 (.ru 23 (.cl H ?_))))))))
     rintro _ _ ⟨pg, pp, pl, pc, pe, good, F6, rfl, rfl, H⟩
     refine .ru 3 (.nH (.cells #[IV 0, .slice none 0 0, IV 0] 84) H fun B3 H => (.front (.st 0 0 (.nm (KR Tryz.f13 261426 [7]) [(4, PP B), (5, PP B1), (9, PP B2), (10, IV 0), (12, PP B3), (53, .agg #[.string rs, .string rs1]), (54, IV 0), (62, .bool good)] (jOpenH15 B3 pg pp pl pc pe B2 B1 rs rs1 B D dn2 F6) (.ru 6 (.sB 63 H (fun H => ?_) fun H => ?_))))))
     ·refine .ru 6 (.ld 0 0 (.ru 1 (.st 1 0 (.ru 26 (.cl H ?_)))))
      rintro _ _ ⟨pg1, pp1, pl1, pc1, pe1, good1, F7, rfl, rfl, H⟩
      refine .ru 3 (.nH (.cells #[IV 0, .slice none 0 0, IV 0] 84) H fun B4 H => (.front (.st 0 0 (.ru 6 (.sB 63 H (fun H => ?_) fun H => ?_)))))
      ·refine .nm (KR Tryz.f13 1045708 [1]) [(4, PP B), (5, PP B1), (9, PP B2), (10, IV 1), (12, PP B4), (53, .agg #[.string rs, .string rs1]), (54, IV 1), (63, .bool true)] (jOpenH2 B4 pg1 pp1 pl1 pc1 pe1 B3 pg pp pl pc pe B2 B1 rs rs1 B D dn2 F7) (.ru 6 (.ld 0 0 (.ru 1 (.st 2 3 (.ru 15 (.nm (KC Tryz.f13 1022) [(4, PP B), (5, PP B1), (9, PP B2)] (jOpenH16 B4 pg1 pp1 pl1 pc1 pe1 B3 pg pp pl pc pe B2 B1 rs rs1 B D dn2 F7) (.dr 8 (.pu (.pu (.ld 2 0 (.pu (.pu (.ld 2 3 (.pu (.pu (.dn (.ru 7 (.sP 77 H (fun H => ?_) fun H => ?_))))))))))))))))))
       ·refine .ru 4 (.sP 81 H (fun H => ?_) fun H => ?_)
        ·refine .ru 6 (.sN 87 H (fun H => ?_) fun H => ?_)
         ·refine .ru 6 (.sN 92 H (fun H => ?_) fun H => ?_)
          ·refine .ru 6 (.rt Tryz.func13 H)
          ·refine .ru 3 (.tT [4,3,2] 5 H)
         ·refine .ru 9 (.tT [4,3,2] 5 H)
        ·refine .ru 15 (.tT [4,3,2] 5 H)
       ·refine .ru 19 (.tT [4,3,2] 5 H)
      ·refine .nm (KR Tryz.f13 1045708 [1]) [(4, PP B), (5, PP B1), (9, PP B2), (10, IV 1), (12, PP B4), (53, .agg #[.string rs, .string rs1]), (54, IV 1), (63, .bool false)] (jOpenH2 B4 pg1 pp1 pl1 pc1 pe1 B3 pg pp pl pc pe B2 B1 rs rs1 B D dn2 F7) (.ru 8 (.rt Tryz.func13 H))
     ·refine .ru 8 (.rt Tryz.func13 H)
def img0 (d : DS) : List UInt8 := d.vis.take (d.vis.length / 2)
def img1 (d : DS) : List UInt8 := (d.vis.drop (d.vis.length / 2)).take (d.vis.length / 2)
def openJ (sz : Nat) (h0 h1 : Int × List Fct × Nat) : JM := if h0.1 < h1.1 then ⟨h1.1, h1.2.1, h1.2.2, sz, 1, false⟩ else ⟨h0.1, h0.2.1, h0.2.2, sz, 0, false⟩
def openOps (i0 i1 : List UInt8) (j : JM) : List DOp := if j.gen = 0 then cleanOps j.gen j.cu j.en j.sz i0 i1 ++ safeOps 0 (ba (headL 1)) else cleanOps j.gen j.cu j.en j.sz i0 i1
def openF (j : JM) : JM := if j.gen = 0 then ⟨1, [], (headL 1).length, j.sz, j.cu, j.br⟩ else j
def openRun (i0 i1 : List UInt8) (j : JM) (d : DS) : Int × Option JM × DS :=
 if (runOps (openOps i0 i1 j) d).1 = 0 then (0, some (openF j), (runOps (openOps i0 i1 j) d).2) else ((runOps (openOps i0 i1 j) d).1, none, (runOps (openOps i0 i1 j) d).2)
def openM (d : DS) : Int × Option JM × DS :=
 if d.vis.length < 64 then (240, none, d) else if d.on = false then (231, none, d) else
 match halfR (img0 d), halfR (img1 d) with
 | some h0, some h1 => if 0 < h0.1 ∧ 0 < h1.1 ∧ ¬ (h0.1 - h1.1 = 1) ∧ ¬ (h1.1 - h0.1 = 1) then (242, none, d) else openRun (img0 d) (img1 d) (openJ (d.vis.length / 2) h0 h1) d
 | _, _ => (242, none, d)
def OpnK (D : Nat) (r : Int × Option JM × DS) (v : Value) (L' : SHeap) : Prop :=
 match r with
 | (e, none, d') => v = .tuple #[.pointer none, .int .i64 e] ∧ ∃ F' X, L'.Perm (F' ++ X) ∧ DRep D d' F'
 | (e, some m, d') => ∃ JB, v = .tuple #[pt JB 0, .int .i64 0] ∧ JD JB D m d' L'
theorem run_s {JB D : Nat} {ops : List DOp} {q : OA} {qc n : Nat} {N F : SHeap} {j : JS} {d : DS} (hs : SRow JB D ops q qc N) (hn : ops.length = n) (hno : n ≤ 1000) (hd : DRep D d F) (hp : d.pend.length < 900000) :
  EffC TP 50 ⟨[pt JB 0, .slice q n qc]⟩ (jH JB D j :: (F ++ N)) (RunK JB D j N (runOps ops d)) := by
 subst hn
 obtain ⟨h1, ⟨rfl, rfl, rfl⟩ | ⟨Q, cs, G0, rfl, h2, h3, h4⟩⟩ := hs
 ·intro W hm
  refine jRun_vc JB none 0 0 j.gen j.fp j.fl j.fc j.en D j.sz j.cu j.br (F ++ N) hm ?_
  apply jRun_c0_vc
  exact no (by omega) (dkFin ⟨F, rfl, rfl, hd⟩)
 ·refine run_e (Bs := Q) (vs := cs) (sc := qc) (h2.mem_iff.2 List.mem_cons_self) (by omega) (fun i hi => ?_) hno hd hp
  obtain ⟨v, k1, k2⟩ := h4 i hi
  have : cs[i]'(by omega) = v := by
   rw [List.getElem?_eq_getElem (by omega)] at k1
   exact Option.some.inj k1
  rw [this]
  exact k2.mono fun x hx => h2.mem_iff.2 (List.mem_cons_of_mem _ hx)
theorem CallH.monoP {P : Program} {L : SHeap} {S : List Nat} {w0 : World} {g : FuncId} {args : Array Value} {K K' : Value → SHeap → Prop} (h : CallH P g args L S w0 K) (hk : ∀ v L', K v L' → ∃ L2, L'.Perm L2 ∧ K' v L2) : CallH P g args L S w0 K' :=
 fun W hm => (h W hm).mono fun _ _ ⟨v, L', h1, h2, h3⟩ => by
  obtain ⟨L2, h4, h5⟩ := hk v L' h3
  exact ⟨v, L2, h1, h2.perm h4.symm, h5⟩
section perms
variable (x y z q u : Nat × Obj) (A F T X Z N G Y L F8 : SHeap)
theorem po0 : ((x :: X) ++ (y :: z :: A)).Perm (x :: y :: z :: (X ++ A)) := perm_a
theorem po1 (hp : L.Perm (x :: (N ++ (Y ++ (y :: z :: F8))))) : L.Perm (x :: y :: z :: (N ++ (Y ++ F8))) := perm_of fun c w h1 h2 h3 h4 => by
 have := h4 _ _ hp
 simp only [h1, h2, h3] at this ⊢; omega
theorem po2 (hp : F8.Perm (F ++ T)) : ((x :: (F ++ N)) ++ (y :: z :: (Y ++ T))).Perm (x :: y :: z :: (N ++ (Y ++ F8))) := perm_of fun c w h1 h2 h3 h4 => by
 have := h4 _ _ hp
 simp only [h1, h2, h3] at this ⊢; omega
theorem po3 : ((x :: (F ++ N)) ++ (y :: z :: (Y ++ T))).Perm (x :: y :: z :: (F ++ (N ++ (Y ++ T)))) := perm_a
theorem po4 : (x :: y :: z :: (F ++ A)).Perm (F ++ (x :: y :: z :: A)) := perm_a
theorem po5 : (x :: y :: z :: (F ++ (N ++ (Y ++ T)))).Perm (x :: (F ++ ((y :: z :: (N ++ Y)) ++ T))) := perm_a
theorem po6 (hp : F8.Perm (F ++ T)) : (x :: y :: z :: (X ++ (N ++ (Y ++ F8)))).Perm (X ++ (N ++ (x :: y :: z :: (Y ++ (F ++ T))))) := perm_of fun c w h1 h2 h3 h4 => by
 have := h4 _ _ hp
 simp only [h1, h2, h3] at this ⊢; omega
theorem po7 : (N ++ (x :: y :: z :: (Y ++ (F ++ T)))).Perm (x :: y :: z :: (N ++ (Y ++ (F ++ T)))) := perm_a
end perms
section opn
variable {JB D : Nat} {m : JM} {p : Option Addr} {c : Nat} {T F F8 : SHeap} {S : List Nat} {w0 : World} (y z : Nat × Obj)
abbrev OpnR (S : List Nat) (w0 : World) (D : Nat) (r : Int × Option JM × DS) : Ending → World → Prop := fun e W' => ∃ v L', e = .returned v ∧ Mem L' S w0 W' ∧ OpnK D r v L'
theorem open_end {d : DS} {i0 i1 : List UInt8} {j0 : JM} {ops : List DOp} {q : OA} {qc n : Nat} {N Y : SHeap} (hf : openF j0 = m) (hops : openOps i0 i1 j0 = ops) (hF : F8.Perm (F ++ T)) (hT : FRow noLk m.fs p c T) (hs : SRow JB D ops q qc N) (hn : ops.length = n) (hno : n ≤ 1000) (hd : DRep D d F) (hp : d.pend.length < 900000) :
    CallH TP 50 ⟨[pt JB 0, .slice q n qc]⟩ (jH JB D (m.js p c) :: y :: z :: (N ++ (Y ++ F8))) S w0 (fun v L' => ∃ (F13 : SHeap) (re3 : Int) (br1 : Bool), v = (.int .i64 re3) ∧ L' = (jH JB D { m.js p c with br := br1 } :: y :: z :: F13) ∧
              ((¬ (re3 = (0 : Int))) →
                Fin (OpnR S w0 D (openRun i0 i1 j0 d)) (jH JB D { m.js p c with br := br1 } :: y :: z :: F13) S w0 (.tuple #[.pointer none, .int .i64 re3])) ∧
               ((re3 = (0 : Int)) →
                Fin (OpnR S w0 D (openRun i0 i1 j0 d)) (jH JB D { m.js p c with br := br1 } :: y :: z :: F13) S w0 (.tuple #[.pointer (SO JB), .int .i64 (0 : Int)]))) := by
  refine CallH.eff (L0 := jH JB D (m.js p c) :: (F ++ N)) (L1 := y :: z :: (Y ++ T)) (run_s (j := m.js p c) hs hn hno hd hp) (po2 _ _ _ _ _ _ _ _ hF) ?_
  rintro _ _ ⟨F', rfl, rfl, hd'⟩
  have hR : openRun i0 i1 j0 d = if (runOps ops d).1 = 0 then (0, some m, (runOps ops d).2) else ((runOps ops d).1, none, (runOps ops d).2) := by rw [openRun, hops, hf]
  generalize runOps ops d = r at *
  have ha : jH JB D ((m.js p c).after r.1) = jH JB D { m.js p c with br := ((m.js p c).after r.1).br } := by
    unfold JS.after; split <;> rfl
  rw [ha]
  refine ⟨_, po3 _ _ _ _ _ _ _, _, r.1, ((m.js p c).after r.1).br, rfl, rfl, fun hne => ?_, fun he => ?_⟩
  · rw [hR, if_neg hne]
    exact dkFin ⟨rfl, F', _, po4 _ _ _ _ _, hd'⟩
  · rw [hR, if_pos he]
    have hb : ((m.js p c).after r.1).br = m.br := by rw [JS.after, if_pos he]
    rw [hb]
    exact dkFin ⟨JB, rfl, F', p, c, _, po5 _ _ _ _ _ _ _, hd', hT.more _⟩
theorem dirtyOp_len (k sz fr : Nat) (img : List UInt8) : (dirtyOp k sz fr img).length ≤ 1 := by
 unfold dirtyOp; split
 ·exact Nat.zero_le _
 ·exact Nat.le_refl 1
theorem cleanOps_len (gen : Int) (cu en sz : Nat) (i0 i1 : List UInt8) : (cleanOps gen cu en sz i0 i1).length ≤ 3 := by
 have a1 := dirtyOp_len 0 sz en i0; have a2 := dirtyOp_len 1 sz 0 i1; have a3 := dirtyOp_len 0 sz 0 i0; have a4 := dirtyOp_len 1 sz en i1
 have key : ∀ l : List DOp, l.length ≤ 2 → (syncIf l).length ≤ 3 := by
  intro l hl
  unfold syncIf; split
  ·exact Nat.zero_le _
  ·rw [List.length_append]; simp; omega
 unfold cleanOps
 apply key
 repeat' split
 all_goals rw [List.length_append]; omega
theorem src_steps {L X : SHeap} {ops : List DOp} {Bs : Nat} (hn : ops.length = 4) (h : StepsAt X JB D ops Bs) (hin : ∀ x ∈ X, x ∈ L) : ∃ news : List Value, (∀ W, Mem L S w0 W → Go.Src TP 1 92 (.slice (SO Bs) 4 4) 4 news W) ∧ ∃ hl : ops.length = news.length, ∀ i (hi : i < ops.length), StepAt X JB D ops[i] (news[i]'(by omega)) := by
 obtain ⟨vs, t, fz, h1, h2, h3⟩ := h
 have hl : (vs.take 4).length = 4 := by rw [List.length_take]; omega
 refine ⟨vs.take 4, fun W hm => Go.Src.ofSlice W (e' := 53) (by kernel_rfl) ⟨Bs, 0, none⟩ 4 4 (vs.take 4) hl (fun j u hu => ?_) (fun u hu => ?_), by omega, fun i hi => ?_⟩
 ·rw [addr_add, Nat.zero_add, cell_of_heap (hm.here _ (hin _ h1))]
  rw [List.getElem?_take] at hu
  split at hu
  ·exact hu
  ·cases hu
 ·obtain ⟨i, hi, rfl⟩ := List.mem_iff_getElem.1 hu
  have hs := h3 i (by omega)
  rw [List.getElem_take]
  revert hs
  generalize ops[i]'(by omega) = o
  intro hs
  cases o with
  | sync => rw [show vs[i]'(by omega) = _ from hs]; rfl
  | write off s => obtain ⟨a, b, c, e, _⟩ := hs; rw [e]; rfl
 ·rw [List.getElem_take]; exact h3 i hi
theorem open_c0 {d : DS} {rs rs1 : BA} {sz : Nat} {g0 g1 : Int} {f0 f1 : List Fct} {e0 e1 : Nat} {p0 p1 : OA} {c0 c1 : Nat} {B6 B7 : Nat} (hg : blkW w0 0 = some tabV) (hS : 0 ∉ S) (hsz : sz ≤ 2097152) (h0 : rs.size ≤ 2097152) (h1 : rs1.size ≤ 2097152) (he0 : e0 ≤ rs.size) (he1 : e1 ≤ rs1.size) (hg0 : 0 ≤ g0)
  (hF : F8.Perm (F ++ T)) (hT0 : FRow noLk f0 p0 c0 T) (hT1 : FRow noLk f1 p1 c1 T) (hd : DRep D d F) (hp : d.pend.length < 900000) :
  jOpen_c0 D JB B6 B7 g0 g1 D (sz : Int) rs rs1 g0 p0 f0.length c0 (e0 : Int) g1 p1 f1.length c1 (e1 : Int) F8 S w0 (OpnR S w0 D (openRun (bts rs) (bts rs1) (openJ sz (g0, f0, e0) (g1, f1, e1)) d)) := by
 apply jOpen_c0_vc
 refine ⟨fun hlt => ?_, fun hge => ?_⟩
 ·have hj : openJ sz (g0, f0, e0) (g1, f1, e1) = ⟨g1, f1, e1, sz, 1, false⟩ := if_pos hlt
  rw [hj]
  refine CallH.monoP (fun W hm => cleaning1 (JB := JB) (D := D) (p := p1) (c := c1) (gen := g1) (fs := f1) (en := e1) (br := false) hsz h0 h1 he1 hm) ?_
  rintro _ L' ⟨q, qc, N, Y, rfl, hp2, hs⟩
  have hl := cleanOps_len g1 1 e1 sz (bts rs) (bts rs1)
  refine ⟨_, po1 _ _ _ _ _ _ _ hp2, q, _, qc, _, rfl, rfl, fun hz => absurd hlt (by omega), fun hz => ?_⟩
  exact open_end (m := ⟨g1, f1, e1, sz, 1, false⟩) (p := p1) (c := c1) _ _ (if_neg hz) (if_neg hz) hF hT1 hs rfl (by omega) hd hp
 ·have hj : openJ sz (g0, f0, e0) (g1, f1, e1) = ⟨g0, f0, e0, sz, 0, false⟩ := if_neg hge
  rw [hj]
  refine CallH.monoP (fun W hm => cleaning0 (JB := JB) (D := D) (p := p0) (c := c0) (gen := g0) (fs := f0) (en := e0) (br := false) hsz h0 h1 he0 hm) ?_
  rintro _ L' ⟨q, qc, N, Y, rfl, hp2, hs⟩
  have hl := cleanOps_len g0 0 e0 sz (bts rs) (bts rs1)
  refine ⟨_, po1 _ _ _ _ _ _ _ hp2, q, _, qc, _, rfl, rfl, fun hz => ?_, fun hz => ?_⟩
  ·refine CallH.pure (PutInt_c _) ⟨encB 1, 0, if_pos (okI (by omega)), rfl, ?_⟩
   have h10 := enc_len 1
   refine CallH.pureG (framing_c (by rw [encB_size]; omega)) hS hg ⟨_, rfl, rfl, ?_⟩
   have ehd : frm (bts (encB 1)) = headL 1 := by rw [encB_bts]; rfl
   rw [ehd]
   have h21 := headL_len 1
   have h1s : (ba (headL 1)).size = (headL 1).length := ba_size _
   have hpos : 1 ≤ (headL 1).length := by rw [headL, frm]; simp
   refine CallH.eff (L0 := [jH JB D ((JM.mk g0 f0 e0 sz 0 false).js p0 c0)]) (L1 := (B6, _) :: (B7, _) :: (N ++ (Y ++ F8))) (safely_e (j := (JM.mk g0 f0 e0 sz 0 false).js p0 c0) (by omega) (by omega)) (List.Perm.refl _) ?_
   rintro _ _ ⟨Bs, X, rfl, rfl, hst⟩
   refine ⟨_, po0 _ _ _ _ _, some ⟨Bs, 0, none⟩, 4, _, rfl, rfl, ?_⟩
   obtain ⟨news, n1, n2, n3⟩ := src_steps (S := S) (w0 := w0) (L := jOpenH10 JB g0 p0 f0.length c0 (e0 : Int) D (sz : Int) B6 rs rs1 B7 g1 p1 f1.length c1 (e1 : Int) (X ++ (N ++ (Y ++ F8)))) rfl hst (fun x hx => by simp [hx])
   refine ⟨news, n1, ?_⟩
   have hnl : 4 = news.length := n2
   refine (SRow.push (os := safeOps 0 (ba (headL 1))) (vs := news) hs rfl (by omega) n2 (by omega) (by omega) n3 (po6 _ _ _ _ _ _ _ _ _ hF) hnl).monoP ?_
   rintro _ L2 ⟨p', c', N', rfl, hp3, hs'⟩
   refine ⟨_, hp3.trans (po7 _ _ _ _ _ _ _), p', c', _, rfl, rfl, ?_⟩
   have hl2 : (cleanOps g0 0 e0 sz (bts rs) (bts rs1) ++ safeOps 0 (ba (headL 1))).length = (cleanOps g0 0 e0 sz (bts rs) (bts rs1)).length + 4 := by rw [List.length_append]; rfl
   rw [h1s]
   exact open_end (m := ⟨1, [], (headL 1).length, sz, 0, false⟩) (p := none) (c := 0) (F8 := F ++ T) _ _ (if_pos hz) (if_pos hz) (List.Perm.refl _) FRow.nil0 hs' hl2 (by omega) hd hp
  ·exact open_end (m := ⟨g0, f0, e0, sz, 0, false⟩) (p := p0) (c := c0) _ _ (if_neg hz) (if_neg hz) hF hT0 hs rfl (by omega) hd hp
end opn
theorem CallH.newP {P : Program} {S : List Nat} {g : FuncId} {args : Array Value} {w0 : World} {Pre : World → Prop} {K K' : Value → SHeap → Prop} (told : SHeap) {T : SHeap} (h : EffW P g args [] Pre K) (hpre : ∀ W, Mem (told ++ T) S w0 W → Pre W)
  (hK : ∀ v F', K v F' → K' v (told ++ (F' ++ T))) : CallH P g args (told ++ T) S w0 K' :=
 CallH.effW (L0 := []) (L1 := told ++ T) h hpre (List.Perm.refl _) fun v F' hk => ⟨told ++ (F' ++ T), List.perm_append_comm_assoc _ _ _, hK v F' hk⟩
theorem halfR_gen {l : List UInt8} {g : Int} {fs : List Fct} {e : Nat} (h : halfR l = some (g, fs, e)) : 0 ≤ g ∧ g ≤ 4611686018427387903 ∧ e ≤ l.length := by
 rcases halfR_inv h with ⟨rfl, _, rfl, _⟩ | ⟨h1, h2, _, h4, t, h5, _⟩
 ·exact ⟨by omega, by omega, Nat.zero_le _⟩
 ·unfold okInt maxInt at h2
  refine ⟨by omega, by omega, ?_⟩
  have := congrArg List.length h5
  rw [@List.length_append _ (cont g fs) t] at this
  omega
theorem po8 {F N0 N1 : SHeap} : (N1 ++ (N0 ++ F)).Perm (F ++ (N1 ++ N0)) := perm_a
section perms
variable (x y z u v : Nat × Obj) (F N0 N1 : SHeap)
theorem po9 : (x :: y :: z :: u :: (N0 ++ F)).Perm (F ++ (x :: y :: z :: u :: N0)) := perm_a
theorem po10 : (x :: y :: z :: u :: v :: (N1 ++ (N0 ++ F))).Perm (F ++ (x :: y :: z :: u :: v :: (N1 ++ N0))) := perm_a
end perms
theorem open_e {D : Nat} {d : DS} {F : SHeap} (hd : DRep D d F) (hp : d.pend.length < 900000) : EffW TP 13 ⟨[pt D 0]⟩ F (fun W => 0 ∉ F.map (·.1) ∧ blkW W 0 = some tabV) (OpnK D (openM d)) := by
 intro W hm ⟨hS, hg⟩
 generalize F.map (·.1) = S at *
 have hok := hd.1
 have hpos := hok.pos; have hle := hok.le
 refine jOpen_vc D F hm (CallH.dT [] (Size_e hd) fun F1 hd1 => ⟨F1, _, rfl, rfl, no (by omega) (CallH.dT [] (Size_e hd1) fun F2 hd2 => ⟨F2, _, rfl, rfl, fun hs => ?_, fun hs => ?_⟩)⟩)
 ·have e : openM d = (240, none, d) := if_pos (by omega)
  rw [e]
  exact dkFin ⟨rfl, F2, [], by simp, hd2⟩
 ·refine CallH.dT [] (Size_e hd2) fun F3 hd3 => ⟨F3, _, rfl, rfl, fun B B1 => ?_⟩
  have hsz : IntKind.i64.wrap (((d.vis.length : Nat) : Int).tdiv 2) = ((d.vis.length / 2 : Nat) : Int) := by
   have e : ((d.vis.length : Nat) : Int).tdiv 2 = ((d.vis.length / 2 : Nat) : Int) := rfl
   rw [e, wi64 (by omega)]
  delta jOpenH2 jOpenH3 jOpenH4 jOpenH5 jOpenH7 jOpenH8 jOpenH9 jOpenH15 jOpenH16 jOpenA0
  simp only [hsz]
  have hM : openM d = if d.on = false then (231, none, d) else
    match halfR (img0 d), halfR (img1 d) with
    | some h0, some h1 => if 0 < h0.1 ∧ 0 < h1.1 ∧ ¬ (h0.1 - h1.1 = 1) ∧ ¬ (h1.1 - h0.1 = 1) then (242, none, d) else openRun (img0 d) (img1 d) (openJ (d.vis.length / 2) h0 h1) d
    | _, _ => (242, none, d) := if_neg (by omega)
  have hz2 : d.vis.length / 2 ≤ 2097152 := by omega
  have hcut : d.cut = d.cut := rfl
  refine ⟨((0 * (d.vis.length / 2) : Nat) : Int), QCallB.pw fun W' hm' => start_pw (k := 0) (m := ⟨0, [], 0, d.vis.length / 2, 0, false⟩) (p := none) (c := 0) (D := D) (hm'.here (jH B D _) (List.mem_cons_of_mem _ List.mem_cons_self)) (by decide) (by show d.vis.length / 2 ≤ 4194304; omega), ?_⟩
  refine CallH.dT [_, _] (Read_e hd3 (by omega)) fun F4 hd4 => ⟨F4, _, _, rfl, rfl, ?_⟩
  cases hon : d.on with
  | false =>
   have er : ∀ off n, d.read off n = (⟨#[]⟩, 231) := fun off n => if_pos hon
   rw [er]
   refine ⟨fun _ => ?_, fun h => absurd h (by decide)⟩
   rw [hM, if_pos hon]
   exact dkFin ⟨rfl, F4, [_, _], List.perm_append_comm (l₁ := [_, _]), hd4⟩
  | true =>
   rw [if_neg (by rw [hon]; decide)] at hM
   have er : ∀ k : Nat, k ≤ 1 → d.read ((k * (d.vis.length / 2) : Nat) : Int) ((d.vis.length / 2 : Nat) : Int) = (ba ((d.vis.drop (k * (d.vis.length / 2))).take (d.vis.length / 2)), 0) := by
    intro k hk
    have hk2 : k * (d.vis.length / 2) ≤ 1 * (d.vis.length / 2) := Nat.mul_le_mul_right _ hk
    rw [DS.read, if_neg (by rw [hon]; decide), if_pos (by omega)]
    simp only [Int.toNat_natCast]
   have e0 : (d.vis.drop (0 * (d.vis.length / 2))).take (d.vis.length / 2) = img0 d := by rw [Nat.zero_mul, List.drop_zero]; rfl
   have e1 : (d.vis.drop (1 * (d.vis.length / 2))).take (d.vis.length / 2) = img1 d := by rw [Nat.one_mul]; rfl
   have l0 : (img0 d).length = d.vis.length / 2 := by rw [img0, List.length_take]; omega
   have l1 : (img1 d).length = d.vis.length / 2 := by rw [img1, List.length_take, List.length_drop]; omega
   rw [er 0 (by omega), e0]
   refine ⟨fun h => absurd rfl h, fun _ => ⟨((1 * (d.vis.length / 2) : Nat) : Int), QCallB.pw fun W' hm' => start_pw (k := 1) (m := ⟨0, [], 0, d.vis.length / 2, 0, false⟩) (p := none) (c := 0) (D := D) (hm'.here (jH B D _) (List.mem_cons_of_mem _ List.mem_cons_self)) (by decide) (by show d.vis.length / 2 ≤ 4194304; omega), ?_⟩⟩
   refine CallH.dT [_, _] (Read_e hd4 (by omega)) fun F5 hd5 => ⟨F5, _, _, rfl, rfl, ?_⟩
   rw [er 1 (by omega), e1]
   refine ⟨fun h => absurd rfl h, fun _ B2 => ?_⟩
   have s0 : (ba (img0 d)).size = d.vis.length / 2 := by rw [ba_size (img0 d), l0]
   have s1 : (ba (img1 d)).size = d.vis.length / 2 := by rw [ba_size (img1 d), l1]
   have bad : ∀ {L : SHeap} {X : SHeap}, openM d = (242, none, d) → L.Perm (F5 ++ X) → Fin (OpnR S W D (openM d)) L S W (.tuple #[.pointer none, .int .i64 (242 : Int)]) := by
    intro L X h1 h2
    rw [h1]
    exact dkFin ⟨rfl, F5, X, h2, hd5⟩
   refine CallH.newP [_, _, _] (parsed_e (s := ba (img0 d)) (by omega) (by omega)) (fun W' hm' => blkW_kept hm'.kept hS hg) ?_
   intro v N0 hv0
   rw [ParOut, bts_mk] at hv0
   cases hh0 : halfR (img0 d) with
   | none =>
    rw [hh0] at hv0 hM
    simp only at hv0 hM
    subst hv0
    refine ⟨0, none, 0, 0, 0, false, _, rfl, rfl, fun B3 => ⟨fun h => Bool.noConfusion h, fun _ => bad (X := _ :: _ :: _ :: _ :: N0) hM (po9 _ _ _ _ F5 N0)⟩⟩
   | some h0 =>
    obtain ⟨g0, f0, n0⟩ := h0
    rw [hh0] at hv0 hM
    simp only at hv0
    obtain ⟨p0, c0, rfl, hr0⟩ := hv0
    obtain ⟨ga, gb, gc⟩ := halfR_gen hh0
    refine ⟨g0, p0, f0.length, c0, (n0 : Int), true, _, rfl, rfl, fun B3 => ⟨fun _ => ?_, fun h => Bool.noConfusion h⟩⟩
    refine CallH.newP [_, _, _, _] (parsed_e (s := ba (img1 d)) (by omega) (by omega)) (fun W' hm' => blkW_kept hm'.kept hS hg) ?_
    intro v N1 hv1
    rw [ParOut, bts_mk] at hv1
    cases hh1 : halfR (img1 d) with
    | none =>
     rw [hh1] at hv1 hM
     simp only at hv1 hM
     subst hv1
     exact ⟨0, none, 0, 0, 0, false, _, rfl, rfl, fun B4 => ⟨fun h => Bool.noConfusion h, fun _ => bad (X := _ :: _ :: _ :: _ :: _ :: (N1 ++ N0)) hM (po10 _ _ _ _ _ F5 N0 N1)⟩⟩
    | some h1 =>
     obtain ⟨g1, f1, n1⟩ := h1
     rw [hh1] at hv1 hM
     simp only at hv1 hM
     obtain ⟨p1, c1, rfl, hr1⟩ := hv1
     obtain ⟨gd, ge, gf⟩ := halfR_gen hh1
     refine ⟨g1, p1, f1.length, c1, (n1 : Int), true, _, rfl, rfl, fun B4 => ⟨fun _ => ?_, fun h => Bool.noConfusion h⟩⟩
     have w1 : IntKind.i64.wrap (g0 - g1) = g0 - g1 := wi64 (by omega)
     have w2 : IntKind.i64.wrap (g1 - g0) = g1 - g0 := wi64 (by omega)
     simp only [w1, w2]
     have go : ¬ (0 < g0 ∧ 0 < g1 ∧ ¬ (g0 - g1 = 1) ∧ ¬ (g1 - g0 = 1)) → jOpen_c0 D B B1 B2 g0 g1 D ((d.vis.length / 2 : Nat) : Int) (ba (img0 d)) (ba (img1 d)) g0 p0 f0.length c0 (n0 : Int) g1 p1 f1.length c1 (n1 : Int) (N1 ++ (N0 ++ F5)) S W (OpnR S W D (openM d)) := by
      intro hno
      rw [hM, if_neg hno]
      have := open_c0 (JB := B) (D := D) (F8 := N1 ++ (N0 ++ F5)) (F := F5) (T := N1 ++ N0) (S := S) (w0 := W) (d := d) (rs := ba (img0 d)) (rs1 := ba (img1 d)) (sz := d.vis.length / 2) (g0 := g0) (g1 := g1) (f0 := f0) (f1 := f1) (e0 := n0) (e1 := n1) (p0 := p0) (p1 := p1) (c0 := c0) (c1 := c1) (B6 := B1) (B7 := B2) hg hS hz2 (by omega) (by omega) (by omega) (by omega) ga (po8 (F := F5)) (hr0.more N1) ((hr1.more N0).perm List.perm_append_comm) hd5 hp
      rw [bts_mk, bts_mk] at this
      exact this
     exact ⟨fun a1 => ⟨fun a2 => ⟨fun a3 => ⟨fun a4 => bad (X := _ :: _ :: _ :: _ :: _ :: (N1 ++ N0)) (by rw [hM, if_pos ⟨a1, a2, a3, a4⟩]) (po10 _ _ _ _ _ F5 N0 N1), fun a4 => go fun h => h.2.2.2 a4⟩, fun a3 => go fun h => h.2.2.1 a3⟩, fun a2 => go fun h => a2 h.2.1⟩, fun a1 => go fun h => a1 h.1⟩
theorem Surv.none {b x : List UInt8} (h : Surv [] b x) : x = b := by cases h; rfl
theorem Surv.one {o : Nat} {s : BA} {b x : List UInt8} (h : Surv [(o, s)] b x) : ∃ t, x = ovr b o ((bts s).take t) := by
 cases h with
 | cons t h => exact ⟨t, h.none⟩
theorem appl_surv : ∀ (p : List (Nat × BA)) (b : List UInt8), Surv p b (appl p b)
 | [], b => .nil b
 | (o, s) :: r, b => by
  refine .cons (bts s).length ?_
  rw [List.take_length]
  exact appl_surv r _
section inv
variable {Z : Nat × ByteArray → Prop} {G : List UInt8 → Prop} (hstep : ∀ b o s t, G b → Z (o, s) → G (ovr b o ((bts s).take t)))
include hstep
theorem surv_inv {p : List (Nat × BA)} {b x : List UInt8} (h : Surv p b x) : G b → (∀ q ∈ p, Z q) → G x := by
 induction h with
 | nil b => exact fun h _ => h
 | cons t h ih => exact fun h1 h2 => ih (hstep _ _ _ _ h1 (h2 _ List.mem_cons_self)) fun q hq => h2 q (List.mem_cons_of_mem _ hq)
theorem img_inv : ∀ {ops : List DOp} {b x : List UInt8} {p : List (Nat × BA)}, Img ops b p x → (∀ o s, DOp.write o s ∈ ops → Z (o.toNat, s)) → G b → (∀ q ∈ p, Z q) → G x
 | [], b, x, p, h, _, h1, h2 => surv_inv hstep h h1 h2
 | .sync :: r, b, x, p, h, ho, h1, h2 => by
  rcases h with h | h
  ·exact surv_inv hstep h h1 h2
  ·exact img_inv h (fun o s hm => ho o s (List.mem_cons_of_mem _ hm)) (surv_inv hstep (appl_surv p b) h1 h2) fun q hq => by cases hq
 | .write o s :: r, b, x, p, h, ho, h1, h2 => by
  rcases h with h | h
  ·exact surv_inv hstep h h1 h2
  ·refine img_inv h (fun o s hm => ho o s (List.mem_cons_of_mem _ hm)) h1 fun q hq => ?_
   rcases List.mem_append.1 hq with hq | hq
   ·exact h2 q hq
   ·simp only [List.mem_singleton] at hq
    subst hq
    exact ho o s List.mem_cons_self
end inv
theorem bts_tail (b : UInt8) (r : List UInt8) : bts (cutTail (ba (b :: r))) = r := by
 rw [cutTail, bts_extract, bts_mk]
 have : (ba (b :: r)).size = r.length + 1 := ba_size (b :: r)
 rw [this]; simp
theorem bts_head (b : UInt8) (r : List UInt8) : bts (cutHead (ba (b :: r))) = [b] := by
 rw [cutHead, bts_extract, bts_mk]; simp
theorem ovr_app {A t s : List UInt8} {o : Nat} (h : o + s.length ≤ t.length) : ovr (A ++ t) (A.length + o) s = A ++ ovr t o s := by
 have := ovr_mid (A := A) (B := t) (C := []) (s := s) (o := o) h
 simpa using this
theorem ends_ovr1 {k : Nat} {s : List UInt8} (h : 1 ≤ k) : Ends (ovr (zs k) 1 s) := by
 obtain ⟨k, rfl⟩ : ∃ m, k = m + 1 := ⟨k - 1, by omega⟩
 refine .inr ⟨s ++ (zs (k + 1)).drop (1 + s.length), ?_⟩
 unfold ovr
 rw [zs_take, Nat.min_eq_left (by omega)]
 rfl
theorem take_one (b : UInt8) (t : Nat) : ([b] : List UInt8).take t = [] ∨ ([b] : List UInt8).take t = [b] := by
 cases t with
 | zero => exact .inl rfl
 | succ t => exact .inr (by simp)
section safe
variable {H : List UInt8 → List UInt8} {base sz : Nat} (hH : ∀ X o s, X.length = sz → o + s.length ≤ sz → ovr (H X) (base + o) s = H (ovr X o s))
include hH
theorem safe_steps {A r' : List UInt8} {k off : Nat} (hoff : off = base + A.length) (hk : A.length + k = sz) (hr : r'.length + 1 ≤ k) :
  (∀ t, ∃ q, Ends q ∧ q.length = k ∧ ovr (H (A ++ zs k)) (off + 1) (r'.take t) = H (A ++ q)) ∧
  (∃ q, Ends q ∧ q.length = k ∧ ovr (H (A ++ zs k)) (off + 1) r' = H (A ++ q) ∧ ovr (H (A ++ q)) off [1] = H (A ++ (1 :: r') ++ zs (k - (r'.length + 1)))) := by
 subst hoff
 have key : ∀ s : List UInt8, s.length + 1 ≤ k → ovr (H (A ++ zs k)) (base + A.length + 1) s = H (A ++ ovr (zs k) 1 s) ∧ (ovr (zs k) 1 s).length = k := by
  intro s hs
  have hl := zs_len k
  have e := hH (A ++ zs k) (A.length + 1) s (by rw [List.length_append, hl]; exact hk) (by omega)
  rw [Nat.add_assoc, e, ovr_app (by omega)]
  exact ⟨rfl, by rw [ovr_len (by omega), hl]⟩
 refine ⟨fun t => ?_, ?_⟩
 ·have hl : (r'.take t).length ≤ r'.length := by rw [List.length_take]; exact Nat.min_le_right _ _
  obtain ⟨e1, e2⟩ := key (r'.take t) (by omega)
  exact ⟨_, ends_ovr1 (by omega), e2, e1⟩
 ·obtain ⟨e1, e2⟩ := key r' hr
  refine ⟨_, ends_ovr1 (by omega), e2, e1, ?_⟩
  have e3 := hH (A ++ ovr (zs k) 1 r') A.length [1] (by rw [List.length_append, e2]; exact hk) (by simp; omega)
  rw [e3]
  congr 1
  have e4 := ovr_app (A := A) (t := ovr (zs k) 1 r') (s := [1]) (o := 0) (by rw [e2]; simp; omega)
  rw [Nat.add_zero] at e4
  rw [e4, List.append_assoc]
  congr 1
  unfold ovr
  have e5 : (zs k).take 1 = [0] := by
   rw [zs_take, Nat.min_eq_left (by omega)]; rfl
  rw [e5, zs_drop]
  simp
  congr 1; omega
theorem safe_img {A r' : List UInt8} {k off : Nat} {more : List DOp} {x : List UInt8} (hoff : off = base + A.length) (hk : A.length + k = sz) (hr : r'.length + 1 ≤ k) (h : Img (safeOps (off : Int) (ba (1 :: r')) ++ more) (H (A ++ zs k)) [] x) :
  (∃ q, Ends q ∧ q.length = k ∧ x = H (A ++ q)) ∨ Img more (H (A ++ (1 :: r') ++ zs (k - (r'.length + 1)))) [] x := by
 obtain ⟨s1, q0, s2, s3, s4, s5⟩ := safe_steps hH hoff hk hr
 have eo : ((off : Int) + 1).toNat = off + 1 := by omega
 simp only [safeOps, List.cons_append, List.nil_append, Img, appl, eo, Int.toNat_natCast, bts_tail, bts_head, s4, s5] at h
 rcases h with h | h | h | h | h
 ·exact .inl ⟨zs k, zs_ends k, zs_len k, h.none⟩
 ·obtain ⟨t, e⟩ := h.one
  rw [bts_tail] at e
  obtain ⟨q, q1, q2, q3⟩ := s1 t
  exact .inl ⟨q, q1, q2, e.trans q3⟩
 ·exact .inl ⟨q0, s2, s3, h.none⟩
 ·obtain ⟨t, e⟩ := h.one
  rw [bts_head] at e
  rcases take_one 1 t with e1 | e1
  ·rw [e1, ovr_nil] at e; exact .inl ⟨q0, s2, s3, e⟩
  ·rw [e1, s5] at e
   exact .inr (Img.now (e ▸ .nil _) more)
 ·exact .inr h
theorem safe_end {A r' : List UInt8} {k off : Nat} {more : List DOp} (hoff : off = base + A.length) (hk : A.length + k = sz) (hr : r'.length + 1 ≤ k) :
  endOps (safeOps (off : Int) (ba (1 :: r')) ++ more) (H (A ++ zs k)) [] = endOps more (H (A ++ (1 :: r') ++ zs (k - (r'.length + 1)))) [] := by
 obtain ⟨s1, q0, s2, s3, s4, s5⟩ := safe_steps hH hoff hk hr
 have eo : ((off : Int) + 1).toNat = off + 1 := by omega
 simp only [safeOps, List.cons_append, List.nil_append, endOps, appl, eo, Int.toNat_natCast, bts_tail, bts_head, s4, s5]
end safe
structure Gn (g : Int) (fs : List Fct) : Prop where
 one : 1 ≤ g
 ok : g ≤ 4611686018427387903
 numb : Numb fs 1
theorem Gn.okInt {g : Int} {fs : List Fct} (h : Gn g fs) : okInt g := by have h1 := h.one; have h2 := h.ok; unfold Wire.okInt maxInt; omega
def Oth (g : Int) (Y : List UInt8) : Prop := Ends Y ∨ ∃ fs' t, Gn (g - 1) fs' ∧ Y = cont (g - 1) fs' ++ t ∧ Ends t
def GoodAt (c sz : Nat) (R : List UInt8) (g : Int) (fs : List Fct) (b : List UInt8) : Prop :=
 ∃ t Y, b = lay c (cont g fs ++ t) Y R ∧ (cont g fs).length + t.length = sz ∧ Y.length = sz ∧ Ends t ∧ Oth g Y
def Good (sz : Nat) (R : List UInt8) (g : Int) (fs : List Fct) (b : List UInt8) : Prop := Gn g fs ∧ ∃ c, c ≤ 1 ∧ GoodAt c sz R g fs b
def ZW (c sz e : Nat) (q : Nat × BA) : Prop := (q.1 = (1 - c) * sz ∧ ∃ k, k ≤ sz ∧ bts q.2 = zs k) ∨ (q.1 = c * sz + e ∧ ∃ k, e + k ≤ sz ∧ bts q.2 = zs k)
theorem good_step {c sz : Nat} {R : List UInt8} {g : Int} {fs : List Fct} (hc : c ≤ 1) : ∀ (b : List UInt8) (o : Nat) (s : BA) (t : Nat), GoodAt c sz R g fs b → ZW c sz (cont g fs).length (o, s) → GoodAt c sz R g fs (ovr b o ((bts s).take t)) := by
 rintro b o s n ⟨t, Y, rfl, h2, h3, h4, h5⟩ (⟨rfl, k, hk, hs⟩ | ⟨rfl, k, hk, hs⟩)
 ·rw [hs, zs_take]
  have hl : (cont g fs ++ t).length = sz := by rw [List.length_append]; exact h2
  have := lay_oth (c := c) (sz := sz) (o := 0) (X := cont g fs ++ t) (Y := Y) (R := R) (s := zs (min n k)) hc hl h3 (by rw [zs_len]; omega)
  rw [Nat.add_zero] at this
  rw [this]
  refine ⟨t, ovr Y 0 (zs (min n k)), rfl, h2, by rw [ovr_len (by rw [zs_len]; omega)]; exact h3, h4, ?_⟩
  rcases Nat.eq_zero_or_pos (min n k) with h0 | hp
  ·rw [h0]
   have : ovr Y 0 (zs 0) = Y := ovr_nil Y 0
   rw [this]; exact h5
  ·exact .inl (ovr_zero_ends (by omega) hp)
 ·rw [hs, zs_take]
  have hl : (cont g fs ++ t).length = sz := by rw [List.length_append]; exact h2
  have := lay_cur (c := c) (sz := sz) (o := (cont g fs).length) (X := cont g fs ++ t) (Y := Y) (R := R) (s := zs (min n k)) hc hl h3 (by rw [zs_len]; omega)
  rw [this]
  obtain ⟨t', e1, e2, e3⟩ := ovr_rest (A := cont g fs) (t := t) (k := min n k) (by omega) h4
  rw [e1]
  exact ⟨t', Y, rfl, by omega, h3, e2, h5⟩
structure Clean (R : List UInt8) (m : JM) (d : DS) : Prop where
 ok : DOk d
 on : d.on = true
 pend : d.pend = []
 dur : d.dur = d.vis
 vis : d.vis = lay m.cu (cont m.gen m.fs ++ zs (m.sz - m.en)) (zs m.sz) R
 rest : R.length ≤ 1
 big : 64 ≤ d.vis.length
 en : m.en = (cont m.gen m.fs).length
 fit : m.en ≤ m.sz
 cu : m.cu ≤ 1
 gn : Gn m.gen m.fs
 br : m.br = false
theorem Clean.len {R : List UInt8} {m : JM} {d : DS} (h : Clean R m d) : d.vis.length = m.sz + m.sz + R.length := by
 have h1 := h.en; have h2 := h.fit
 rw [h.vis, lay_len, zs_len, List.length_append, zs_len]; omega
theorem numb_500 {fs : List Fct} (h : Numb fs 1) : fs.length ≤ 500 := by
 rcases h.len with h | h
 ·omega
 ·rw [h]; exact Nat.zero_le _
theorem Clean.mok {R : List UInt8} {m : JM} {d : DS} (h : Clean R m d) : MOk m :=
 ⟨h.fit, by have h1 := h.len; have h2 := h.ok.le; omega, h.cu, h.gn.numb.all, numb_500 h.gn.numb, by have h1 := h.gn.one; omega, h.gn.ok⟩
theorem Clean.coh {R : List UInt8} {m : JM} {d : DS} (h : Clean R m d) : Coh d := ⟨h.ok, by rw [h.pend, h.dur]; rfl⟩
def After (sz : Nat) (R : List UInt8) (n : Nat) (d : DS) (P : Int → List Fct → Prop) : Prop := DOk d ∧ d.vis.length = n ∧ ∀ x, Surv d.pend d.dur x → ∃ g fs, P g fs ∧ Good sz R g fs x
theorem run_clean {R : List UInt8} {m : JM} {d : DS} {a : List DOp} (h : Clean R m d) (hf : ∀ o ∈ a ++ [DOp.sync], o.fits d.vis.length) {b : List UInt8} (he : endOps (a ++ [.sync]) d.vis [] = (b, [])) :
  let r := runOps (a ++ [.sync]) d
  (r.1 = 0 ∧ DOk r.2 ∧ r.2.on = true ∧ r.2.pend = [] ∧ r.2.dur = r.2.vis ∧ r.2.vis = b ∧ r.2.vis.length = d.vis.length ∧ (d.cut = 0 → r.2.cut = 0)) ∨
  (r.1 = 231 ∧ DOk r.2 ∧ r.2.vis.length = d.vis.length ∧ (∀ x, Surv r.2.pend r.2.dur x → Img (a ++ [.sync]) d.vis [] x) ∧ d.cut ≠ 0) := by
 intro r
 have ro := runOps_out (a ++ [.sync]) d h.coh hf
 rcases ro.err with e | e
 ·refine .inl ⟨e, ro.coh.ok, runOps_on e, ?_, ?_, ?_, ro.len, fun hc => (ro.pow h.on hc).2.2⟩
  all_goals
   have hfin := ro.fin e
   rw [h.pend, h.dur, he] at hfin
   simp only [Prod.mk.injEq] at hfin
  ·exact hfin.2
  ·have hv := ro.coh.vis
   rw [hfin.2] at hv
   exact hv.symm
  ·have hv := ro.coh.vis
   rw [hfin.2] at hv
   exact hv.trans hfin.1
 ·refine .inr ⟨e, ro.coh.ok, ro.len, fun x hx => ?_, fun hc => ?_⟩
  ·have := ro.img x hx
   rwa [h.pend, h.dur] at this
  ·have := (ro.pow h.on hc).1
   rw [e] at this; exact absurd this (by decide)
theorem cutTail_sz (b : UInt8) (r : List UInt8) : (cutTail (ba (b :: r))).size = r.length := by rw [← bts_len, bts_tail]
theorem cutHead_sz (b : UInt8) (r : List UInt8) : (cutHead (ba (b :: r))).size = 1 := by rw [← bts_len, bts_head]; rfl
theorem safe_fits {off n : Nat} {r : List UInt8} (h : off + (r.length + 1) ≤ n) : ∀ o ∈ safeOps (off : Int) (ba (1 :: r)), o.fits n := by
 intro o ho
 simp only [safeOps, List.mem_cons, List.not_mem_nil, or_false] at ho
 rcases ho with rfl | rfl | rfl | rfl
 ·show 0 ≤ (off : Int) + 1 ∧ (off : Int) + 1 + ((cutTail (ba (1 :: r))).size : Int) ≤ n
  rw [cutTail_sz]; omega
 ·trivial
 ·show 0 ≤ (off : Int) ∧ (off : Int) + ((cutHead (ba (1 :: r))).size : Int) ≤ n
  rw [cutHead_sz]; omega
 ·trivial
theorem flat_snoc (fs : List Fct) (f : Fct) : flat (fs ++ [f]) = flat fs ++ recL f := by simp
theorem cont_snoc (g : Int) (fs : List Fct) (f : Fct) : cont g (fs ++ [f]) = cont g fs ++ recL f := by rw [cont, flat_snoc, ← List.append_assoc]
inductive AppOut (R : List UInt8) (m : JM) (d : DS) (f : Fct) : Int × JM × DS → Prop
 | no (e : Int) (he : (e = 240 ∧ (f.ok = false ∨ f.n ≠ ((m.fs.length + 1 : Nat) : Int))) ∨ (e = 241 ∧ f.ok = true ∧ f.n = ((m.fs.length + 1 : Nat) : Int) ∧ m.sz - m.en < (recL f).length)) : AppOut R m d f (e, m, d)
 | yes (d' : DS) (hf : f.ok = true) (hn : f.n = ((m.fs.length + 1 : Nat) : Int)) (h : Clean R { m with fs := m.fs ++ [f], en := m.en + (recL f).length } d') (hl : d'.vis.length = d.vis.length) (hc : d.cut = 0 → d'.cut = 0) : AppOut R m d f (0, { m with fs := m.fs ++ [f], en := m.en + (recL f).length }, d')
 | pow (d' : DS) (hf : f.ok = true) (hc : d.cut ≠ 0) (h : After m.sz R d.vis.length d' fun g fs => g = m.gen ∧ (fs = m.fs ∨ fs = m.fs ++ [f])) : AppOut R m d f (231, { m with br := true }, d')
theorem append_out {R : List UInt8} {m : JM} {d : DS} (h : Clean R m d) (f : Fct) : AppOut R m d f (appendM m d f) := by
 have hlen := h.len; have hfit := h.fit; have hcu := h.cu
 rw [appendM, if_neg (by rw [h.br]; decide)]
 by_cases hok : f.ok = true
 ·rw [if_neg (by rw [hok]; decide)]
  by_cases hn : f.n = ((m.fs.length + 1 : Nat) : Int)
  ·rw [if_neg (by simpa using hn)]
   by_cases hr : m.sz - m.en < (recL f).length
   ·rw [if_pos hr]; exact .no 241 (.inr ⟨rfl, hok, hn, hr⟩)
   ·rw [if_neg hr]
    obtain ⟨r', er⟩ := recL_head f
    have hrl : (recL f).length = r'.length + 1 := by rw [er]; rfl
    have hcs : m.cu * m.sz ≤ 1 * m.sz := Nat.mul_le_mul_right _ hcu
    have hH : ∀ X o (s : List UInt8), X.length = m.sz → o + s.length ≤ m.sz → ovr ((fun X => lay m.cu X (zs m.sz) R) X) (m.cu * m.sz + o) s = (fun X => lay m.cu X (zs m.sz) R) (ovr X o s) := fun X o s h1 h2 => lay_cur hcu h1 (zs_len _) h2
    have hk : (cont m.gen m.fs).length + (m.sz - m.en) = m.sz := by have := h.en; omega
    have hoff : m.cu * m.sz + m.en = m.cu * m.sz + (cont m.gen m.fs).length := by rw [← h.en]
    have hops : safeOps ((m.cu * m.sz + m.en : Nat) : Int) (ba (recL f)) = [.write (((m.cu * m.sz + m.en : Nat) : Int) + 1) (cutTail (ba (recL f))), .sync, .write ((m.cu * m.sz + m.en : Nat) : Int) (cutHead (ba (recL f)))] ++ [.sync] := rfl
    have hfits : ∀ o ∈ safeOps ((m.cu * m.sz + m.en : Nat) : Int) (ba (recL f)), o.fits d.vis.length := by rw [er]; exact safe_fits (by omega)
    have gn' : Gn m.gen (m.fs ++ [f]) := ⟨h.gn.one, h.gn.ok, h.gn.numb.snoc hok (by rw [hn]; congr 1; omega)⟩
    have hfin : endOps (safeOps ((m.cu * m.sz + m.en : Nat) : Int) (ba (recL f))) d.vis [] = (lay m.cu (cont m.gen m.fs ++ recL f ++ zs (m.sz - m.en - (r'.length + 1))) (zs m.sz) R, []) := by
     have := safe_end hH (A := cont m.gen m.fs) (r' := r') (k := m.sz - m.en) (off := m.cu * m.sz + m.en) (more := []) hoff hk (by omega)
     rw [List.append_nil, ← er, ← h.vis] at this
     exact this
    have himg : ∀ x, Img (safeOps ((m.cu * m.sz + m.en : Nat) : Int) (ba (recL f))) d.vis [] x → ∃ g fs, (g = m.gen ∧ (fs = m.fs ∨ fs = m.fs ++ [f])) ∧ Good m.sz R g fs x := by
     intro x hx
     rw [h.vis, er] at hx
     have := safe_img hH (A := cont m.gen m.fs) (r' := r') (k := m.sz - m.en) (off := m.cu * m.sz + m.en) (more := []) hoff hk (by omega) (x := x) (by rw [List.append_nil]; exact hx)
     rcases this with ⟨q, q1, q2, q3⟩ | hx2
     ·exact ⟨_, _, ⟨rfl, .inl rfl⟩, h.gn, m.cu, hcu, q, zs m.sz, q3, by omega, zs_len _, q1, .inl (zs_ends _)⟩
     ·have e2 := Surv.none hx2
      refine ⟨_, _, ⟨rfl, .inr rfl⟩, gn', m.cu, hcu, zs (m.sz - m.en - (r'.length + 1)), zs m.sz, ?_, ?_, zs_len _, zs_ends _, .inl (zs_ends _)⟩
      ·rw [e2, cont_snoc, er]
      ·rw [cont_snoc, List.length_append, zs_len]; omega
    rw [hops] at hfits hfin himg ⊢
    rcases run_clean h hfits hfin with ⟨e1, e2, e3, e4, e5, e6, e7, e8⟩ | ⟨e1, e2, e3, e4, e5⟩
    ·rw [if_pos e1]
     refine .yes _ hok hn ⟨e2, e3, e4, e5, ?_, h.rest, by rw [e7]; exact h.big, ?_, by show m.en + (recL f).length ≤ m.sz; omega, hcu, gn', h.br⟩ e7 e8
     ·rw [e6]
      show _ = lay m.cu (cont m.gen (m.fs ++ [f]) ++ zs (m.sz - (m.en + (recL f).length))) (zs m.sz) R
      rw [cont_snoc, hrl, Nat.sub_sub]
     ·show m.en + (recL f).length = (cont m.gen (m.fs ++ [f])).length
      rw [cont_snoc, List.length_append, h.en]
    ·rw [if_neg (by rw [e1]; decide), e1]
     exact .pow _ hok e5 ⟨e2, e3, fun x hx => himg x (e4 x hx)⟩
  ·rw [if_pos hn]; exact .no 240 (.inl ⟨rfl, .inr hn⟩)
 ·rw [if_pos (by simpa using hok)]; exact .no 240 (.inl ⟨rfl, .inl (by simpa using hok)⟩)
abbrev chkJ (m : JM) : JM := { gen := m.gen + 1, fs := redJ m.fs, en := (cont (m.gen + 1) (redJ m.fs)).length, sz := m.sz, cu := 1 - m.cu, br := m.br }
inductive ChkOut (R : List UInt8) (m : JM) (d : DS) : Int × JM × DS → Prop
 | no (he : 4611686018427387903 ≤ m.gen ∨ m.sz < (cont (m.gen + 1) (redJ m.fs)).length) : ChkOut R m d (241, m, d)
 | yes (d' : DS) (h : Clean R (chkJ m) d') (hl : d'.vis.length = d.vis.length) (hc : d.cut = 0 → d'.cut = 0) : ChkOut R m d (0, chkJ m, d')
 | pow (d' : DS) (hc : d.cut ≠ 0) (h : After m.sz R d.vis.length d' fun g fs => (g = m.gen ∧ fs = m.fs) ∨ (g = m.gen + 1 ∧ fs = redJ m.fs)) : ChkOut R m d (231, { m with br := true }, d')
theorem check_out {R : List UInt8} {m : JM} {d : DS} (h : Clean R m d) : ChkOut R m d (checkM m d) := by
 have hlen := h.len; have hfit := h.fit; have hcu := h.cu; have hgok := h.gn.ok; have hg1 := h.gn.one
 rw [checkM, if_neg (by rw [h.br]; decide)]
 by_cases hg : 4611686018427387903 ≤ m.gen
 ·rw [if_pos hg]; exact .no (.inl hg)
 ·rw [if_neg hg]
  by_cases hbig : m.sz < (cont (m.gen + 1) (redJ m.fs)).length
  ·rw [if_pos hbig]; exact .no (.inr hbig)
  ·rw [if_neg hbig]
   obtain ⟨r', er⟩ : ∃ r', cont (m.gen + 1) (redJ m.fs) = 1 :: r' := ⟨_, by rw [cont, headL, frm]; rfl⟩
   have hrl : (cont (m.gen + 1) (redJ m.fs)).length = r'.length + 1 := by rw [er]; rfl
   have gn' : Gn (m.gen + 1) (redJ m.fs) := ⟨by omega, by omega, h.gn.numb.red⟩
   have hcs : (1 - m.cu) * m.sz ≤ 1 * m.sz := Nat.mul_le_mul_right _ (by omega)
   have hcs2 : m.cu * m.sz ≤ 1 * m.sz := Nat.mul_le_mul_right _ hcu
   have hX : (cont m.gen m.fs ++ zs (m.sz - m.en)).length = m.sz := by rw [List.length_append, zs_len, ← h.en]; omega
   have hH : ∀ X o (s : List UInt8), X.length = m.sz → o + s.length ≤ m.sz → ovr ((fun Y => lay m.cu (cont m.gen m.fs ++ zs (m.sz - m.en)) Y R) X) ((1 - m.cu) * m.sz + o) s = (fun Y => lay m.cu (cont m.gen m.fs ++ zs (m.sz - m.en)) Y R) (ovr X o s) := fun X o s h1 h2 => lay_oth hcu hX h1 h2
   have hops : checkOps m = safeOps (((1 - m.cu) * m.sz : Nat) : Int) (ba (1 :: r')) ++ [.write ((m.cu * m.sz : Nat) : Int) (ba (zs m.sz)), .sync] := by rw [checkOps, er]; rfl
   have hops2 : checkOps m = [.write (((1 - m.cu) * m.sz : Nat) + 1 : Int) (cutTail (ba (cont (m.gen + 1) (redJ m.fs)))), .sync, .write (((1 - m.cu) * m.sz : Nat) : Int) (cutHead (ba (cont (m.gen + 1) (redJ m.fs)))), .sync, .write ((m.cu * m.sz : Nat) : Int) (ba (zs m.sz))] ++ [.sync] := rfl
   have hzsz : (ba (zs m.sz)).size = m.sz := by rw [ba_size (zs m.sz), zs_len]
   have hfits : ∀ o ∈ checkOps m, o.fits d.vis.length := by
    rw [hops]
    intro o ho
    rcases List.mem_append.1 ho with ho | ho
    ·exact safe_fits (by omega) o ho
    ·simp only [List.mem_cons, List.not_mem_nil, or_false] at ho
     rcases ho with rfl | rfl
     ·show 0 ≤ ((m.cu * m.sz : Nat) : Int) ∧ ((m.cu * m.sz : Nat) : Int) + ((ba (zs m.sz)).size : Int) ≤ _
      rw [hzsz]; omega
     ·trivial
   have hsafe := safe_end hH (A := []) (r' := r') (k := m.sz) (off := (1 - m.cu) * m.sz) (more := [.write ((m.cu * m.sz : Nat) : Int) (ba (zs m.sz)), .sync]) (by simp) (by simp) (by omega)
   simp only [List.nil_append] at hsafe
   rw [← er, ← h.vis] at hsafe
   have h11 : 1 - (1 - m.cu) = m.cu := by omega
   have hbz : bts (ba (zs m.sz)) = zs m.sz := bts_mk _
   have hfull : (cont (m.gen + 1) (redJ m.fs) ++ zs (m.sz - (r'.length + 1))).length = m.sz := by rw [List.length_append, zs_len]; omega
   have hlast : ovr (lay m.cu (cont m.gen m.fs ++ zs (m.sz - m.en)) (cont (m.gen + 1) (redJ m.fs) ++ zs (m.sz - (r'.length + 1))) R) (m.cu * m.sz) (zs m.sz) = lay (1 - m.cu) (cont (m.gen + 1) (redJ m.fs) ++ zs (m.sz - (r'.length + 1))) (zs m.sz) R := by
    have := lay_cur (c := m.cu) (sz := m.sz) (o := 0) (X := cont m.gen m.fs ++ zs (m.sz - m.en)) (Y := cont (m.gen + 1) (redJ m.fs) ++ zs (m.sz - (r'.length + 1))) (R := R) (s := zs m.sz) hcu hX hfull (by rw [zs_len]; omega)
    exact this.trans (by rw [ovr_zero_full hX, lay_swap hcu])
   have hfin : endOps (checkOps m) d.vis [] = (lay (1 - m.cu) (cont (m.gen + 1) (redJ m.fs) ++ zs (m.sz - (r'.length + 1))) (zs m.sz) R, []) := by
    rw [hops, ← er, hsafe]
    simp only [endOps, appl, List.nil_append, Int.toNat_natCast, hbz, hlast]
   have himg : ∀ x, Img (checkOps m) d.vis [] x → ∃ g fs, ((g = m.gen ∧ fs = m.fs) ∨ (g = m.gen + 1 ∧ fs = redJ m.fs)) ∧ Good m.sz R g fs x := by
    intro x hx
    rw [h.vis, hops] at hx
    have := safe_img hH (A := []) (r' := r') (k := m.sz) (off := (1 - m.cu) * m.sz) (more := [.write ((m.cu * m.sz : Nat) : Int) (ba (zs m.sz)), .sync]) (by simp) (by simp) (by omega) (x := x) (by simpa using hx)
    rcases this with ⟨q, q1, q2, q3⟩ | hx2
    ·exact ⟨_, _, .inl ⟨rfl, rfl⟩, h.gn, m.cu, hcu, zs (m.sz - m.en), q, q3, by rw [zs_len, ← h.en]; omega, q2, zs_ends _, .inl q1⟩
    ·refine ⟨_, _, .inr ⟨rfl, rfl⟩, gn', 1 - m.cu, by omega, ?_⟩
     rw [List.nil_append, ← er] at hx2
     refine img_inv (good_step (c := 1 - m.cu) (sz := m.sz) (R := R) (g := m.gen + 1) (fs := redJ m.fs) (by omega)) hx2 (fun o s hm => ?_) ?_ (fun q hq => by cases hq)
     ·simp only [List.mem_cons, List.not_mem_nil, or_false, DOp.write.injEq, reduceCtorEq] at hm
      obtain ⟨rfl, rfl⟩ := hm
      exact .inl ⟨by rw [h11]; rfl, m.sz, Nat.le_refl _, hbz⟩
     ·refine ⟨zs (m.sz - (r'.length + 1)), cont m.gen m.fs ++ zs (m.sz - m.en), by rw [lay_swap hcu], by rw [zs_len]; omega, hX, zs_ends _, .inr ⟨m.fs, zs (m.sz - m.en), ?_, ?_, zs_ends _⟩⟩
      ·rw [show m.gen + 1 - 1 = m.gen by omega]; exact h.gn
      ·rw [show m.gen + 1 - 1 = m.gen by omega]
   rw [hops2] at hfits hfin himg ⊢
   rcases run_clean h hfits hfin with ⟨e1, e2, e3, e4, e5, e6, e7, e8⟩ | ⟨e1, e2, e3, e4, e5⟩
   ·rw [if_pos e1]
    refine .yes _ ⟨e2, e3, e4, e5, ?_, h.rest, by rw [e7]; exact h.big, rfl, by show (cont (m.gen + 1) (redJ m.fs)).length ≤ m.sz; omega, by show 1 - m.cu ≤ 1; omega, gn', h.br⟩ e7 e8
    rw [e6]
    show _ = lay (1 - m.cu) (cont (m.gen + 1) (redJ m.fs) ++ zs (m.sz - (cont (m.gen + 1) (redJ m.fs)).length)) (zs m.sz) R
    rw [hrl]
   ·rw [if_neg (by rw [e1]; decide), e1]
    exact .pow _ e5 ⟨e2, e3, fun x hx => himg x (e4 x hx)⟩
theorem zs_clean (k sz fr n : Nat) : dirtyOp k sz fr (zs n) = [] := by
 unfold dirtyOp
 rw [if_pos]
 rw [zs_drop, List.all_eq_true]
 intro b hb
 simp [List.eq_of_mem_replicate hb]
theorem img_lay {c : Nat} {X Y R : List UInt8} {d : DS} {sz : Nat} (hc : c ≤ 1) (hv : d.vis = lay c X Y R) (hx : X.length = sz) (hy : Y.length = sz) (hR : R.length ≤ 1) : d.vis.length / 2 = sz ∧ img0 d = (if c = 0 then X else Y) ∧ img1 d = (if c = 0 then Y else X) := by
 have hl : d.vis.length / 2 = sz := by rw [hv, lay_len]; omega
 have key : ∀ A B : List UInt8, A.length = sz → B.length = sz → (A ++ B ++ R).take sz = A ∧ ((A ++ B ++ R).drop sz).take sz = B := by
  intro A B ha hb
  rw [List.append_assoc, ← ha, List.take_left, List.drop_left, ha, ← hb, List.take_left]
  exact ⟨rfl, rfl⟩
 refine ⟨hl, ?_, ?_⟩
 ·rw [img0, hl, hv]; unfold lay; split
  ·exact (key X Y hx hy).1
  ·exact (key Y X hy hx).1
 ·rw [img1, hl, hv]; unfold lay; split
  ·exact (key X Y hx hy).2
  ·exact (key Y X hy hx).2
theorem oth_half {g : Int} {Y : List UInt8} (h : Oth g Y) : ∃ g' fs' e', halfR Y = some (g', fs', e') ∧ (g' = 0 ∨ (g' = g - 1 ∧ 1 ≤ g')) := by
 rcases h with h | ⟨fs', t, h1, h2, h3⟩
 ·exact ⟨0, [], 0, halfR_ends h, .inl rfl⟩
 ·exact ⟨g - 1, fs', _, by rw [h2]; exact halfR_fwd h1.okInt h1.one h1.numb h3, .inr ⟨rfl, h1.one⟩⟩
theorem openM_eq {c sz : Nat} {R : List UInt8} {g : Int} {fs : List Fct} {t Y : List UInt8} {d : DS} (hc : c ≤ 1) (hv : d.vis = lay c (cont g fs ++ t) Y R) (hx : (cont g fs).length + t.length = sz) (hy : Y.length = sz) (ht : Ends t) (ho : Oth g Y) (hg : Gn g fs) (hR : R.length ≤ 1) (hb : 64 ≤ d.vis.length) (hon : d.on = true) :
  openM d = openRun (img0 d) (img1 d) ⟨g, fs, (cont g fs).length, sz, c, false⟩ d ∧ openOps (img0 d) (img1 d) ⟨g, fs, (cont g fs).length, sz, c, false⟩ = syncIf (dirtyOp (1 - c) sz 0 Y ++ dirtyOp c sz (cont g fs).length (cont g fs ++ t)) := by
 have hX : (cont g fs ++ t).length = sz := by rw [List.length_append]; exact hx
 obtain ⟨hsz, e0, e1⟩ := img_lay hc hv hX hy hR
 have hh := halfR_fwd hg.okInt hg.one hg.numb ht
 obtain ⟨g', fs', e', h1, h2⟩ := oth_half ho
 have hg1 := hg.one
 have hg0 : ¬ g = 0 := by omega
 rw [openM, if_neg (by omega), if_neg (by rw [hon]; decide), hsz]
 rcases (by omega : c = 0 ∨ c = 1) with rfl | rfl
 ·rw [if_pos rfl] at e0 e1
  rw [e0, e1, hh, h1]
  refine ⟨?_, ?_⟩
  ·simp only
   rw [if_neg (fun h => by omega)]
   have hj : openJ sz (g, fs, (cont g fs).length) (g', fs', e') = ⟨g, fs, (cont g fs).length, sz, 0, false⟩ := if_neg (by simp only; omega)
   rw [hj]
  ·rw [openOps, if_neg hg0, cleanOps]
   simp only [if_pos]
   rw [if_neg hg0]
 ·rw [if_neg (by decide)] at e0 e1
  rw [e0, e1, hh, h1]
  refine ⟨?_, ?_⟩
  ·simp only
   rw [if_neg (fun h => by omega)]
   have hj : openJ sz (g', fs', e') (g, fs, (cont g fs).length) = ⟨g, fs, (cont g fs).length, sz, 1, false⟩ := if_pos (by simp only; omega)
   rw [hj]
  ·rw [openOps, if_neg hg0, cleanOps]
   simp only
   rw [if_neg (by decide)]
theorem syncIf_nil : syncIf [] = [] := rfl
theorem dirty_rest (k sz : Nat) (A : List UInt8) (n : Nat) : dirtyOp k sz A.length (A ++ zs n) = [] := by
 unfold dirtyOp
 rw [if_pos]
 rw [List.drop_left, List.all_eq_true]
 intro b hb
 simp [List.eq_of_mem_replicate hb]
theorem openM_clean {R : List UInt8} {m : JM} {d : DS} (h : Clean R m d) : openM d = (0, some m, d) := by
 have hfit := h.fit; have hen := h.en
 obtain ⟨e1, e2⟩ := openM_eq (sz := m.sz) h.cu h.vis (by rw [zs_len]; omega) (zs_len _) (zs_ends _) (.inl (zs_ends _)) h.gn h.rest h.big h.on
 rw [zs_clean, dirty_rest, List.append_nil, syncIf_nil] at e2
 rw [e1, openRun, e2]
 have hr : runOps [] d = (0, d) := rfl
 rw [hr, if_pos rfl]
 have hfl : openF ⟨m.gen, m.fs, (cont m.gen m.fs).length, m.sz, m.cu, false⟩ = m := by
  rw [openF, if_neg (by have := h.gn.one; show ¬ m.gen = 0; omega), ← h.en, ← h.br]
 rw [hfl]
theorem openM_new {d : DS} (hok : DOk d) (hon : d.on = true) (hc : d.cut = 0) (hp : d.pend = []) (hd : d.dur = d.vis) (hv : d.vis = zs d.vis.length) (hb : 64 ≤ d.vis.length) :
  ∃ d', openM d = (0, some ⟨1, [], (headL 1).length, d.vis.length / 2, 0, false⟩, d') ∧ Clean (zs (d.vis.length % 2)) ⟨1, [], (headL 1).length, d.vis.length / 2, 0, false⟩ d' ∧ d'.cut = 0 ∧ d'.vis.length = d.vis.length := by
 have hsz : d.vis.length / 2 + d.vis.length / 2 + d.vis.length % 2 = d.vis.length := by omega
 generalize hn : d.vis.length / 2 = sz at *
 generalize hr : d.vis.length % 2 = r at *
 have hr2 : r ≤ 1 := by omega
 have hlay : d.vis = lay 0 (zs sz) (zs sz) (zs r) := by
  rw [hv]; unfold lay; rw [if_pos rfl, zs_append, zs_append, hsz]
 obtain ⟨h1, e0, e1⟩ := img_lay (c := 0) (by omega) hlay (zs_len _) (zs_len _) (by rw [zs_len]; exact hr2)
 rw [if_pos rfl] at e0 e1
 have h21 := headL_len 1
 have hh : halfR (zs sz) = some (0, [], 0) := halfR_ends (zs_ends _)
 obtain ⟨r', er⟩ : ∃ r', headL 1 = 1 :: r' := ⟨_, by rw [headL, frm]⟩
 have hrl : (headL 1).length = r'.length + 1 := by rw [er]; rfl
 have e2 : openM d = openRun (zs sz) (zs sz) ⟨0, [], 0, sz, 0, false⟩ d := by
  rw [openM, if_neg (by omega), if_neg (by rw [hon]; decide), e0, e1, hh]
  simp only
  rw [if_neg (by decide), h1]
  rfl
 have e3 : openOps (zs sz) (zs sz) ⟨0, [], 0, sz, 0, false⟩ = safeOps 0 (ba (headL 1)) := by
  rw [openOps, if_pos rfl, cleanOps, if_pos rfl, if_pos rfl, zs_clean, zs_clean]; rfl
 have hfits : ∀ o ∈ safeOps 0 (ba (headL 1)), o.fits d.vis.length := by
  rw [er]; exact safe_fits (off := 0) (by omega)
 have ro := runOps_out (safeOps 0 (ba (headL 1))) d ⟨hok, by rw [hp, hd]; rfl⟩ hfits
 obtain ⟨p1, p2, p3⟩ := ro.pow hon hc
 have hH : ∀ X o (s : List UInt8), X.length = sz → o + s.length ≤ sz → ovr ((fun X => lay 0 X (zs sz) (zs r)) X) (0 * sz + o) s = (fun X => lay 0 X (zs sz) (zs r)) (ovr X o s) := fun X o s q1 q2 => lay_cur (by omega) q1 (zs_len _) q2
 have hfin : endOps (safeOps 0 (ba (headL 1))) d.vis [] = (lay 0 (headL 1 ++ zs (sz - (headL 1).length)) (zs sz) (zs r), []) := by
  have := safe_end hH (A := []) (r' := r') (k := sz) (off := 0) (more := []) (by simp) (by simp) (by omega)
  simp only [List.nil_append, List.append_nil] at this
  rw [← er, ← hlay, ← hrl] at this
  exact this
 have hf := ro.fin p1
 rw [hp, hd, hfin] at hf
 simp only [Prod.mk.injEq] at hf
 have hv2 := ro.coh.vis
 rw [hf.2] at hv2
 refine ⟨_, ?_, ⟨ro.coh.ok, p2, hf.2, hv2.symm, ?_, by rw [zs_len]; exact hr2, by rw [ro.len]; exact hb, ?_, by show (headL 1).length ≤ sz; omega, by show 0 ≤ 1; omega, ⟨by show (1 : Int) ≤ 1; omega, by show (1 : Int) ≤ _; omega, trivial⟩, rfl⟩, p3, ro.len⟩
 ·rw [e2, openRun, e3, if_pos p1]; rfl
 ·have := hv2.trans hf.1
  rw [this]
  show _ = lay 0 (cont 1 [] ++ zs (sz - (headL 1).length)) (zs sz) (zs r)
  have : cont 1 [] = headL 1 := List.append_nil _
  rw [this]
 ·show (headL 1).length = (cont 1 []).length
  have : cont 1 [] = headL 1 := List.append_nil _
  rw [this]
set_option maxRecDepth 100000
theorem content_vc (D : Nat) (F : SHeap) (hm : Mem (F) S w0 W)
 (H :
 CallH TP 42 ⟨[PP D]⟩ (F) S w0 (fun v L' => ∃ r1 F1, v = IV r1 ∧ L' = F1 ∧
 CallH TP 43 ⟨[PP D, IV 0, IV r1]⟩ (F1) S w0 (fun v L' => ∃ r21 r31 F2, v = (.tuple #[.string r21, IV r31]) ∧ L' = F2 ∧
 Fin R (F2) S w0 (.string r21)))) :
 Calls TP 21 ⟨[PP D]⟩ W R:= by
 refine AtE.cs 13 Tryz.func21 hm (.ru 8 (.cl H ?_))
 rintro _ F1 ⟨r1, _, rfl, rfl, H⟩
 refine .cl H ?_
 rintro _ F2 ⟨r21, r31, _, rfl, rfl, H⟩
 refine .ru 11 (.rt Tryz.func21 H)
theorem pq1 {x : Nat × Obj} {X L F T : SHeap} (h : L.Perm (x :: (F ++ T))) : (X ++ L).Perm (x :: (F ++ (X ++ T))) := perm_of fun c w h1 h2 h3 h4 => by
 have := h4 _ _ h
 simp only [h1, h2, h3] at this ⊢; omega
theorem JD.more {JB D : Nat} {m : JM} {d : DS} {L : SHeap} (h : JD JB D m d L) (X : SHeap) : JD JB D m d (X ++ L) := by
 obtain ⟨F, p, c, T, h1, h2, h3⟩ := h
 exact ⟨F, p, c, X ++ T, pq1 h1, h2, h3.more X⟩
def DM (D : Nat) (d : DS) (L : SHeap) : Prop := ∃ F T, L.Perm (F ++ T) ∧ DRep D d F
theorem pq3 {x : Nat × Obj} {F T : SHeap} : (x :: (F ++ T)).Perm (F ++ x :: T) := List.perm_middle.symm
theorem JD.dm {JB D : Nat} {m : JM} {d : DS} {L : SHeap} (h : JD JB D m d L) : DM D d L := by
 obtain ⟨F, p, c, T, h1, h2, h3⟩ := h
 exact ⟨F, _, h1.trans pq3, h2⟩
theorem pq9 {x : Nat × Obj} {N L F T : SHeap} (h : L.Perm (x :: (F ++ T))) : (N ++ L).Perm (F ++ (N ++ x :: T)) := perm_of fun c w h1 h2 h3 h4 => by
 have := h4 _ _ h
 simp only [h1, h2, h3] at this ⊢; omega
theorem pq10 {x : Nat × Obj} {X N F T : SHeap} : (F ++ (X ++ (N ++ x :: T))).Perm (x :: (F ++ ((X ++ N) ++ T))) := perm_a
theorem JD.re {JB D : Nat} {m : JM} {d' : DS} {F' X N T : SHeap} {p : OA} {c : Nat} (h : DRep D d' F') (hT : FRow noLk m.fs p c T) : JD JB D m d' (F' ++ (X ++ (N ++ jH JB D (m.js p c) :: T))) :=
 ⟨F', p, c, (X ++ N) ++ T, pq10, h, hT.more _⟩
theorem FRow.within {fs : List Fct} {p : OA} {c : Nat} {N L : SHeap} (h : FRow noLk fs p c N) (hx : ∀ x ∈ N, x ∈ L) : FctsL (lkF L) p fs := h.fcts.mono fun b c hb => lkF_mono hx b c (lkU_no b c hb)
theorem preOf {told F : SHeap} {w0 W : World} (hm : Mem (told ++ F) [] w0 W) (hg : blkW w0 0 = some tabV) : APre (lkW w0) (F.map (·.1)) W :=
 ⟨lkX_of hm 0 tabV (.inr hg), fun b c h => lkX_of hm b c (.inr h)⟩
section calls
variable {w0 : World} {JB D : Nat} {m : JM} {d : DS} {F N L : SHeap} {K : Value → SHeap → Prop} (told : SHeap)
theorem pq4 {told F N L : SHeap} (h : F.Perm (N ++ L)) : (L ++ (told ++ N)).Perm (told ++ F) := perm_of fun c w h1 h2 h3 h4 => by
 have := h4 _ _ h
 simp only [h1, h2, h3] at this ⊢; omega
theorem pq5 {told N L : SHeap} : (L ++ (told ++ N)).Perm (told ++ (N ++ L)) := pq4 (List.Perm.refl _)
theorem preOfN {W : World} (hF : F.Perm (N ++ L)) (hm : Mem (told ++ F) [] w0 W) (hg : blkW w0 0 = some tabV) : APre (lkW w0) (L.map (·.1)) W := by
 have : Mem ((told ++ N) ++ L) [] w0 W := hm.perm (by rw [List.append_assoc]; exact (hF.append_left told).symm)
 exact preOf this hg
theorem CallH.app {f : Fct} {tp bp ap : OA} {tc bc ac : Nat} (hF : F.Perm (N ++ L)) (h : JD JB D m d L) (hm : MOk m) (hp : d.pend.length < 900000) (hg : blkW w0 0 = some tabV) (hf : FAt (lkW w0) f tp tc bp bc ap ac)
  (hK : ∀ L', JD JB D (appendM m d f).2.1 (appendM m d f).2.2 L' → K (.int .i64 (appendM m d f).1) (told ++ (N ++ L'))) :
  CallH TP 16 ⟨[pt JB 0, .agg ⟨f.cells tp tc bp bc ap ac⟩]⟩ (told ++ F) [] w0 K :=
 CallH.effW (L1 := told ++ N) (append_e h hm hp hf) (fun W hm' => preOfN told hF hm' hg) (pq4 hF) fun v L' ⟨e, hj⟩ => ⟨_, pq5, e ▸ hK L' hj⟩
theorem CallH.appA {f : Fct} {tp bp ap : OA} {tc bc ac : Nat} {A : Array Value} (hA : A = ⟨f.cells tp tc bp bc ap ac⟩) (hF : F.Perm (N ++ L)) (h : JD JB D m d L) (hm : MOk m) (hp : d.pend.length < 900000) (hg : blkW w0 0 = some tabV) (hf : FAt (lkW w0) f tp tc bp bc ap ac)
  (hK : ∀ L', JD JB D (appendM m d f).2.1 (appendM m d f).2.2 L' → K (.int .i64 (appendM m d f).1) (told ++ (N ++ L'))) :
  CallH TP 16 ⟨[pt JB 0, .agg A]⟩ (told ++ F) [] w0 K := by
 subst hA
 exact CallH.app told hF h hm hp hg hf hK
theorem CallH.chk (hF : F.Perm (N ++ L)) (h : JD JB D m d L) (hm : MOk m) (hp : d.pend.length < 900000) (hg : blkW w0 0 = some tabV)
  (hK : ∀ L', JD JB D (checkM m d).2.1 (checkM m d).2.2 L' → K (.int .i64 (checkM m d).1) (told ++ (N ++ L'))) :
  CallH TP 25 ⟨[pt JB 0]⟩ (told ++ F) [] w0 K :=
 CallH.effW (L1 := told ++ N) (check_e h hm hp) (fun W hm' => ⟨(preOfN told hF hm' hg).1, fun b c h => h.elim⟩) (pq4 hF) fun v L' ⟨e, hj⟩ => ⟨_, pq5, e ▸ hK L' hj⟩
theorem pq6 {x : Nat × Obj} {told F F0 T : SHeap} (h : F.Perm (x :: (F0 ++ T))) : ((x :: T) ++ (told ++ F0)).Perm (told ++ F) := perm_of fun c w h1 h2 h3 h4 => by
 have := h4 _ _ h
 simp only [h1, h2, h3, List.cons_append] at this ⊢; omega
theorem pq7 {x : Nat × Obj} {told F F0 T N X : SHeap} (h : F.Perm (x :: (F0 ++ T))) (h2 : X.Perm (N ++ (x :: T))) : (X ++ (told ++ F0)).Perm (told ++ (N ++ F)) := perm_of fun c w h1 h2' h3 h4 => by
 have := h4 _ _ h
 have := h4 _ _ h2
 simp only [h1, h2', h3, List.cons_append] at *; omega
theorem CallH.facts (h : JD JB D m d F) (hm : MOk m)
  (hK : ∀ p c N, FRow noLk m.fs p c N → K (.slice p m.fs.length c) (told ++ (N ++ F))) :
  CallH TP 15 ⟨[pt JB 0]⟩ (told ++ F) [] w0 K := by
 obtain ⟨F0, p, c, T, h1, h2, h3⟩ := h
 have hl := hm.len
 refine CallH.eff (L0 := jH JB D (m.js p c) :: T) (L1 := told ++ F0) (facts_e ⟨p, c, T, rfl, h3⟩ (fun f hf => ok_small (hm.ok f hf)) (by omega)) (pq6 h1) ?_
 rintro v L' ⟨p', c', N, rfl, hp, hr⟩
 exact ⟨_, pq7 h1 hp, hK p' c' N hr⟩
theorem JD.here {W : World} {S : List Nat} (h : JD JB D m d F) (hm : Mem (told ++ F) S w0 W) : ∃ p c, W.heap[JB]? = some (jH JB D (m.js p c)).2 := by
 obtain ⟨F0, p, c, T, h1, h2, h3⟩ := h
 exact ⟨p, c, hm.here (jH JB D (m.js p c)) (List.mem_append_right _ (h1.mem_iff.2 List.mem_cons_self))⟩
theorem CallH.room (h : JD JB D m d F) (hm : MOk m) (hK : K (.int .i64 ((m.sz - m.en : Nat) : Int)) (told ++ F)) : CallH TP 23 ⟨[pt JB 0]⟩ (told ++ F) [] w0 K :=
 CallH.pw (fun W hm' => by
  obtain ⟨p, c, hh⟩ := h.here told hm'
  have := hm.sz
  exact room_pw hh hm.en (by omega)) hK
theorem CallH.gen (h : JD JB D m d F) (hK : K (.int .i64 m.gen) (told ++ F)) : CallH TP 26 ⟨[pt JB 0]⟩ (told ++ F) [] w0 K :=
 CallH.pw (fun W hm' => by
  obtain ⟨p, c, hh⟩ := h.here told hm'
  exact gen_pw hh) hK
def OpnJ (D : Nat) (r : Int × Option JM × DS) (v : Value) (L' : SHeap) : Prop :=
 match r with
 | (e, none, d') => v = .tuple #[.pointer none, .int .i64 e]
 | (e, some m, d') => ∃ JB, v = .tuple #[pt JB 0, .int .i64 0] ∧ JD JB D m d' L'
theorem CallH.opn {Fd T : SHeap} (hF : F.Perm (Fd ++ T)) (h : DRep D d Fd) (hp : d.pend.length < 900000) (hg : blkW w0 0 = some tabV)
  (hK : ∀ v F' X, DRep D (openM d).2.2 F' → OpnJ D (openM d) v (F' ++ (X ++ T)) → K v (told ++ (F' ++ (X ++ T)))) :
  CallH TP 13 ⟨[pt D 0]⟩ (told ++ F) [] w0 K := by
 refine CallH.effW (L0 := Fd) (L1 := told ++ T) (open_e h hp) (fun W hm' => ?_) (pq4 (N := T) (hF.trans List.perm_append_comm)) ?_
 ·have : Mem ((told ++ T) ++ Fd) [] w0 W := hm'.perm (by rw [List.append_assoc]; exact ((hF.trans List.perm_append_comm).append_left told).symm)
  exact lkX_of this 0 tabV (.inr hg)
 ·intro v L' hk
  generalize openM d = r at *
  obtain ⟨e, o, d'⟩ := r
  cases o with
  | none =>
   obtain ⟨rfl, F', X, k1, k2⟩ := hk
   refine ⟨_, ?_, hK _ F' X k2 rfl⟩
   exact perm_of fun c w h1 h2 h3 h4 => by
    have := h4 _ _ k1
    simp only [h1, h2, h3] at this ⊢; omega
  | some m =>
   obtain ⟨JB, rfl, F', p, c, T', k1, k2, k3⟩ := hk
   refine ⟨_, ?_, hK _ F' (jH JB D (m.js p c) :: T') k2 ⟨JB, rfl, F', p, c, T' ++ T, ?_, k2, (k3.more T).perm List.perm_append_comm⟩⟩
   ·exact perm_of fun c w h1 h2 h3 h4 => by
     have := h4 _ _ k1
     simp only [h1, h2, h3, List.cons_append] at this ⊢; omega
   ·exact perm_of fun c w h1 h2 h3 h4 => by
     simp only [h1, h2, h3, List.cons_append]; omega
theorem CallH.dsk {g : FuncId} {args : Array Value} {Fd T : SHeap} {v : Value} {d' : DS} (hF : F.Perm (Fd ++ T)) (h : EffC TP g args Fd (DRes D v d')) (hK : ∀ F', DRep D d' F' → K v (told ++ (F' ++ T))) : CallH TP g args (told ++ F) [] w0 K :=
 CallH.eff (L1 := told ++ T) h (pq4 (N := T) (hF.trans List.perm_append_comm)) fun v' L' hk => ⟨told ++ (L' ++ T), List.perm_append_comm_assoc _ _ _, by obtain ⟨rfl, hr⟩ := hk; exact hK _ hr⟩
theorem CallH.same {p q : OA} {cp cq : Nat} {a b : List Fct} (ha : FctsL (lkF F) p a) (hb : FctsL (lkF F) q b) (hl : a.length ≤ 1000000) (hK : K (.bool (decide (a = b))) F) : CallH TP 30 ⟨[.slice p a.length cp, .slice q b.length cq]⟩ F [] w0 K :=
 CallH.pw (fun W' hm' => fSameL_c (ha.mono (lkF_W hm' fun x hx => hx)) (hb.mono (lkF_W hm' fun x hx => hx)) (by omega)) hK
end calls
theorem content_e {D : Nat} {d : DS} {Fd : SHeap} (h : DRep D d Fd) (hon : d.on = true) : EffC TP 21 ⟨[pt D 0]⟩ Fd (DRes D (.string ⟨d.vis.toArray⟩) d) := by
 intro W hm
 have hle := h.1.le
 refine content_vc D Fd hm (CallH.dT [] (Size_e h) fun F1 hd1 => ⟨_, F1, rfl, rfl, CallH.dT [] (Read_e hd1 (by omega)) fun F2 hd2 => ⟨_, _, F2, rfl, rfl, ?_⟩⟩)
 have e : (d.read 0 (d.vis.length : Int)).1 = ⟨d.vis.toArray⟩ := by
  rw [DS.read, if_neg (by rw [hon]; decide), if_pos ⟨Int.le_refl _, by omega, by omega⟩]
  simp
 rw [e]
 exact dkFin ⟨rfl, hd2⟩
structure JDeed where
 call : Int
 f : Fct
 num : Int
 keep : List Int
def DeedL (lk : Lk) (cs : List Value) (x : JDeed) : Prop := i64 x.call ∧ ∃ tp tc bp bc ap ac kp kc, cs = .int .i64 x.call :: (x.f.cells tp tc bp bc ap ac ++ [.int .i64 x.num, .slice kp x.keep.length kc]) ∧ FArg lk x.f tp tc bp bc ap ac ∧ IntsL lk kp x.keep ∧ x.keep.length ≤ 9223372036854775807 ∧ i64 x.num
theorem deed_get {lk : Lk} {p : OA} {l : List JDeed} (h : SlAt lk 26 (DeedL lk) p l) {i : Nat} (hi : i < l.length) :
  ∃ b o c tp tc bp bc ap ac, p = some ⟨b, o, none⟩ ∧ lk b c ∧ ((c.drop ((o + i * 26) + 1)).take 23 = l[i].f.cells tp tc bp bc ap ac ∧ (o + i * 26) + 1 + 23 ≤ c.length) ∧ c[o + i * 26]? = some (.int .i64 l[i].call) ∧ FArg lk l[i].f tp tc bp bc ap ac ∧ i64 l[i].call := by
 obtain ⟨b, o, c, e, h2, h3⟩ := h (by omega)
 obtain ⟨k1, k2, tp, tc, bp, bc, ap, ac, kp, kc, k3, k4, _⟩ := h3 i hi
 refine ⟨b, o, c, tp, tc, bp, bc, ap, ac, e, h2, ⟨?_, by omega⟩, ?_, k4, k2⟩
 ·have := congrArg (fun l => (l.drop 1).take 23) k3
  simp only [List.drop_take, List.drop_drop, List.take_take] at this
  simpa [List.drop_succ_cons] using this
 ·have := congrArg (fun l => l[0]?) k3
  simp only [List.getElem?_take_of_lt (show 0 < 26 by decide), List.getElem?_drop] at this
  simpa using this
theorem row_23 {c : List Value} {o : Nat} {f : Fct} {tp bp ap : OA} {tc bc ac : Nat} (h : (c.drop o).take 23 = f.cells tp tc bp bc ap ac) : c[o + 2]? = some (.int .i64 f.kind) ∧ c[o + 3]? = some (.int .i64 f.story) := by
 have k2 : ((c.drop o).take 23)[2]? = some (.int .i64 f.kind) := by rw [h]; rfl
 have k3 : ((c.drop o).take 23)[3]? = some (.int .i64 f.story) := by rw [h]; rfl
 rw [List.getElem?_take_of_lt (by decide), List.getElem?_drop] at k2 k3
 exact ⟨k2, k3⟩
section perms
variable (x y : Nat × Obj) (X N F : SHeap)
end perms
set_option maxRecDepth 100000
abbrev zL2aa : Array Value := #[IV 1, IV 0, IV 6, IV 5, .string (⟨#[]⟩), IV 0, IV 0, .string (⟨#[]⟩), .string (⟨#[]⟩), .slice none 0 0, .slice none 0 0, IV 0, .slice none 0 0, IV 0, IV 0, IV 0, IV 0, IV 0, .string (⟨#[]⟩), .string (⟨#[]⟩), IV 0, IV 0, IV 0]
abbrev sane24H0 (B : Nat) (F8 : SHeap) : SHeap := ((B, .cells zL2aa 38) :: F8)
abbrev sane24H1 (B : Nat) (F9 : SHeap) : SHeap := ((B, .cells zL2aa 38) :: F9)
abbrev sane24H2 (B : Nat) (F3 : SHeap) : SHeap := ((B, .cells zL2aa 38) :: F3)
abbrev sane24H3 (B : Nat) (F4 : SHeap) : SHeap := ((B, .cells zL2aa 38) :: F4)
abbrev sane24H4 (B : Nat) (F5 : SHeap) : SHeap := ((B, .cells zL2aa 38) :: F5)
abbrev sane24H5 (B : Nat) (F6 : SHeap) : SHeap := ((B, .cells zL2aa 38) :: F6)
abbrev sane24H6 (B : Nat) (F7 : SHeap) : SHeap := ((B, .cells zL2aa 38) :: F7)
abbrev sane24A0 : Array Value := zL2aa
theorem sane24_vc (F : SHeap) (hm : Mem (F) [] w0 W)
 (H :
 CallH TP 11 ⟨[IV 200]⟩ (F) [] w0 (fun v L' => ∃ (r1 : OA), ∃ r21 F1, v = (.tuple #[.pointer r1, IV r21]) ∧ L' = F1 ∧
 CallH TP 13 ⟨[.pointer r1]⟩ (F1) [] w0 (fun v L' => ∃ (r31 : OA), ∃ r41 F2, v = (.tuple #[.pointer r31, IV r41]) ∧ L' = F2 ∧
 ∀ B : Nat,
 CallH TP 16 ⟨[.pointer r31, .agg sane24A0]⟩ ((B, .cells sane24A0 38) :: F2) [] w0 (fun v L' => ∃ r51 F3, v = IV r51 ∧ L' = (sane24H2 B F3) ∧
 CallH TP 16 ⟨[.pointer r31, .agg sane24A0]⟩ (sane24H2 B F3) [] w0 (fun v L' => ∃ r61 F4, v = IV r61 ∧ L' = (sane24H3 B F4) ∧
 CallH TP 25 ⟨[.pointer r31]⟩ (sane24H3 B F4) [] w0 (fun v L' => ∃ r71 F5, v = IV r71 ∧ L' = (sane24H4 B F5) ∧
 CallH TP 15 ⟨[.pointer r31]⟩ (sane24H4 B F5) [] w0 (fun v L' => ∃ (r81_p : OA) (r81_l : Nat) (r81_c : Nat), ∃ F6, v = (.slice r81_p r81_l r81_c) ∧ L' = (sane24H5 B F6) ∧
 CallH TP 13 ⟨[.pointer r1]⟩ (sane24H5 B F6) [] w0 (fun v L' => ∃ (r91 : OA), ∃ r101 F7, v = (.tuple #[.pointer r91, IV r101]) ∧ L' = (sane24H6 B F7) ∧
 CallH TP 13 ⟨[.pointer none]⟩ (sane24H6 B F7) [] w0 (fun v L' => ∃ (r111 : OA), ∃ r121 F8, v = (.tuple #[.pointer r111, IV r121]) ∧ L' = (sane24H0 B F8) ∧
 Br (r41 = 0)
 (Br (r51 = 0)
 (Br (r61 = 240)
 (Br (r71 = 0)
 (Br ((r81_l : Int) = (1 : Int))
 (∃ r81_pb r81_po : Nat, r81_p = some ⟨r81_pb, r81_po, none⟩ ∧
 (0 ≤ (0 : Int) ∧ (0 : Int) < r81_l) ∧
 ∃ (cw : List Value) (m1 : Int), held (sane24H0 B F8) w0 r81_pb cw ∧ cw[((r81_po + ((0) * 23)) + 3)]? = some (IV m1) ∧
 Br (m1 = 5)
 (CallH TP 26 ⟨[.pointer r31]⟩ (sane24H0 B F8) [] w0 (fun v L' => ∃ r131, v = IV r131 ∧ L' = (sane24H0 B F8) ∧
 Br (r131 = 2)
 (Br (r101 = 0)
 (CallH TP 15 ⟨[.pointer r91]⟩ (sane24H0 B F8) [] w0 (fun v L' => ∃ (r141_p : OA) (r141_l : Nat) (r141_c : Nat), ∃ F9, v = (.slice r141_p r141_l r141_c) ∧ L' = (sane24H1 B F9) ∧
 Br ((r141_l : Int) = (1 : Int))
 (Fin R (sane24H1 B F9) [] w0 (.bool (decide (r121 = 1))))
 (Fin R (sane24H1 B F9) [] w0 (.bool false))))
 (Fin R (sane24H0 B F8) [] w0 (.bool false)))
 (Fin R (sane24H0 B F8) [] w0 (.bool false))))
 (Fin R (sane24H0 B F8) [] w0 (.bool false)))
 (Fin R (sane24H0 B F8) [] w0 (.bool false)))
 (Fin R (sane24H0 B F8) [] w0 (.bool false)))
 (Fin R (sane24H0 B F8) [] w0 (.bool false)))
 (Fin R (sane24H0 B F8) [] w0 (.bool false)))
 (Fin R (sane24H0 B F8) [] w0 (.bool false))))))))))) :
 Calls TP 10 ⟨[]⟩ W R:= by
 refine AtE.cs 88 Tryz.func10 hm (.ru 6 (.cl H ?_))
 clear H
 rintro _ F1 ⟨r1, r21, _, rfl, rfl, H⟩
 refine .ru 9 (.cl H ?_)
 clear H
 rintro _ F2 ⟨r31, r41, _, rfl, rfl, H⟩
 refine .ru 9 (.np (.cells #[IV 0, IV 0, IV 0, IV 0, .string (⟨#[]⟩), IV 0, IV 0, .string (⟨#[]⟩), .string (⟨#[]⟩), .slice none 0 0, .slice none 0 0, IV 0, .slice none 0 0, IV 0, IV 0, IV 0, IV 0, IV 0, .string (⟨#[]⟩), .string (⟨#[]⟩), IV 0, IV 0, IV 0] 38) fun B => ?_)
 replace H := H B
 refine .front (.store 0 0 (T := 38) (v := .agg sane24A0) (by kernel_rfl) (.ru 4 (.ld 0 0 (.cl H ?_))))
 clear H
 rintro _ _ ⟨r51, F3, rfl, rfl, H⟩
 refine .ru 5 (.ld 0 0 (.cl H ?_))
 clear H
 rintro _ _ ⟨r61, F4, rfl, rfl, H⟩
 refine .ru 5 (.cl H ?_)
 clear H
 rintro _ _ ⟨r71, F5, rfl, rfl, H⟩
 refine .ru 5 (.cl H ?_)
 clear H
 rintro _ _ ⟨r81_p, r81_l, r81_c, F6, rfl, rfl, H⟩
 refine .ru 5 (.cl H ?_)
 clear H
 rintro _ _ ⟨r91, r101, F7, rfl, rfl, H⟩
 refine .ru 8 (.cl H ?_)
 clear H
 rintro _ _ ⟨r111, r121, F8, rfl, rfl, H⟩
 refine .ru 11 (.sP 45 H ?_ ?_) <;> clear H <;> intro H
 ·refine .ru 4 (.sP 49 H ?_ ?_) <;> clear H <;> intro H
  ·refine .ru 4 (.sP 53 H ?_ ?_) <;> clear H <;> intro H
   ·refine .ru 4 (.sP 57 H ?_ ?_) <;> clear H <;> intro H
    ·refine .ru 5 (.sP 62 H ?_ ?_) <;> clear H <;> intro H
     ·refine .ru 1 ?_
      obtain ⟨r81_pb, r81_po, rfl, H⟩ := H
      refine .indexAddrL (E := 38) (b := r81_pb) (o := r81_po) (len := r81_l) (cap := r81_c) (sz := 23) (o' := (r81_po + ((0) * 23))) (kd := .i64) (i := (0 : Int)) (by kernel_rfl) H.1 (by omega) ?_
      replace H := H.2
      refine .ru 1 ?_
      obtain ⟨cw, m1, hw, hx, H⟩ := H
      refine .loadM (b := r81_pb) (off := ((r81_po + ((0) * 23)) + 3)) (T := 3) (v := IV m1) (by kernel_rfl) List.not_mem_nil hw (valAt_one hx (by kernel_rfl)) (.ru 3 (.sP 69 H ?_ ?_)) <;> clear H <;> intro H
      ·refine .ru 1 (.cl H ?_)
       clear H
       rintro _ _ ⟨r131, rfl, rfl, H⟩
       refine .ru 3 (.sP 74 H ?_ ?_) <;> clear H <;> intro H
       ·refine .ru 4 (.sP 78 H ?_ ?_) <;> clear H <;> intro H
        ·refine .nm (KR Tryz.f10 4094 [36,37,38,39,40,41,42,43,44,45]) [(10, .pointer r91), (13, IV r121), (78, .bool true)] (sane24H0 B F8) (.ru 1 (.cl H ?_))
         clear H
         rintro _ _ ⟨r141_p, r141_l, r141_c, F9, rfl, rfl, H⟩
         refine .ru 4 (.sP 84 H ?_ ?_) <;> clear H <;> intro H
         ·refine .ru 5 (.rt Tryz.func10 H)
         ·refine .ru 5 (.rt Tryz.func10 H)
        ·refine .nm (KR Tryz.f10 4094 [36,37,38,39,40,41,42,43,44,45]) [(10, .pointer r91), (13, IV r121), (78, .bool false)] (sane24H0 B F8) (.ru 11 (.rt Tryz.func10 H))
       ·refine .ru 15 (.rt Tryz.func10 H)
      ·refine .ru 20 (.rt Tryz.func10 H)
     ·refine .ru 27 (.rt Tryz.func10 H)
    ·refine .ru 32 (.rt Tryz.func10 H)
   ·refine .ru 36 (.rt Tryz.func10 H)
  ·refine .ru 40 (.rt Tryz.func10 H)
 ·refine .ru 44 (.rt Tryz.func10 H)
set_option maxRecDepth 100000
theorem jOpenN_vc  (hm : Mem [] [] w0 W)
 (H :
 Fin R [] [] w0 (.tuple #[.pointer none, IV 1])) :
 Calls TP 13 ⟨[.pointer none]⟩ W R:= by
 refine AtE.cs 139 Tryz.func13 hm (.ru 9 (.il 42 [.pointer none] 10 Tryz.func42 (.ru 15 (.rk Tryz.func42 (.ru 8 (.rt Tryz.func13 H))))))
set_option maxRecDepth 100000
theorem New_vc (size : Int) (hm : Mem [] [] w0 W)
 (H :
 Br (size < 1)
 (Fin R [] [] w0 (.tuple #[.pointer none, IV 2]))
 (Br ((4194304 : Int) < size)
 (Fin R [] [] w0 (.tuple #[.pointer none, IV 2]))
 ((0 ≤ size ∧ size ≤ size ∧ 1 * size ≤ 281474976710656 ∧ size ≤ 9223372036854775807) ∧
 ∀ B : Nat,
 (0 ≤ size ∧ size ≤ size ∧ 1 * size ≤ 281474976710656 ∧ size ≤ 9223372036854775807) ∧
 ∀ B1 B2 : Nat,
 Fin R [(B, .cells ⟨(List.replicate (Int.toNat size) (.int .u8 0))⟩ 5), (B1, .cells ⟨(List.replicate (Int.toNat size) (.int .u8 0))⟩ 5), (B2, .cells #[.bool true, IV 0, .slice (SO B) (Int.toNat size) (Int.toNat size), .slice (SO B1) (Int.toNat size) (Int.toNat size), .slice none 0 0] 82)] [] w0 (.tuple #[PP B2, IV 0])))) :
 Calls TP 11 ⟨[IV size]⟩ W R:= by
 refine AtE.cs 22 Tryz.func11 hm (.ru 11 (.sP 7 H (fun H => ?_) fun H => ?_))
 ·refine .ru 10 (.rt Tryz.func11 H)
 ·refine .ru 4 (.sP 10 H (fun H => ?_) fun H => ?_)
  ·refine .ru 6 (.rt Tryz.func11 H)
  ·refine .ru 3 ?_
   have H0 := H
   have hd0 : ∀ B B1 B2 : Nat, AtL TP 11 22 (regOps [.code (sub (Eng.body Tryz.f11) [1,1,0])]) 0 #[true, true, true, true, true, true, true] (KC Tryz.f11 15) [(4, PP B2)] [(B, .cells ⟨(List.replicate (Int.toNat size) (.int .u8 0))⟩ 5), (B1, .cells ⟨(List.replicate (Int.toNat size) (.int .u8 0))⟩ 5), (B2, .cells #[.bool false, IV 0, .slice (SO B) (Int.toNat size) (Int.toNat size), .slice (SO B1) (Int.toNat size) (Int.toNat size), .slice none 0 0] 82)] [] w0 (nrm R) := by
    intro B B1 B2 t
    have H := (((H0.2 B).2 B1) B2)
    refine .ru 6 (.nm (KR Tryz.f11 30 [3]) [(4, PP B2), (19, PP B2)] [(B, .cells ⟨(List.replicate (Int.toNat size) (.int .u8 0))⟩ 5), (B1, .cells ⟨(List.replicate (Int.toNat size) (.int .u8 0))⟩ 5), (B2, .cells #[.bool false, IV 0, .slice (SO B) (Int.toNat size) (Int.toNat size), .slice (SO B1) (Int.toNat size) (Int.toNat size), .slice none 0 0] 82)] (.il 41 [PP B2] 8 Tryz.func41 (.ru 5 (.st 2 0 (.ru 2 (.st 2 1 (.ru 1 (.rk Tryz.func41 (.ru 7 (.rt Tryz.func11 H))))))))))
   have hd1 : ∀ B B1 B2 : Nat, AtL TP 11 22 (regOps [.code (sub (Eng.body Tryz.f11) [1,1,0])]) 1 #[true, true, true, true, true, true, false] (KC Tryz.f11 15) [(16, PP B2)] [(B, .cells ⟨(List.replicate (Int.toNat size) (.int .u8 0))⟩ 5), (B1, .cells ⟨(List.replicate (Int.toNat size) (.int .u8 0))⟩ 5), (B2, .cells #[.bool false, IV 0, .slice (SO B) (Int.toNat size) (Int.toNat size), .slice (SO B1) (Int.toNat size) (Int.toNat size), .slice none 0 0] 82)] [] w0 (nrm R) := by
    intro B B1 B2
    refine .step [6] (by kernel_rfl) ⟨fun t => ?_, trivial⟩
    ·have H := (((H0.2 B).2 B1) B2)
     refine .ru 1 (.cut [0,1,2] (hd0 B B1 B2 t) (by kernel_rfl))
   have hd2 : ∀ B B1 : Nat, AtL TP 11 22 (regOps [.code (sub (Eng.body Tryz.f11) [1,1,0])]) 2 #[true, true, true, true, true, false, false] (KC Tryz.f11 15) [(15, .agg #[.bool false, IV 0, .slice (SO B) (Int.toNat size) (Int.toNat size), .slice (SO B1) (Int.toNat size) (Int.toNat size), .slice none 0 0])] [(B, .cells ⟨(List.replicate (Int.toNat size) (.int .u8 0))⟩ 5), (B1, .cells ⟨(List.replicate (Int.toNat size) (.int .u8 0))⟩ 5)] [] w0 (nrm R) := by
    intro B B1
    refine .step [5] (by kernel_rfl) ⟨fun t => ?_, trivial⟩
    ·have H := ((H0.2 B).2 B1)
     refine .nH (.cells #[.bool false, IV 0, .slice (SO B) (Int.toNat size) (Int.toNat size), .slice (SO B1) (Int.toNat size) (Int.toNat size), .slice none 0 0] 82) H fun B2 H => (.cut [0,1,2] (hd1 B B1 B2 t) (by kernel_rfl))
   have hd3 : ∀ B B1 : Nat, AtL TP 11 22 (regOps [.code (sub (Eng.body Tryz.f11) [1,1,0])]) 3 #[true, true, true, true, false, false, false] (KC Tryz.f11 15) [(12, .slice (SO B) (Int.toNat size) (Int.toNat size)), (14, .slice (SO B1) (Int.toNat size) (Int.toNat size))] [(B, .cells ⟨(List.replicate (Int.toNat size) (.int .u8 0))⟩ 5), (B1, .cells ⟨(List.replicate (Int.toNat size) (.int .u8 0))⟩ 5)] [] w0 (nrm R) := by
    intro B B1
    refine .step [4] (by kernel_rfl) ⟨fun t => ?_, trivial⟩
    ·have H := ((H0.2 B).2 B1)
     refine .ru 1 (.cut [0,1] (hd2 B B1 t) (by kernel_rfl))
   have hd4 : ∀ B : Nat, AtL TP 11 22 (regOps [.code (sub (Eng.body Tryz.f11) [1,1,0])]) 4 #[true, true, true, false, false, false, false] (KC Tryz.f11 15) [(12, .slice (SO B) (Int.toNat size) (Int.toNat size)), (13, IV size)] [(B, .cells ⟨(List.replicate (Int.toNat size) (.int .u8 0))⟩ 5)] [] w0 (nrm R) := by
    intro B
    refine .step [3] (by kernel_rfl) ⟨fun t => ?_, trivial⟩
    ·have H := (H0.2 B)
     refine .make (E := 5) (kl := .i64) (kc := .i64) (n := size) (m := size) (z := .int .u8 0) (bytes := 1) (by kernel_rfl) H.1 (fun B1 => ?_)
     replace H := H.2 B1
     exact .cut [0,1] (hd3 B B1 t) (by kernel_rfl)
   have hd5 : ∀ B1 : Nat, AtL TP 11 22 (regOps [.code (sub (Eng.body Tryz.f11) [1,1,0])]) 4 #[true, false, true, true, false, false, false] (KC Tryz.f11 15) [(11, IV size), (14, .slice (SO B1) (Int.toNat size) (Int.toNat size))] [(B1, .cells ⟨(List.replicate (Int.toNat size) (.int .u8 0))⟩ 5)] [] w0 (nrm R) := by
    intro B1
    refine .step [1] (by kernel_rfl) ⟨fun t => ?_, trivial⟩
    ·have H := H0
     refine .make (E := 5) (kl := .i64) (kc := .i64) (n := size) (m := size) (z := .int .u8 0) (bytes := 1) (by kernel_rfl) H.1 (fun B => ?_)
     replace H := H.2 B
     exact .cut [1,0] (hd3 B B1 t) (by kernel_rfl)
   have hd6 : ∀ B : Nat, AtL TP 11 22 (regOps [.code (sub (Eng.body Tryz.f11) [1,1,0])]) 5 #[true, true, false, false, false, false, false] (KC Tryz.f11 15) [(0, IV size), (12, .slice (SO B) (Int.toNat size) (Int.toNat size))] [(B, .cells ⟨(List.replicate (Int.toNat size) (.int .u8 0))⟩ 5)] [] w0 (nrm R) := by
    intro B
    refine .step [2] (by kernel_rfl) ⟨fun t => ?_, trivial⟩
    ·have H := H0
     refine .ru 1 (.cut [0] (hd4 B t) (by kernel_rfl))
   have hd7 : AtL TP 11 22 (regOps [.code (sub (Eng.body Tryz.f11) [1,1,0])]) 5 #[true, false, true, false, false, false, false] (KC Tryz.f11 15) [(11, IV size), (13, IV size)] [] [] w0 (nrm R) := by
    refine .step [1,3] (by kernel_rfl) ⟨fun t => ?_, fun t => ?_, trivial⟩
    ·have H := H0
     refine .make (E := 5) (kl := .i64) (kc := .i64) (n := size) (m := size) (z := .int .u8 0) (bytes := 1) (by kernel_rfl) H.1 (fun B => ?_)
     replace H := H.2 B
     exact .cut [0] (hd4 B t) (by kernel_rfl)
    ·have H := (H0.2 0)
     refine .make (E := 5) (kl := .i64) (kc := .i64) (n := size) (m := size) (z := .int .u8 0) (bytes := 1) (by kernel_rfl) H.1 (fun B1 => ?_)
     replace H := H.2 B1
     exact .cut [0] (hd5 B1 t) (by kernel_rfl)
   have hd8 : ∀ B1 : Nat, AtL TP 11 22 (regOps [.code (sub (Eng.body Tryz.f11) [1,1,0])]) 5 #[false, false, true, true, false, false, false] (KC Tryz.f11 15) [(0, IV size), (14, .slice (SO B1) (Int.toNat size) (Int.toNat size))] [(B1, .cells ⟨(List.replicate (Int.toNat size) (.int .u8 0))⟩ 5)] [] w0 (nrm R) := by
    intro B1
    refine .step [0] (by kernel_rfl) ⟨fun t => ?_, trivial⟩
    ·have H := H0
     refine .ru 1 (.cut [0] (hd5 B1 t) (by kernel_rfl))
   have hd9 : AtL TP 11 22 (regOps [.code (sub (Eng.body Tryz.f11) [1,1,0])]) 6 #[true, false, false, false, false, false, false] (KC Tryz.f11 15) [(0, IV size), (11, IV size)] [] [] w0 (nrm R) := by
    refine .step [1,2] (by kernel_rfl) ⟨fun t => ?_, fun t => ?_, trivial⟩
    ·have H := H0
     refine .make (E := 5) (kl := .i64) (kc := .i64) (n := size) (m := size) (z := .int .u8 0) (bytes := 1) (by kernel_rfl) H.1 (fun B => ?_)
     replace H := H.2 B
     exact .cut [0] (hd6 B t) (by kernel_rfl)
    ·have H := H0
     refine .ru 1 (.cut [] (hd7  t) (by kernel_rfl))
   have hd10 : AtL TP 11 22 (regOps [.code (sub (Eng.body Tryz.f11) [1,1,0])]) 6 #[false, false, true, false, false, false, false] (KC Tryz.f11 15) [(0, IV size), (13, IV size)] [] [] w0 (nrm R) := by
    refine .step [0,3] (by kernel_rfl) ⟨fun t => ?_, fun t => ?_, trivial⟩
    ·have H := H0
     refine .ru 1 (.cut [] (hd7  t) (by kernel_rfl))
    ·have H := (H0.2 0)
     refine .make (E := 5) (kl := .i64) (kc := .i64) (n := size) (m := size) (z := .int .u8 0) (bytes := 1) (by kernel_rfl) H.1 (fun B1 => ?_)
     replace H := H.2 B1
     exact .cut [0] (hd8 B1 t) (by kernel_rfl)
   have hd11 : AtL TP 11 22 (regOps [.code (sub (Eng.body Tryz.f11) [1,1,0])]) 7 #[false, false, false, false, false, false, false] (KC Tryz.f11 15) [(0, IV size)] [] [] w0 (nrm R) := by
    refine .step [0,2] (by kernel_rfl) ⟨fun t => ?_, fun t => ?_, trivial⟩
    ·have H := H0
     refine .ru 1 (.cut [] (hd9  t) (by kernel_rfl))
    ·have H := H0
     refine .ru 1 (.cut [] (hd10  t) (by kernel_rfl))
   exact .cut [] (.drawAny (k := (KC Tryz.f11 14)) (by kernel_rfl) hd11) (by kernel_rfl)
def DS.new (n : Nat) : DS := { on := true, cut := 0, dur := List.replicate n 0, vis := List.replicate n 0, pend := [] }
theorem bytesL_zero (n : Nat) : (List.replicate n (.int .u8 0) : List Value) = bytesL (List.replicate n 0) := by simp [bytesL]
theorem New_e {n : Int} {N : Nat} (hN : n = N) (h1 : 1 ≤ N) (h2 : N ≤ 4194304) : EffC TP 11 ⟨[.int .i64 n]⟩ [] (fun v L' => ∃ D, v = .tuple #[DP D, .int .i64 0] ∧ DRep D (DS.new N) L') := by
 subst hN
 intro W hm
 refine New_vc _ hm ?_
 refine no (by omega) (no (by omega) ⟨by omega, fun B => ⟨by omega, fun B1 B2 => ?_⟩⟩)
 rw [Int.toNat_natCast, bytesL_zero]
 refine DK.fin' [2, 0, 1] rfl ⟨B2, rfl, ⟨rfl, ?_, ?_, ?_, ?_⟩, B, B1, .inl ⟨rfl, ?_⟩⟩
 ·simp [DS.new]; omega
 ·simp [DS.new]; omega
 ·simp [DS.new]
 ·intro p hp; cases hp
 ·simp only [DS.new, List.length_replicate]; rfl
theorem openN_c : PureC TP 13 ⟨[.pointer none]⟩ (.tuple #[.pointer none, .int .i64 1]) := fun W => jOpenN_vc (Mem.start [] W) (finPure rfl)
theorem new_ok {n : Nat} (h1 : 64 ≤ n) (h2 : n ≤ 4194304) : DOk (DS.new n) :=
 ⟨by simp [DS.new], by simp [DS.new]; omega, by simp [DS.new]; omega, by simp [DS.new], fun p hp => by cases hp⟩
theorem openM_new' {n : Nat} (h1 : 64 ≤ n) (h2 : n ≤ 4194304) : ∃ d', openM (DS.new n) = (0, some ⟨1, [], (headL 1).length, n / 2, 0, false⟩, d') ∧ Clean (zs (n % 2)) ⟨1, [], (headL 1).length, n / 2, 0, false⟩ d' ∧ d'.cut = 0 ∧ d'.vis.length = n := by
 have hl : (DS.new n).vis.length = n := List.length_replicate
 have := openM_new (new_ok h1 h2) rfl rfl rfl rfl (by rw [hl]; rfl) (by rw [hl]; exact h1)
 rwa [hl] at this
def sgF : Fct := ⟨1, 0, 6, 5, ⟨#[]⟩, 0, 0, ⟨#[]⟩, ⟨#[]⟩, [], [], Lab.zero, 0, 0, 0, ⟨#[]⟩, ⟨#[]⟩, 0, 0, 0⟩
theorem sgF_ok : sgF.ok = true := by kernel_rfl
theorem sgF_enc : (encS (encF sgF)).length = 5 := by kernel_rfl
theorem sgR : redJ [sgF] = [redF sgF] := by kernel_rfl
theorem sgR_enc : (encS (encF (redF sgF))).length = 5 := by kernel_rfl
theorem sg_at : FAt lk sgF none 0 none 0 none 0 := noLists rfl rfl rfl ⟨e0_sz, e0_sz, e0_sz, e0_sz, e0_sz⟩
theorem sg_rec : (recL sgF).length ≤ 16 := by have := frm_len (encS (encF sgF)); rw [sgF_enc] at this; exact this
theorem sg_rec2 : (recL (redF sgF)).length ≤ 16 := by have := frm_len (encS (encF (redF sgF))); rw [sgR_enc] at this; exact this
theorem sane24_c {W : World} (hg : blkW W 0 = some tabV) : Calls TP 10 ⟨[]⟩ W (fun e W' => e = .returned (.bool true) ∧ Below W.heap.size W W') := by
 obtain ⟨d1, o1, c1, k1, n1⟩ := openM_new' (n := 200) (by decide) (by decide)
 have h21 := headL_len 1; have h22 := headL_len 2
 have hr1 := sg_rec; have hr2 := sg_rec2

 obtain ⟨m2, d2, a2, c2, k2, e2f, e2s, e2g⟩ : ∃ m2 d2, appendM ⟨1, [], (headL 1).length, 200 / 2, 0, false⟩ d1 sgF = (0, m2, d2) ∧ Clean (zs (200 % 2)) m2 d2 ∧ d2.cut = 0 ∧ m2.fs = [sgF] ∧ m2.sz = 100 ∧ m2.gen = 1 := by
  have ho := append_out c1 sgF
  generalize hr : appendM ⟨1, [], (headL 1).length, 200 / 2, 0, false⟩ d1 sgF = r at ho
  cases ho with
  | no e he =>
   rcases he with ⟨_, he | he⟩ | ⟨_, _, _, he⟩
   ·rw [sgF_ok] at he; cases he
   ·exact absurd rfl he
   ·simp only at he; omega
  | yes d' _ _ h hl hc => exact ⟨_, d', rfl, h, hc k1, rfl, rfl, rfl⟩
  | pow d' _ hc _ => exact absurd k1 hc

 have a3 : appendM m2 d2 sgF = (240, m2, d2) := by
  have ho := append_out c2 sgF
  generalize hr : appendM m2 d2 sgF = r at ho
  cases ho with
  | no e he =>
   rcases he with ⟨rfl, _⟩ | ⟨_, _, he, _⟩
   ·rfl
   ·rw [e2f] at he; exact absurd he (by decide)
  | yes d' _ he _ _ _ => rw [e2f] at he; exact absurd he (by decide)
  | pow d' _ hc _ => exact absurd k2 hc

 obtain ⟨m4, d4, a4, c4, k4, e4f, e4g⟩ : ∃ m4 d4, checkM m2 d2 = (0, m4, d4) ∧ Clean (zs (200 % 2)) m4 d4 ∧ d4.cut = 0 ∧ m4.fs = [redF sgF] ∧ m4.gen = 2 := by
  have ho := check_out c2
  generalize hr : checkM m2 d2 = r at ho
  cases ho with
  | no he =>
   rcases he with he | he
   ·omega
   ·rw [e2f, sgR, e2g, e2s] at he
    have : (cont (1 + 1) [redF sgF]).length = (headL 2).length + (recL (redF sgF)).length := by
     rw [cont, List.length_append]; simp
    omega
  | yes d' h hl hc => exact ⟨_, d', rfl, h, hc k2, by show redJ m2.fs = _; rw [e2f, sgR], by show m2.gen + 1 = 2; rw [e2g]; rfl⟩
  | pow d' hc _ => exact absurd k2 hc
 have fin : ∀ {F : SHeap}, Fin (fun e W' => e = .returned (.bool true) ∧ Below W.heap.size W W') F [] W (.bool true) := finPW rfl
 refine sane24_vc [] (Mem.start [] W) (CallH.effT [] (New_e (N := 200) rfl (by decide) (by decide)) ?_)
 rintro _ F1 ⟨D, rfl, hd⟩
 refine ⟨_, _, _, rfl, rfl, CallH.opn [] (T := []) (by simp) hd (by decide) hg ?_⟩
 rw [o1]
 rintro _ F2 X hd1 ⟨JB, rfl, hj1⟩
 refine ⟨_, _, _, rfl, rfl, fun B => ?_⟩
 refine CallH.app (f := sgF) (N := []) [_] (List.Perm.refl _) hj1 c1.mok (by rw [c1.pend]; decide) hg sg_at ?_
 rw [a2]
 intro F3 hj2
 refine ⟨_, _, rfl, rfl, ?_⟩
 refine CallH.app (f := sgF) (N := []) [_] (List.Perm.refl _) hj2 c2.mok (by rw [c2.pend]; decide) hg sg_at ?_
 rw [a3]
 intro F4 hj3
 refine ⟨_, _, rfl, rfl, ?_⟩
 refine CallH.chk (N := []) [_] (List.Perm.refl _) hj3 c2.mok (by rw [c2.pend]; decide) hg ?_
 rw [a4]
 intro F5 hj4
 refine ⟨_, _, rfl, rfl, CallH.facts [_] hj4 c4.mok fun p c N hN => ⟨_, _, _, _, rfl, rfl, ?_⟩⟩
 rw [e4f] at hN ⊢
 obtain ⟨F0, p', c', T0, q1, q2, q3⟩ := hj4
 refine CallH.opn [_] (pq9 (N := N) q1) q2 (by rw [c4.pend]; decide) hg ?_
 rw [openM_clean c4]
 rintro _ F6 X6 hd5 ⟨JB2, rfl, hj6⟩
 have hj4' := JD.re (JB := JB) (X := X6) (N := N) hd5 q3
 have hN' := hN.within (L := F6 ++ (X6 ++ (N ++ jH JB D (m4.js p' c') :: T0))) fun x hx => by simp [hx]
 generalize F6 ++ (X6 ++ (N ++ jH JB D (m4.js p' c') :: T0)) = F7 at *
 refine ⟨_, _, _, rfl, rfl, CallH.pure openN_c ⟨_, _, _, rfl, rfl, ?_⟩⟩
 obtain ⟨b, o, cs, rfl, z2, z3, tp, tc, bp, bc, ap, ac, z4, z5⟩ := hN'.get (i := 0) (by decide)
 refine yes rfl (yes rfl (yes rfl (yes rfl (yes rfl ⟨b, o, rfl, by decide, cs, 5, .inl ?_, ?_, yes rfl ?_⟩))))
 ·obtain ⟨t, fz, z⟩ := z2
  exact ⟨t, fz, List.mem_cons_of_mem _ z⟩
 ·have := (row_23 z4).2
  exact this
 refine CallH.gen [_] hj4' ⟨_, rfl, rfl, yes e4g (yes rfl ?_)⟩
 refine CallH.facts [_] hj6 c4.mok fun p c N2 hN2 => ⟨_, _, _, _, rfl, rfl, ?_⟩
 rw [e4f]
 exact yes rfl fin
theorem CallH.sane24 {L : SHeap} (hg : blkW w0 0 = some tabV) (hK : K (.bool true) L) : CallH TP 10 ⟨[]⟩ L [] w0 K :=
 CallH.ex (Q := fun v => v = .bool true) (fun W hm => (sane24_c (lkW_kept hm 0 tabV hg)).mono fun e W' ⟨h1, h2⟩ => ⟨_, h1, h2, rfl⟩) fun v hv => hv ▸ hK
set_option maxRecDepth 100000
abbrev law3H0 (B r81_l : Nat) (r71 : Fct) (r71tp : OA) (r71tc : Nat) (r71bp : OA) (r71bc : Nat) (r71ap : OA) (r71ac : Nat) (F4 : SHeap) : SHeap := ((B, .cells #[IV (IntKind.i64.wrap ((r81_l : Int) + (1 : Int))), IV r71.time, IV r71.kind, IV r71.story, .string r71.lang, IV r71.rev, IV r71.base, .string r71.title, .string r71.author, .slice r71tp r71.topics.length r71tc, .slice r71bp r71.blocks.length r71bc, IV r71.lab.unt, .slice r71ap r71.lab.after.length r71ac, IV r71.lab.appr, IV r71.lab.den, IV r71.editor, IV r71.block, IV r71.sentence, .string r71.text, .string r71.name, IV r71.partner, IV r71.cls, IV r71.unt] 38) :: F4)
abbrev law3A0 (r81_l : Nat) (r71 : Fct) (r71tp : OA) (r71tc : Nat) (r71bp : OA) (r71bc : Nat) (r71ap : OA) (r71ac : Nat) : Array Value := #[IV (IntKind.i64.wrap ((r81_l : Int) + (1 : Int))), IV r71.time, IV r71.kind, IV r71.story, .string r71.lang, IV r71.rev, IV r71.base, .string r71.title, .string r71.author, .slice r71tp r71.topics.length r71tc, .slice r71bp r71.blocks.length r71bc, IV r71.lab.unt, .slice r71ap r71.lab.after.length r71ac, IV r71.lab.appr, IV r71.lab.den, IV r71.editor, IV r71.block, IV r71.sentence, .string r71.text, .string r71.name, IV r71.partner, IV r71.cls, IV r71.unt]
abbrev law3A1 (r71 : Fct) (r71tp : OA) (r71tc : Nat) (r71bp : OA) (r71bc : Nat) (r71ap : OA) (r71ac : Nat) : Array Value := ⟨r71.cells r71tp r71tc r71bp r71bc r71ap r71ac⟩
abbrev law3A2 (m1 : Fct) (m1tp : OA) (m1tc : Nat) (m1bp : OA) (m1bc : Nat) (m1ap : OA) (m1ac : Nat) : Array Value := ⟨m1.cells m1tp m1tc m1bp m1bc m1ap m1ac⟩
def law3_c0 (n : Int) (l_p : OA) (l_l l_c : Nat) (up : Bool) (d j : OA) (ev i : Int) (F3 : SHeap) (w0 : World) (R : Ending → World → Prop) : Prop :=
 AtE TP 6 111 (KC Tryz.f6 500) [(0, IV n), (1, .slice l_p l_l l_c), (5, .bool up), (6, .pointer d), (8, .pointer j), (9, IV ev), (10, IV i)] (F3) [] w0 (nrm R)
def law3_c1 (n : Int) (l_p : OA) (l_l l_c : Nat) (up1 : Bool) (d1 j1 : OA) (ev1 : Int) (F7 : SHeap) (w0 : World) (R : Ending → World → Prop) : Prop :=
 AtE TP 6 111 (KC Tryz.f6 126) [(0, IV n), (5, .bool up1), (6, .pointer d1), (8, .pointer j1), (9, IV ev1)] (F7) [] w0 (nrm R)
theorem law3_c0_vc (n : Int) (l_p : OA) (l_l l_c : Nat) (up : Bool) (d j : OA) (ev i : Int) (F3 : SHeap)
 (H :
 Br (i < (l_l : Int))
 (Br (i < 30)
 (Br (ev = 0)
 (∃ l_pb l_po : Nat, l_p = some ⟨l_pb, l_po, none⟩ ∧ (0 ≤ i ∧ i < l_l) ∧
 ∃ (cw : List Value) (m1 : Fct) (m1tp : OA) (m1tc : Nat) (m1bp : OA) (m1bc : Nat) (m1ap : OA) (m1ac : Nat), held (F3) w0 l_pb cw ∧ ((cw.drop ((l_po + ((Int.toNat i) * 26)) + 1)).take 23 = (m1.cells m1tp m1tc m1bp m1bc m1ap m1ac) ∧ ((l_po + ((Int.toNat i) * 26)) + 1) + 23 ≤ cw.length) ∧
 CallH TP 14 ⟨[.agg (law3A2 m1 m1tp m1tc m1bp m1bc m1ap m1ac)]⟩ (F3) [] w0 (fun v L' => ∃ (r71 : Fct) (r71tp : OA) (r71tc : Nat) (r71bp : OA) (r71bc : Nat) (r71ap : OA) (r71ac : Nat), v = (.agg (law3A1 r71 r71tp r71tc r71bp r71bc r71ap r71ac)) ∧ L' = F3 ∧
 ∀ B : Nat,
 CallH TP 15 ⟨[.pointer j]⟩ ((B, .cells (law3A1 r71 r71tp r71tc r71bp r71bc r71ap r71ac) 38) :: F3) [] w0 (fun v L' => ∃ (r81_p : OA) (r81_l : Nat) (r81_c : Nat), ∃ F4, v = (.slice r81_p r81_l r81_c) ∧ L' = ((B, .cells (law3A1 r71 r71tp r71tc r71bp r71bc r71ap r71ac) 38) :: F4) ∧
 ∃ l_pb1 l_po1 : Nat, l_p = some ⟨l_pb1, l_po1, none⟩ ∧ (0 ≤ i ∧ i < l_l) ∧
 ∃ (cw1 : List Value) (m21 : Int), held (law3H0 B r81_l r71 r71tp r71tc r71bp r71bc r71ap r71ac F4) w0 l_pb1 cw1 ∧ cw1[(l_po1 + ((Int.toNat i) * 26))]? = some (IV m21) ∧
 CallH TP 17 ⟨[IV m21, IV 5]⟩ (law3H0 B r81_l r71 r71tp r71tc r71bp r71bc r71ap r71ac F4) [] w0 (fun v L' => ∃ r91, v = IV r91 ∧ L' = (law3H0 B r81_l r71 r71tp r71tc r71bp r71bc r71ap r71ac F4) ∧
 Br (r91 = 4)
 (CallH TP 25 ⟨[.pointer j]⟩ (law3H0 B r81_l r71 r71tp r71tc r71bp r71bc r71ap r71ac F4) [] w0 (fun v L' => ∃ r101 F5, v = IV r101 ∧ L' = ((B, .cells (law3A0 r81_l r71 r71tp r71tc r71bp r71bc r71ap r71ac) 38) :: F5) ∧
 ∀ i1 : Int, i1 = (IntKind.i64.wrap (i + (1 : Int))) →
 law3_c0 n l_p l_l l_c up d j ev i1 F5 w0 R))
 (CallH TP 16 ⟨[.pointer j, .agg (law3A0 r81_l r71 r71tp r71tc r71bp r71bc r71ap r71ac)]⟩ (law3H0 B r81_l r71 r71tp r71tc r71bp r71bc r71ap r71ac F4) [] w0 (fun v L' => ∃ r111 F6, v = IV r111 ∧ L' = ((B, .cells (law3A0 r81_l r71 r71tp r71tc r71bp r71bc r71ap r71ac) 38) :: F6) ∧
 ∀ i2 : Int, i2 = (IntKind.i64.wrap (i + (1 : Int))) →
 law3_c0 n l_p l_l l_c up d j ev i2 F6 w0 R))))))
 (law3_c1 n l_p l_l l_c up d j ev F3 w0 R))
 (law3_c1 n l_p l_l l_c up d j ev F3 w0 R))
 (law3_c1 n l_p l_l l_c up d j ev F3 w0 R)) :
 law3_c0 n l_p l_l l_c up d j ev i F3 w0 R:= by
 unfold law3_c0
 refine .ru 8 (.sP 31 H (fun H => ?_) fun H => ?_)
 ·refine .ru 4 (.sP 35 H (fun H => ?_) fun H => ?_)
  ·refine .ru 4 (.sP 38 H (fun H => ?_) fun H => ?_)
   ·refine .ru 8 ?_
    obtain ⟨l_pb, l_po, hp, H⟩ := H
    refine .indexAddrP (E := 57) (p := l_p) (b := l_pb) (o := l_po) (len := l_l) (cap := l_c) (sz := 26) (o' := (l_po + ((Int.toNat i) * 26))) (kd := .i64) (i := i) hp (by kernel_rfl) H.1 (by omega) ?_
    replace H := H.2
    refine .ru 1 ?_
    obtain ⟨cw, m1, m1tp, m1tc, m1bp, m1bc, m1ap, m1ac, hw, hx, H⟩ := H
    refine .loadM (b := l_pb) (off := ((l_po + ((Int.toNat i) * 26)) + 1)) (T := 38) (v := .agg (law3A2 m1 m1tp m1tc m1bp m1bc m1ap m1ac)) (by kernel_rfl) List.not_mem_nil hw (valAt_agg hx.1 hx.2 (by kernel_rfl) (by kernel_rfl)) (.cl H ?_)
    rintro _ F3 ⟨r71, r71tp, r71tc, r71bp, r71bc, r71ap, r71ac, rfl, rfl, H⟩
    refine .nH (.cells #[IV 0, IV 0, IV 0, IV 0, .string (⟨#[]⟩), IV 0, IV 0, .string (⟨#[]⟩), .string (⟨#[]⟩), .slice none 0 0, .slice none 0 0, IV 0, .slice none 0 0, IV 0, IV 0, IV 0, IV 0, IV 0, .string (⟨#[]⟩), .string (⟨#[]⟩), IV 0, IV 0, IV 0] 38) H fun B H => (.front (.store 0 0 (T := 38) (v := .agg (law3A1 r71 r71tp r71tc r71bp r71bc r71ap r71ac)) (by kernel_rfl) (.ru 4 (.cl H ?_))))
    rintro _ _ ⟨r81_p, r81_l, r81_c, F4, rfl, rfl, H⟩
    refine .ru 3 (.store 0 0 (T := 3) (v := IV (IntKind.i64.wrap ((r81_l : Int) + (1 : Int)))) (by kernel_rfl) (.ru 5 ?_))
    obtain ⟨l_pb1, l_po1, hp, H⟩ := H
    refine .indexAddrP (E := 57) (p := l_p) (b := l_pb1) (o := l_po1) (len := l_l) (cap := l_c) (sz := 26) (o' := (l_po1 + ((Int.toNat i) * 26))) (kd := .i64) (i := i) hp (by kernel_rfl) H.1 (by omega) ?_
    replace H := H.2
    refine .ru 1 ?_
    obtain ⟨cw1, m21, hw, hx, H⟩ := H
    refine .loadM (b := l_pb1) (off := (l_po1 + ((Int.toNat i) * 26))) (T := 3) (v := IV m21) (by kernel_rfl) List.not_mem_nil hw (valAt_one hx (by kernel_rfl)) (.cl H ?_)
    rintro _ _ ⟨r91, rfl, rfl, H⟩
    refine .ru 2 (.sP 58 H (fun H => ?_) fun H => ?_)
    ·refine .ru 3 (.cl H ?_)
     rintro _ _ ⟨r101, F5, rfl, rfl, H⟩
     refine .ru 6 (.lI 10 H fun i1 H => (.ru 2 (.tT [] 1 H)))
    ·refine .ru 3 (.ld 0 0 (.cl H ?_))
     rintro _ _ ⟨r111, F6, rfl, rfl, H⟩
     refine .ru 6 (.lI 10 H fun i2 H => (.ru 2 (.tT [] 1 H)))
   ·refine .ru 3 (.tT [] 0 H)
  ·refine .ru 7 (.tT [] 0 H)
 ·refine .ru 11 (.tT [] 0 H)
theorem law3_c1_vc (n : Int) (l_p : OA) (l_l l_c : Nat) (up1 : Bool) (d1 j1 : OA) (ev1 : Int) (F7 : SHeap)
 (H :
 Bn (ev1 = 0)
 (Fin R (F7) [] w0 (.bool false))
 (CallH TP 29 ⟨[.pointer d1, IV 1]⟩ (F7) [] w0 (fun v L' => ∃ r121 F8, v = IV r121 ∧ L' = F8 ∧
 CallH TP 13 ⟨[.pointer d1]⟩ (F8) [] w0 (fun v L' => ∃ (r131 : OA), ∃ r141 F9, v = (.tuple #[.pointer r131, IV r141]) ∧ L' = F9 ∧
 Bn (r141 = 0)
 (Fin R (F9) [] w0 (.bool false))
 (CallH TP 15 ⟨[.pointer r131]⟩ (F9) [] w0 (fun v L' => ∃ (r151_p : OA) (r151_l : Nat) (r151_c : Nat), ∃ F10, v = (.slice r151_p r151_l r151_c) ∧ L' = F10 ∧
 CallH TP 15 ⟨[.pointer j1]⟩ (F10) [] w0 (fun v L' => ∃ (r161_p : OA) (r161_l : Nat) (r161_c : Nat), ∃ F11, v = (.slice r161_p r161_l r161_c) ∧ L' = F11 ∧
 CallH TP 30 ⟨[.slice r151_p r151_l r151_c, .slice r161_p r161_l r161_c]⟩ (F11) [] w0 (fun v L' => ∃ r171, v = .bool r171 ∧ L' = F11 ∧
 Bb (up1)
 (Bb (r171)
 (CallH TP 23 ⟨[.pointer r131]⟩ (F11) [] w0 (fun v L' => ∃ r181, v = IV r181 ∧ L' = F11 ∧
 CallH TP 23 ⟨[.pointer j1]⟩ (F11) [] w0 (fun v L' => ∃ r191, v = IV r191 ∧ L' = F11 ∧
 Br (r181 = r191)
 (CallH TP 26 ⟨[.pointer r131]⟩ (F11) [] w0 (fun v L' => ∃ r201, v = IV r201 ∧ L' = F11 ∧
 CallH TP 26 ⟨[.pointer j1]⟩ (F11) [] w0 (fun v L' => ∃ r221, v = IV r221 ∧ L' = F11 ∧
 Br (r201 = r221)
 (CallH TP 28 ⟨[.pointer d1]⟩ (F11) [] w0 (fun v L' => ∃ r231 F12, v = IV r231 ∧ L' = F12 ∧
 Br (r231 = 0)
 (CallH TP 21 ⟨[.pointer d1]⟩ (F12) [] w0 (fun v L' => ∃ r241 F13, v = .string r241 ∧ L' = F13 ∧
 CallH TP 12 ⟨[IV n]⟩ (F13) [] w0 (fun v L' => ∃ r251, v = IV r251 ∧ L' = F13 ∧
 Fin R (F13) [] w0 (.bool (decide ((r241.size : Int) = r251))))))
 (Fin R (F12) [] w0 (.bool false))))
 (Fin R (F11) [] w0 (.bool false)))))
 (Fin R (F11) [] w0 (.bool false)))))
 (Fin R (F11) [] w0 (.bool false)))
 (Fin R (F11) [] w0 (.bool false)))))))))) :
 law3_c1 n l_p l_l l_c up1 d1 j1 ev1 F7 w0 R:= by
 unfold law3_c1
 refine .ru 5 (.sN 65 H (fun H => ?_) fun H => ?_)
 ·refine .ru 5 (.rt Tryz.func6 H)
 ·refine .ru 5 (.cl H ?_)
  rintro _ F8 ⟨r121, _, rfl, rfl, H⟩
  refine .ru 4 (.cl H ?_)
  rintro _ F9 ⟨r131, r141, _, rfl, rfl, H⟩
  refine .ru 12 (.sN 74 H (fun H => ?_) fun H => ?_)
  ·refine .ru 5 (.rt Tryz.func6 H)
  ·refine .ru 5 (.cl H ?_)
   rintro _ F10 ⟨r151_p, r151_l, r151_c, _, rfl, rfl, H⟩
   refine .ru 1 (.cl H ?_)
   rintro _ F11 ⟨r161_p, r161_l, r161_c, _, rfl, rfl, H⟩
   refine .cl H ?_
   rintro _ F11 ⟨r171, rfl, rfl, H⟩
   refine .ru 6 (.sB 81 H (fun H => ?_) fun H => ?_)
   ·refine .ru 3 (.sB 84 H (fun H => ?_) fun H => ?_)
    ·refine .ru 1 (.cl H ?_)
     rintro _ F11 ⟨r181, rfl, rfl, H⟩
     refine .ru 1 (.cl H ?_)
     rintro _ F11 ⟨r191, rfl, rfl, H⟩
     refine .ru 3 (.sP 91 H (fun H => ?_) fun H => ?_)
     ·refine .ru 1 (.cl H ?_)
      rintro _ F11 ⟨r201, rfl, rfl, H⟩
      refine .ru 1 (.cl H ?_)
      rintro _ F11 ⟨r221, rfl, rfl, H⟩
      refine .ru 3 (.sP 98 H (fun H => ?_) fun H => ?_)
      ·refine .ru 1 (.cl H ?_)
       rintro _ F12 ⟨r231, _, rfl, rfl, H⟩
       refine .ru 3 (.sP 103 H (fun H => ?_) fun H => ?_)
       ·refine .ru 1 (.cl H ?_)
        rintro _ F13 ⟨r241, _, rfl, rfl, H⟩
        refine .ru 2 (.cl H ?_)
        rintro _ F13 ⟨r251, rfl, rfl, H⟩
        refine .ru 4 (.rt Tryz.func6 H)
       ·refine .ru 9 (.rt Tryz.func6 H)
      ·refine .ru 14 (.rt Tryz.func6 H)
     ·refine .ru 21 (.rt Tryz.func6 H)
    ·refine .ru 28 (.rt Tryz.func6 H)
   ·refine .ru 31 (.rt Tryz.func6 H)
theorem law3_vc (n : Int) (l_p : OA) (l_l l_c : Nat) (F : SHeap) (hm : Mem (F) [] w0 W)
 (H :
 CallH TP 10 ⟨[]⟩ (F) [] w0 (fun v L' => ∃ r1, v = .bool r1 ∧ L' = F ∧
 CallH TP 12 ⟨[IV n]⟩ (F) [] w0 (fun v L' => ∃ r21, v = IV r21 ∧ L' = F ∧
 CallH TP 11 ⟨[IV r21]⟩ (F) [] w0 (fun v L' => ∃ (r31 : OA), ∃ r41 F1, v = (.tuple #[.pointer r31, IV r41]) ∧ L' = F1 ∧
 CallH TP 13 ⟨[.pointer r31]⟩ (F1) [] w0 (fun v L' => ∃ (r51 : OA), ∃ r61 F2, v = (.tuple #[.pointer r51, IV r61]) ∧ L' = F2 ∧
 law3_c0 n l_p l_l l_c r1 r31 r51 r61 (0 : Int) F2 w0 R))))) :
 Calls TP 6 ⟨[IV n, .slice l_p l_l l_c]⟩ W R:= by
 refine AtE.cs 111 Tryz.func6 hm (.ru 6 (.cl H ?_))
 rintro _ F ⟨r1, rfl, rfl, H⟩
 refine .ru 5 (.cl H ?_)
 rintro _ F ⟨r21, rfl, rfl, H⟩
 refine .cl H ?_
 rintro _ F1 ⟨r31, r41, _, rfl, rfl, H⟩
 refine .ru 9 (.cl H ?_)
 rintro _ F2 ⟨r51, r61, _, rfl, rfl, H⟩
 refine .ru 13 (.tT [] 0 H)
abbrev RT (w0 : World) : Ending → World → Prop := fun e W' => e = .returned (.bool true) ∧ Below w0.heap.size w0 W'
theorem numF_at {f : Fct} (h : FAt lk f tp tc bp bc ap ac) (n : Int) : FAt lk { f with n := n } tp tc bp bc ap ac := ⟨h.tops, h.blks, h.ints, h.ct, h.cb, h.ca, h.fits⟩
theorem cut_on {d : DS} (hon : d.on = true) {n : Int} (hn : 1 ≤ n) : d.cutAt n = (0, { d with cut := n.toNat }) := by
 rw [DS.cutAt, if_neg (by rw [hon]; decide), if_neg (by omega), if_neg (by omega)]
theorem Clean.cut {R : List UInt8} {m : JM} {d : DS} (h : Clean R m d) {n : Nat} (hn : n ≤ 9223372036854775807) : Clean R m { d with cut := n } :=
 ⟨⟨h.ok.len, h.ok.pos, h.ok.le, hn, h.ok.pend⟩, h.on, h.pend, h.dur, h.vis, h.rest, h.big, h.en, h.fit, h.cu, h.gn, h.br⟩
theorem vis_size (d : DS) : (⟨d.vis.toArray⟩ : BA).size = d.vis.length := by show d.vis.toArray.size = _; simp
theorem l3_end {n : Int} {lp : OA} {ll lc JB D : Nat} {R : List UInt8} {m : JM} {d : DS} {F : SHeap} (hn : i64 n) (hg : blkW w0 0 = some tabV) (hj : JD JB D m d F) (hc : Clean R m d) (hl : d.vis.length = sizeN n) :
  law3_c1 n lp ll lc true (SO D) (SO JB) 0 F w0 (RT w0) := by
 apply law3_c1_vc
 obtain ⟨F0, p, c, T, q1, q2, q3⟩ := hj
 refine ⟨fun h => absurd rfl h, fun _ => CallH.dsk [] (q1.trans pq3) (Cut_e q2 (n := 1) (by decide)) ?_⟩
 rw [cut_on hc.on (by decide)]
 intro F1 hd1
 replace hd1 : DRep D { d with cut := 1 } F1 := hd1
 have hc1 := hc.cut (n := 1) (by decide)
 refine ⟨_, _, rfl, rfl, CallH.opn [] (List.Perm.refl _) hd1 (by show d.pend.length < _; rw [hc.pend]; decide) hg ?_⟩
 rw [show openM { d with cut := 1 } = (0, some m, { d with cut := 1 }) from openM_clean hc1]
 rintro _ F2 X hd2 ⟨JB2, rfl, hj2⟩
 have hj1 : JD JB D m { d with cut := 1 } (F2 ++ (X ++ jH JB D (m.js p c) :: T)) := JD.re (N := []) hd2 q3
 show ∃ _ _ _, _
 generalize F2 ++ (X ++ jH JB D (m.js p c) :: T) = G at *
 refine ⟨_, _, _, rfl, rfl, fun h => absurd rfl h, fun _ => CallH.facts [] hj2 hc.mok fun p1 c1 N1 hN1 => ⟨_, _, _, _, rfl, rfl, ?_⟩⟩
 refine CallH.facts [] (hj1.more N1) hc.mok fun p2 c2 N2 hN2 => ⟨_, _, _, _, rfl, rfl, ?_⟩
 have k1 := hN1.within (L := N2 ++ (N1 ++ G)) fun x hx => by simp [hx]
 have k2 := hN2.within (L := N2 ++ (N1 ++ G)) fun x hx => by simp [hx]
 have hj1' := (hj1.more N1).more N2
 have hj2' := (hj2.more N1).more N2
 have hm := hc.mok
 have hlen := hm.len
 refine CallH.same (F := N2 ++ (N1 ++ G)) k1 k2 (by omega) ⟨_, rfl, rfl, tt rfl (tt (decide_eq_true rfl) ?_)⟩
 refine CallH.room [] hj2' hm ⟨_, rfl, rfl, CallH.room [] hj1' hm ⟨_, rfl, rfl, yes rfl ?_⟩⟩
 refine CallH.gen [] hj2' ⟨_, rfl, rfl, CallH.gen [] hj1' ⟨_, rfl, rfl, yes rfl ?_⟩⟩
 obtain ⟨F3, T3, r1, r2⟩ := hj1'.dm
 refine CallH.dsk [] r1 (Pending_e r2) fun F4 hd4 => ⟨_, _, rfl, rfl, yes (by show ((d.pend.length : Nat) : Int) = 0; rw [hc.pend]; rfl) ?_⟩
 refine CallH.dsk [] (List.Perm.refl _) (content_e hd4 hc.on) fun F5 hd5 => ⟨_, _, rfl, rfl, CallH.pure (size24_c n hn) ⟨_, rfl, rfl, finPW ?_⟩⟩
 rw [vis_size]
 show Value.bool (decide ((d.vis.length : Int) = _)) = _
 rw [hl, decide_eq_true rfl]
theorem l3_loop {w0 : World} {n : Int} {lp : OA} {lc JB D : Nat} {R : List UInt8} {l : List JDeed} (hn : i64 n) (hg : blkW w0 0 = some tabV) (ha : SlAt (lkW w0) 26 (DeedL (lkW w0)) lp l) :
  ∀ (g i : Nat) (m : JM) (d : DS) (F : SHeap), g + i = 30 → JD JB D m d F → Clean R m d → d.cut = 0 → d.vis.length = sizeN n →
   law3_c0 n lp l.length lc true (SO D) (SO JB) 0 (i : Int) F w0 (RT w0)
 | 0, i, m, d, F, hgi, hj, hc, h0, hl => by
  apply law3_c0_vc
  exact ⟨fun _ => no (by omega) (l3_end hn hg hj hc hl), fun _ => l3_end hn hg hj hc hl⟩
 | g + 1, i, m, d, F, hgi, hj, hc, h0, hl => by
  apply law3_c0_vc
  refine ⟨fun hi => yes (by omega) (yes rfl ?_), fun _ => l3_end hn hg hj hc hl⟩
  have hi : i < l.length := by omega
  have hm := hc.mok
  have hlen := hm.len
  have hw : IntKind.i64.wrap ((i : Int) + 1) = ((i + 1 : Nat) : Int) := by rw [wi64 (by omega)]; omega
  obtain ⟨b, o, cs, tp, tc, bp, bc, ap, ac, rfl, k2, k3, k4, k5, k6⟩ := deed_get ha hi
  refine ⟨b, o, rfl, by omega, cs, l[i].f, tp, tc, bp, bc, ap, ac, .inr k2, k3, CallH.pure (few24_c k5.cb) ⟨cutF l[i].f, tp, tc, bp, bc, ap, ac, rfl, rfl, ?_⟩⟩
  have hz := cutF_at k5.at
  generalize cutF l[i].f = z at hz ⊢
  intro B
  refine CallH.facts [_] hj hm fun p c N hN => ⟨_, _, _, _, rfl, rfl, b, o, rfl, by omega, cs, l[i].call, .inr k2, k4, ?_⟩
  refine CallH.pure (pick24_c l[i].call 5 k6 (by decide)) ⟨_, rfl, rfl, fun _ => ?_, fun _ => ?_⟩
  ·refine CallH.chk (N := N) [_] (List.Perm.refl _) hj hm (by rw [hc.pend]; decide) hg fun F' hj' => ⟨_, _, rfl, rfl, ?_⟩
   rintro _ rfl
   rw [hw]
   have ho := check_out hc
   generalize checkM m d = r at ho hj'
   cases ho with
   | no he => exact l3_loop hn hg ha g (i + 1) m d _ (by omega) (hj'.more N) hc h0 hl
   | yes d' h hl' hc' => exact l3_loop hn hg ha g (i + 1) _ d' _ (by omega) (hj'.more N) h (hc' h0) (hl'.trans hl)
   | pow d' hc' _ => exact absurd h0 hc'
  ·refine CallH.appA (f := { z with n := IntKind.i64.wrap ((m.fs.length : Int) + (1 : Int)) }) (N := N) [_] rfl (List.Perm.refl _) hj hm (by rw [hc.pend]; decide) hg (numF_at hz _) fun F' hj' => ⟨_, _, rfl, rfl, ?_⟩
   rintro _ rfl
   rw [hw]
   have ho := append_out hc { z with n := IntKind.i64.wrap ((m.fs.length : Int) + (1 : Int)) }
   generalize appendM m d _ = r at ho hj'
   cases ho with
   | no e he => exact l3_loop hn hg ha g (i + 1) m d _ (by omega) (hj'.more N) hc h0 hl
   | yes d' _ _ h hl' hc' => exact l3_loop hn hg ha g (i + 1) _ d' _ (by omega) (hj'.more N) h (hc' h0) (hl'.trans hl)
   | pow d' _ hc' _ => exact absurd h0 hc'
theorem sizeN_bounds (n : Int) : 64 ≤ sizeN n ∧ sizeN n ≤ 4194304 := by
 have := Nat.mod_lt (pickN n) (show 1500 > 0 by decide)
 unfold sizeN; omega
theorem jrn3 {n : Int} {lp : OA} {lc : Nat} {l : List JDeed} (hn : i64 n) (hg : blkW W 0 = some tabV) (ha : SlAt (lkW W) 26 (DeedL (lkW W)) lp l) :
  PW TP 6 ⟨[.int .i64 n, .slice lp l.length lc]⟩ W (.bool true) := by
 obtain ⟨b1, b2⟩ := sizeN_bounds n
 refine law3_vc n lp l.length lc [] (Mem.start [] W) (CallH.sane24 hg ⟨_, rfl, rfl, CallH.pure (size24_c n hn) ⟨_, rfl, rfl, CallH.effT [] (New_e (N := sizeN n) rfl (by omega) b2) ?_⟩⟩)
 rintro _ F1 ⟨D, rfl, hd⟩
 obtain ⟨d1, o1, c1, k1, n1⟩ := openM_new' b1 b2
 refine ⟨_, _, _, rfl, rfl, CallH.opn [] (T := []) (by simp) hd (by show 0 < 900000; decide) hg ?_⟩
 rw [o1]
 rintro _ F2 X hd1 ⟨JB, rfl, hj1⟩
 exact ⟨_, _, _, rfl, rfl, l3_loop hn hg ha 30 0 _ _ _ rfl hj1 c1 k1 n1⟩
end Go.Eng
