/- A part of the proof: the engine by which functions are walked, verification conditions that a program of the prover wrote, contracts and plain laws; no claim of its own. -/
import Derived.Test.YtfobdgoklnhebaaGreatDoorChecked
import Derived.Test.YtfobdgoklnhebaaGreatDoorReoD
set_option linter.unusedVariables false
set_option linter.unusedSimpArgs false
namespace Go.Eng
open Go Go.RowKit Go.Proofs Wire
variable {P : Program} {R : Ending → World → Prop} {S : List Nat} {w0 W : World} {lk : Lk} {tp bp ap : OA} {tc bc ac : Nat} {K K' : Value → SHeap → Prop} {args : Array Value} {g : FuncId}
def lkU (M : SHeap) (lk : Lk) : Lk := fun b c => lkF M b c ∨ lk b c
def StepK (B FB : Nat) (tx : BA) (f : Fct) (tp : OA) (tc : Nat) (bp : OA) (bc : Nat) (ap : OA) (ac : Nat) (x : Fld) (a : Nat) (v : Value) (L' : SHeap) : Prop :=
 (rdV (bts tx) x.ty (a, 0)).2.2 = 0 ∧ v = .tuple #[] ∧ ∃ tp' tc' bp' bc' ap' ac' M, L' = rK B tx (rdV (bts tx) x.ty (a, 0)).2.1 :: fH FB ((f.set x (rdV (bts tx) x.ty (a, 0)).1).cells tp' tc' bp' bc' ap' ac') :: M ∧
  ∀ lk, FAt lk f tp tc bp bc ap ac → FAt (lkU M lk) (f.set x (rdV (bts tx) x.ty (a, 0)).1) tp' tc' bp' bc' ap' ac'
theorem rd_int {s : List UInt8} {st : RS} {f : Fct} {x : Fld} (h : x.ty = .int) : (rdV s x.ty st).2 = (rdI s st).2 ∧
  (∀ tp tc bp bc ap ac, (f.cells tp tc bp bc ap ac).set x.off (.int .i64 (rdI s st).1) = (f.set x (rdV s x.ty st).1).cells tp tc bp bc ap ac) ∧ x.off < 23 ∧
  ∀ lk tp tc bp bc ap ac, FAt lk f tp tc bp bc ap ac → FAt lk (f.set x (rdV s x.ty st).1) tp tc bp bc ap ac := by
 cases x <;> first | exact absurd h (by decide) | exact ⟨rfl, fun _ _ _ _ _ _ => rfl, by decide, fun _ _ _ _ _ _ _ h => ⟨h.tops, h.blks, h.ints, h.ct, h.cb, h.ca, h.fits⟩⟩
theorem rd_str {s : List UInt8} {st : RS} {f : Fct} {x : Fld} (hz : (rdT s st).1.size ≤ 9223372036854775807) (h : x.ty = .str) : (rdV s x.ty st).2 = (rdT s st).2 ∧
  (∀ tp tc bp bc ap ac, (f.cells tp tc bp bc ap ac).set x.off (.string (rdT s st).1) = (f.set x (rdV s x.ty st).1).cells tp tc bp bc ap ac) ∧ x.off < 23 ∧
  ∀ lk tp tc bp bc ap ac, FAt lk f tp tc bp bc ap ac → FAt lk (f.set x (rdV s x.ty st).1) tp tc bp bc ap ac := by
 cases x
 case lang => exact ⟨rfl, fun _ _ _ _ _ _ => rfl, by decide, fun _ _ _ _ _ _ _ h => ⟨h.tops, h.blks, h.ints, h.ct, h.cb, h.ca, ⟨hz, h.fits.1.2⟩, h.fits.2⟩⟩
 case title => exact ⟨rfl, fun _ _ _ _ _ _ => rfl, by decide, fun _ _ _ _ _ _ _ h => ⟨h.tops, h.blks, h.ints, h.ct, h.cb, h.ca, ⟨h.fits.1.1, hz, h.fits.1.2.2⟩, h.fits.2⟩⟩
 case author => exact ⟨rfl, fun _ _ _ _ _ _ => rfl, by decide, fun _ _ _ _ _ _ _ h => ⟨h.tops, h.blks, h.ints, h.ct, h.cb, h.ca, ⟨h.fits.1.1, h.fits.1.2.1, hz, h.fits.1.2.2.2⟩, h.fits.2⟩⟩
 case text => exact ⟨rfl, fun _ _ _ _ _ _ => rfl, by decide, fun _ _ _ _ _ _ _ h => ⟨h.tops, h.blks, h.ints, h.ct, h.cb, h.ca, ⟨h.fits.1.1, h.fits.1.2.1, h.fits.1.2.2.1, hz, h.fits.1.2.2.2.2⟩, h.fits.2⟩⟩
 case name => exact ⟨rfl, fun _ _ _ _ _ _ => rfl, by decide, fun _ _ _ _ _ _ _ h => ⟨h.tops, h.blks, h.ints, h.ct, h.cb, h.ca, ⟨h.fits.1.1, h.fits.1.2.1, h.fits.1.2.2.1, h.fits.1.2.2.2.1, hz⟩, h.fits.2⟩⟩
 all_goals exact absurd h (by decide)
theorem rdMany_sizes {s : List UInt8} : ∀ (n : Nat) (st : RS), st.1 ≤ s.length → ∀ t ∈ (rdMany (rdT s) n st).1, t.size ≤ 65536
 | 0, st, _, t, ht => by simp [rdMany] at ht
 | n + 1, st, h, t, ht => by
  unfold rdMany at ht
  split at ht
  ·rcases List.mem_cons.1 ht with rfl | ht
   ·exact (rdT_le h).2
   ·exact rdMany_sizes n _ (rdT_le h).1 t ht
  ·simp at ht
theorem cells_len {f : Fct} : (f.cells tp tc bp bc ap ac).length = 23 := rfl
theorem lkU_r {M : SHeap} : ∀ b c, lk b c → lkU M lk b c := fun _ _ h => .inr h
theorem lkU_l {M : SHeap} : ∀ b c, lkF M b c → lkU M lk b c := fun _ _ h => .inl h
theorem strs_at {Bn : Nat} {l : List BA} (h : lk Bn (l.map .string)) : StrsL lk (SO Bn) l :=
 fun _ => ⟨Bn, 0, _, rfl, h, fun i hi => by rw [Nat.zero_add, List.getElem?_map, List.getElem?_eq_getElem hi]; rfl⟩
theorem ints_at {Bn : Nat} {l : List Int} (h : lk Bn (l.map (.int .i64))) : IntsL lk (SO Bn) l :=
 fun _ => ⟨Bn, 0, _, rfl, h, fun i hi => by rw [Nat.zero_add, List.getElem?_map, List.getElem?_eq_getElem hi]; rfl⟩
theorem rClo {X : SHeap} {B FB : Nat} {x : Fld} {v : Value} (h : CloAt X B FB x v) {tx : BA} (hs : tx.size < 4611686018427387904) : ∃ g caps, v = .func (.func g) ⟨[]⟩ ⟨caps⟩ ∧ FnReady TP g ∧
  ∀ {a : Nat} {f : Fct} {tp bp ap : OA} {tc bc ac : Nat}, a ≤ (bts tx).length → EffP TP g ⟨caps⟩ [rK B tx a, fH FB (f.cells tp tc bp bc ap ac)] (fun W => XPre [B, FB] X W) (StepK B FB tx f tp tc bp bc ap ac x a) (BadK B FB tx (rdV (bts tx) x.ty (a, 0)).2.2) := by
 obtain ⟨kc, kn, h1, ⟨hx, rfl, h2⟩ | ⟨hx, rfl, h2⟩ | ⟨rfl, rfl, h2⟩ | ⟨rfl, rfl, h2⟩ | ⟨rfl, rfl, h2⟩⟩ := h
 ·refine ⟨_, _, rfl, ⟨_, Tryz.func130, by kernel_rfl, by kernel_rfl⟩, ?_⟩
  intro a f tp bp ap tc bc ac ha W hm hX
  obtain ⟨e1, e2, e3, e4⟩ := rd_int (s := bts tx) (st := (a, 0)) (f := f) hx
  have q1 := hX _ _ _ _ h1; have q2 := hX _ _ _ _ h2
  refine rNumC_vc kc kn B FB x.off tx a _ [] hm ⟨_, q1.1, q1.2, rfl, _, q2.1, q2.2, rfl, ?_⟩
  refine CallP.st [] (rNum_e hs ha (by rw [cells_len]; exact e3)) (fun _ _ => trivial) perm2 perm2 perm2 (fun h0 => ⟨_, _, rfl, rfl, finK ?_⟩) (fun h0 => finX ?_)
  ·rw [StepK, e1, e2]
   exact ⟨h0, rfl, tp, tc, bp, bc, ap, ac, [], rfl, fun lk h => (e4 _ _ _ _ _ _ _ h).mono lkU_r⟩
  ·rw [e1, h0]
   exact ⟨by decide, rfl, _, _, _, rfl, rfl⟩
 ·refine ⟨_, _, rfl, ⟨_, Tryz.func132, by kernel_rfl, by kernel_rfl⟩, ?_⟩
  intro a f tp bp ap tc bc ac ha W hm hX
  have hz := (rdT_le (s := bts tx) (st := (a, 0)) ha).2
  obtain ⟨e1, e2, e3, e4⟩ := rd_str (s := bts tx) (st := (a, 0)) (f := f) (by omega) hx
  have q1 := hX _ _ _ _ h1; have q2 := hX _ _ _ _ h2
  refine rWordC_vc kc kn B FB x.off tx a _ [] hm ⟨_, q1.1, q1.2, rfl, _, q2.1, q2.2, rfl, ?_⟩
  refine CallP.st [] (rWord_e hs ha (by rw [cells_len]; exact e3)) (fun _ _ => trivial) perm2 perm2 perm2 (fun h0 => ⟨_, _, rfl, rfl, finK ?_⟩) (fun h0 => finX ?_)
  ·rw [StepK, e1, e2]
   exact ⟨h0, rfl, tp, tc, bp, bc, ap, ac, [], rfl, fun lk h => (e4 _ _ _ _ _ _ _ h).mono lkU_r⟩
  ·rw [e1, h0]
   exact ⟨by decide, rfl, _, _, _, rfl, rfl⟩
 ·refine ⟨_, _, rfl, ⟨_, Tryz.func134, by kernel_rfl, by kernel_rfl⟩, ?_⟩
  intro a f tp bp ap tc bc ac ha W hm hX
  have q1 := hX _ _ _ _ h1; have q2 := hX _ _ _ _ h2
  refine rTopC_vc kc kn B FB tx a _ [] hm ⟨_, q1.1, q1.2, rfl, _, q2.1, q2.2, rfl, ?_⟩
  refine CallP.eff0 (L0 := [rK B tx a, fH FB _]) (L1 := []) (rTopics_e hs ha) (fun _ _ => trivial) ?_ (fun ch L' hb => finX (by rw [List.append_nil]; exact hb))
  rintro _ _ ⟨h0, rfl, Bn, rfl⟩
  refine ⟨_, _, [_], rfl, rfl, finK ?_⟩
  refine ⟨h0, rfl, some ⟨Bn, 0, none⟩, _, bp, bc, ap, ac, _, rfl, fun lk h => ?_⟩
  have hl := (flist_le (f := rdT (bts tx)) (s := bts tx) (m := 4) (fun st h => (rdT_le h).1) (st := (a, 0)) ha).2
  have hz := rdMany_sizes (s := bts tx) (fcnt (bts tx) 4 (a, 0)).1.toNat _ (fcnt_le (m := 4) (st := (a, 0)) ha)
  refine ⟨strs_at (.inl ⟨_, _, List.mem_singleton.2 rfl⟩), h.blks.mono lkU_r, h.ints.mono lkU_r, Nat.le_refl _, h.cb, h.ca, h.fits.1, ⟨Nat.le_trans hl (by decide), fun t ht => Nat.le_trans (hz t ht) (by decide)⟩, h.fits.2.2⟩
 ·refine ⟨_, _, rfl, ⟨_, Tryz.func136, by kernel_rfl, by kernel_rfl⟩, ?_⟩
  intro a f tp bp ap tc bc ac ha W hm hX
  have q1 := hX _ _ _ _ h1; have q2 := hX _ _ _ _ h2
  refine rBlkC_vc kc kn B FB tx a _ [] hm ⟨_, q1.1, q1.2, rfl, _, q2.1, q2.2, rfl, ?_⟩
  refine CallP.eff0 (L0 := [rK B tx a, fH FB _]) (L1 := []) (rBlocks_e hs ha) (fun _ _ => trivial) ?_ (fun ch L' hb => finX (by rw [List.append_nil]; exact hb))
  rintro _ _ ⟨h0, rfl, p, c, N, rfl, hb, hc, h24⟩
  rw [List.append_nil]
  refine ⟨_, _, N, rfl, rfl, finK ?_⟩
  exact ⟨h0, rfl, tp, tc, p, c, ap, ac, N, rfl, fun lk h => ⟨h.tops.mono lkU_r, hb.mono lkU_l, h.ints.mono lkU_r, h.ct, hc, h.ca, h.fits.1, h.fits.2.1, Nat.le_trans h24 (by decide), h.fits.2.2.2⟩⟩
 ·refine ⟨_, _, rfl, ⟨_, Tryz.func138, by kernel_rfl, by kernel_rfl⟩, ?_⟩
  intro a f tp bp ap tc bc ac ha W hm hX
  have q1 := hX _ _ _ _ h1; have q2 := hX _ _ _ _ h2
  refine rLabC_vc kc kn B FB tx a _ [] hm ⟨_, q1.1, q1.2, rfl, _, q2.1, q2.2, rfl, ?_⟩
  refine CallP.eff0 (L0 := [rK B tx a, fH FB _]) (L1 := []) (rLabel_e hs ha) (fun _ _ => trivial) ?_ (fun ch L' hb => finX (by rw [List.append_nil]; exact hb))
  rintro _ _ ⟨h0, rfl, Bn, rfl, h64⟩
  refine ⟨_, _, [_], rfl, rfl, finK ?_⟩
  exact ⟨h0, rfl, tp, tc, bp, bc, some ⟨Bn, 0, none⟩, _, _, rfl, fun lk h => ⟨h.tops.mono lkU_r, h.blks.mono lkU_r, ints_at (.inl ⟨_, _, List.mem_singleton.2 rfl⟩), h.ct, h.cb, Nat.le_refl _, h.fits.1, h.fits.2.1, h.fits.2.2.1, Nat.le_trans h64 (by decide)⟩⟩
def FactK (B FB : Nat) (tx : BA) (r : Fct × RS) (v : Value) (L' : SHeap) : Prop :=
 r.2.2 = 0 ∧ v = .tuple #[] ∧ ∃ tp tc bp bc ap ac N, L' = rK B tx r.2.1 :: fH FB (r.1.cells tp tc bp bc ap ac) :: N ∧ FAt (lkF N) r.1 tp tc bp bc ap ac
theorem lkU_F {M N : SHeap} : ∀ b c, lkU M (lkF N) b c → lkF (M ++ N) b c := by
 rintro b c (⟨t, fz, h⟩ | ⟨t, fz, h⟩)
 ·exact ⟨t, fz, List.mem_append_left _ h⟩
 ·exact ⟨t, fz, List.mem_append_right _ h⟩
theorem rFact_loop {B FB Bs : Nat} {tx : BA} (hs : tx.size < 4611686018427387904) {k : Int} {X : SHeap} {vs : List Value} (hrow : (Bs, .cells ⟨vs⟩ 1) ∈ X) (hc : Clos X B FB (kfields k) vs) {r : Fct × RS} :
  ∀ (g i : Nat) (f : Fct) (a : Nat) (tp : OA) (tc : Nat) (bp : OA) (bc : Nat) (ap : OA) (ac : Nat) (N : SHeap), g + i = (kfields k).length → r = ((kfields k).drop i).foldl (rdFld (bts tx)) (f, (a, 0)) → a ≤ (bts tx).length → FAt (lkF N) f tp tc bp bc ap ac →
   rFact_c0 tx B FB (SO Bs) (kfields k).length (kfields k).length ((kfields k).length : Int) (i : Int) (a : Int) (f.cells tp tc bp bc ap ac) (N ++ X) S w0 (PK (FactK B FB tx r) (BadK B FB tx r.2.2) S w0)
 | 0, i, f, a, tp, tc, bp, bc, ap, ac, N, hi, hr, ha, hF => by
  apply rFact_c0_vc
  rw [List.drop_of_length_le (by omega)] at hr
  subst hr
  exact no (by omega) (finK ⟨rfl, rfl, tp, tc, bp, bc, ap, ac, N ++ X, rfl, hF.mono (lkF_mono fun x hx => List.mem_append_left _ hx)⟩)
 | g + 1, i, f, a, tp, tc, bp, bc, ap, ac, N, hi, hr, ha, hF => by
  apply rFact_c0_vc
  have hlt : i < (kfields k).length := by omega
  have h9 := kfields_len k
  obtain ⟨u, hu1, hu2⟩ := hc.get i hlt
  obtain ⟨gf, caps, e1, e2, e3⟩ := rClo hu2 hs
  rw [List.drop_eq_getElem_cons hlt, List.foldl_cons] at hr
  refine yes (by omega) ⟨Bs, 0, rfl, by omega, vs, u, ⟨_, _, List.mem_cons_of_mem _ (List.mem_cons_of_mem _ (List.mem_append_right _ hrow))⟩, by simpa using hu1, gf, caps, e1, e2, ?_⟩
  refine CallP.eff0 (L0 := [rK B tx a, fH FB (f.cells tp tc bp bc ap ac)]) (L1 := N ++ X) (e3 ha) (fun W' hm' => fun b c t fz hb => xpre_of hm' b c t fz (List.mem_append_right _ hb)) ?_ ?_
  ·rintro _ _ ⟨h0, rfl, tp', tc', bp', bc', ap', ac', M, rfl, hM⟩
   refine ⟨_, _, (M ++ N) ++ X, rfl, by rw [List.append_assoc]; rfl, ?_⟩
   rw [wi64 (by omega), show (i : Int) + 1 = ((i + 1 : Nat) : Int) by omega]
   refine rFact_loop hs hrow hc g (i + 1) _ _ tp' tc' bp' bc' ap' ac' (M ++ N) (by omega) ?_ (rdV_le (st := (a, 0)) ha) ((hM _ hF).mono lkU_F)
   rw [hr]
   congr 1
   rw [rdFld]
   exact Prod.ext rfl (Prod.ext rfl h0)
  ·rintro _ _ ⟨h0, rfl, a', cs, N', rfl, h23⟩
   refine finX ?_
   have e : r.2 = (rdV (bts tx) (kfields k)[i].ty (a, 0)).2 := by rw [hr, fold_err _ _ h0]; rfl
   rw [e]
   exact ⟨h0, rfl, a', cs, N' ++ (N ++ X), rfl, h23⟩
theorem decFRun_bad {s : List UInt8} (h : ¬ (rdH3 s).2.2 = 0) : (decFRun s).2 = (rdH3 s).2 := by
 have e : rdKind s = (rdH3 s).2 := by rw [rdKind, if_neg (fun hh => h hh.1)]
 rw [decFRun, fold_err _ _ (by simp only; rw [e]; exact h)]
 exact e
theorem rFact_e {B FB : Nat} {tx : BA} (hs : tx.size < 4611686018427387904) :
  EffP TP 59 ⟨[pt B 0, pt FB 0]⟩ [rK B tx 0, fH FB (Fct.zero.cells none 0 none 0 none 0)] (fun _ => True) (FactK B FB tx (decFRun (bts tx))) (BadK B FB tx (decFRun (bts tx)).2.2) := by
 intro W hm _
 have hl := rdH_le (bts tx)
 refine rFact_vc B FB tx 0 _ [] hm ?_
 refine CallP.st [] (rNum_e hs (Nat.zero_le _) (by rw [cells_len]; decide)) (fun _ _ => trivial) perm2 perm2 perm2 (fun h1 => ⟨_, _, rfl, rfl, ?_⟩) (fun h1 => finX ?_)
 ·have h1 : (rdH1 (bts tx)).2.2 = 0 := h1
  have q1 : (rdH1 (bts tx)).2 = ((rdH1 (bts tx)).2.1, 0) := Prod.ext rfl h1
  show CallP _ _ _ [rK B tx (rdH1 (bts tx)).2.1, fH FB ((Fct.bare (rdH1 (bts tx)).1 0 0).cells none 0 none 0 none 0)] _ _ _ _
  refine CallP.st [] (rNum_e hs hl.1 (by rw [cells_len]; decide)) (fun _ _ => trivial) perm2 perm2 perm2 (fun h2 => ⟨_, _, rfl, rfl, ?_⟩) (fun h2 => finX ?_)
  ·rw [← q1] at h2 ⊢
   have h2 : (rdH2 (bts tx)).2.2 = 0 := h2
   have q2 : (rdH2 (bts tx)).2 = ((rdH2 (bts tx)).2.1, 0) := Prod.ext rfl h2
   show CallP _ _ _ [rK B tx (rdH2 (bts tx)).2.1, fH FB ((Fct.bare (rdH1 (bts tx)).1 (rdH2 (bts tx)).1 0).cells none 0 none 0 none 0)] _ _ _ _
   refine CallP.st [] (rNum_e hs hl.2.1 (by rw [cells_len]; decide)) (fun _ _ => trivial) perm2 perm2 perm2 (fun h3 => ⟨_, _, rfl, rfl, ?_⟩) (fun h3 => finX ?_)
   ·rw [← q2] at h3 ⊢
    have h3 : (rdH3 (bts tx)).2.2 = 0 := h3
    have q3 : (rdH3 (bts tx)).2 = ((rdH3 (bts tx)).2.1, 0) := Prod.ext rfl h3
    show CallH _ _ _ [rK B tx (rdH3 (bts tx)).2.1, fH FB ((Fct.bare (rdH1 (bts tx)).1 (rdH2 (bts tx)).1 (rdH3 (bts tx)).1).cells none 0 none 0 none 0)] _ _ _
    refine CallH.effW (L0 := []) (L1 := [rK B tx (rdH3 (bts tx)).2.1, fH FB ((Fct.bare (rdH1 (bts tx)).1 (rdH2 (bts tx)).1 (rdH3 (bts tx)).1).cells none 0 none 0 none 0)]) (fields_e (k := (rdH3 (bts tx)).1)) (fun W' hm' => ⟨(Fct.bare (rdH1 (bts tx)).1 (rdH2 (bts tx)).1 (rdH3 (bts tx)).1).cells none 0 none 0 none 0, ?_, rfl⟩) (by simp) fun u X hX => ?_
    ·have := hm'.here (fH FB ((Fct.bare (rdH1 (bts tx)).1 (rdH2 (bts tx)).1 (rdH3 (bts tx)).1).cells none 0 none 0 none 0)) (by simp)
     simp only at this
     simp [blkW, this]
    ·rcases hX with ⟨h0, rfl⟩ | ⟨Bs, vs, rfl, hrow, hc⟩
     ·refine ⟨rK B tx (rdH3 (bts tx)).2.1 :: fH FB _ :: X, List.perm_append_comm, _, _, _, X, rfl, rfl, fun _ => finX ?_, fun h => absurd rfl h⟩
      have e : decFRun (bts tx) = (Fct.bare (rdH1 (bts tx)).1 (rdH2 (bts tx)).1 (rdH3 (bts tx)).1, ((rdH3 (bts tx)).2.1, 50)) := by
       rw [decFRun, h0, rdKind, if_pos ⟨h3, h0⟩]; rfl
      rw [e]
      exact ⟨show (50 : Int) ≠ 0 by decide, rfl, _, _, X, rfl, rfl⟩
     ·refine ⟨rK B tx (rdH3 (bts tx)).2.1 :: fH FB _ :: X, List.perm_append_comm, _, _, _, X, rfl, rfl, fun h => ?_, fun h => ?_⟩
      ·have hcl := hc.len
       have h0 : kfields (rdH3 (bts tx)).1 = [] := List.length_eq_zero_iff.1 (by omega)
       have e : decFRun (bts tx) = (Fct.bare (rdH1 (bts tx)).1 (rdH2 (bts tx)).1 (rdH3 (bts tx)).1, ((rdH3 (bts tx)).2.1, 50)) := by
        rw [decFRun, h0, rdKind, if_pos ⟨h3, h0⟩]; rfl
       rw [e]
       exact finX ⟨show (50 : Int) ≠ 0 by decide, rfl, _, _, X, rfl, rfl⟩
      ·have hne : kfields (rdH3 (bts tx)).1 ≠ [] := fun h0 => h (by rw [h0]; rfl)
       refine rFact_loop hs hrow hc (kfields (rdH3 (bts tx)).1).length 0 (Fct.bare (rdH1 (bts tx)).1 (rdH2 (bts tx)).1 (rdH3 (bts tx)).1) (rdH3 (bts tx)).2.1 none 0 none 0 none 0 [] (by omega) ?_ hl.2.2 ?_
       ·rw [List.drop_zero, decFRun, rdKind, if_neg (fun hh => hne hh.2), q3]
       ·exact noLists rfl rfl rfl ⟨e0_sz, e0_sz, e0_sz, e0_sz, e0_sz⟩
   ·rw [← q2] at h3
    have e : (rdH3 (bts tx)).2.2 = 10 := h3
    rw [decFRun_bad (by rw [e]; decide), e]
    exact ⟨by decide, rfl, _, _, [], rfl, rfl⟩
  ·rw [← q1] at h2
   have e : (rdH2 (bts tx)).2.2 = 10 := h2
   have e3 : (rdH3 (bts tx)).2 = (rdH2 (bts tx)).2 := rdI_err (by rw [e]; decide)
   rw [decFRun_bad (by rw [e3, e]; decide), e3, e]
   exact ⟨by decide, rfl, _, _, [], rfl, rfl⟩
 ·have e : (rdH1 (bts tx)).2.2 = 10 := h1
  have e2 : (rdH2 (bts tx)).2 = (rdH1 (bts tx)).2 := rdI_err (by rw [e]; decide)
  have e3 : (rdH3 (bts tx)).2 = (rdH2 (bts tx)).2 := rdI_err (by rw [e2, e]; decide)
  rw [decFRun_bad (by rw [e3, e2, e]; decide), e3, e2, e]
  exact ⟨by decide, rfl, _, _, [], rfl, rfl⟩
set_option maxRecDepth 100000
abbrev zF18aa : Array Value := #[IV 0, IV 0, IV 0, IV 0, .string (⟨#[]⟩), IV 0, IV 0, .string (⟨#[]⟩), .string (⟨#[]⟩), .slice none 0 0, .slice none 0 0, IV 0, .slice none 0 0, IV 0, IV 0, IV 0, IV 0, IV 0, .string (⟨#[]⟩), .string (⟨#[]⟩), IV 0, IV 0, IV 0]
abbrev fDecodeH0 (B : Nat) (d : Fct) (dtp : OA) (dtc : Nat) (dbp : OA) (dbc : Nat) (dap : OA) (dac B1 B2 : Nat) (s : BA) (ca : Int) (F : SHeap) : SHeap := ((B, .cells ⟨d.cells dtp dtc dbp dbc dap dac⟩ 38) :: (B1, .cells #[IV 0] 25) :: (B2, .cells #[.bool true, .string s, IV ca, .pointer none, .slice none 0 0] 105) :: F)
abbrev fDecodeH1 (B B1 B2 : Nat) (s : BA) (ca : Int) (F : SHeap) : SHeap := ((B, .cells zF18aa 38) :: (B1, .cells #[IV 10] 25) :: (B2, .cells #[.bool true, .string s, IV ca, .pointer none, .slice none 0 0] 105) :: F)
abbrev fDecodeH2 (B B1 B2 : Nat) (s : BA) (ca : Int) (F : SHeap) : SHeap := ((B, .cells zF18aa 38) :: (B1, .cells #[IV 50] 25) :: (B2, .cells #[.bool true, .string s, IV ca, .pointer none, .slice none 0 0] 105) :: F)
abbrev fDecodeH3 (B B1 : Nat) (pe : Int) (F1 : SHeap) : SHeap := ((B, .cells zF18aa 38) :: (B1, .cells #[IV pe] 25) :: F1)
abbrev fDecodeA0 : Array Value := zF18aa
abbrev fDecodeA1 (d : Fct) (dtp : OA) (dtc : Nat) (dbp : OA) (dbc : Nat) (dap : OA) (dac : Nat) : Array Value := ⟨d.cells dtp dtc dbp dbc dap dac⟩
theorem fDecode_vc (s : BA) (hm : Mem [] [] w0 W)
 (H :
 ∀ B B1 B2 : Nat,
 CallP TP 59 ⟨[PP B2, PP B]⟩ [(B, .cells fDecodeA0 38), (B1, .cells #[IV 0] 25), (B2, .cells #[.bool true, .string s, IV 0, .pointer none, .slice none 0 0] 105)] [] w0 (fun v L' => ∃ (ca : Int) (d : Fct) (dtp : OA) (dtc : Nat) (dbp : OA) (dbc : Nat) (dap : OA) (dac : Nat), ∃ F, v = .tuple #[] ∧ L' = (fDecodeH0 B d dtp dtc dbp dbc dap dac B1 B2 s ca F) ∧
 Br (ca < (s.size : Int))
 (DCall TP 123 ⟨[PP B, PP B1]⟩ (fDecodeH1 B B1 B2 s ca F) [] w0 .returning (fun u' L' => u' = .returning ∧ L' = (fDecodeH1 B B1 B2 s ca F) ∧
 Fin R (fDecodeH1 B B1 B2 s ca F) [] w0 (.tuple #[.agg fDecodeA0, IV 10])))
 (CallH TP 24 ⟨[.agg (fDecodeA1 d dtp dtc dbp dbc dap dac)]⟩ (fDecodeH0 B d dtp dtc dbp dbc dap dac B1 B2 s ca F) [] w0 (fun v L' => ∃ r1, v = .bool r1 ∧ L' = (fDecodeH0 B d dtp dtc dbp dbc dap dac B1 B2 s ca F) ∧
 Bb (r1)
 (DCall TP 123 ⟨[PP B, PP B1]⟩ (fDecodeH0 B d dtp dtc dbp dbc dap dac B1 B2 s ca F) [] w0 .returning (fun u' L' => u' = .returning ∧ L' = (fDecodeH0 B d dtp dtc dbp dbc dap dac B1 B2 s ca F) ∧
 Fin R (fDecodeH0 B d dtp dtc dbp dbc dap dac B1 B2 s ca F) [] w0 (.tuple #[.agg (fDecodeA1 d dtp dtc dbp dbc dap dac), IV 0])))
 (DCall TP 123 ⟨[PP B, PP B1]⟩ (fDecodeH2 B B1 B2 s ca F) [] w0 .returning (fun u' L' => u' = .returning ∧ L' = (fDecodeH2 B B1 B2 s ca F) ∧
 Fin R (fDecodeH2 B B1 B2 s ca F) [] w0 (.tuple #[.agg fDecodeA0, IV 50])))))) (fun ch L' => ∃ (y : Value) (y1 : Value) (y2 : Value) (y3 : Value) (y4 : Value) (y5 : Value) (y6 : Value) (y7 : Value) (y8 : Value) (y9 : Value) (y10 : Value) (y11 : Value) (y12 : Value) (y13 : Value) (y14 : Value) (y15 : Value) (y16 : Value) (y17 : Value) (y18 : Value) (y19 : Value) (y20 : Value) (y21 : Value) (y22 : Value) (pe : Int) (F1 : SHeap), ch = [{ v := .iface 25 (IV pe), recovered := false }] ∧ L' = ((B, .cells #[y, y1, y2, y3, y4, y5, y6, y7, y8, y9, y10, y11, y12, y13, y14, y15, y16, y17, y18, y19, y20, y21, y22] 38) :: (B1, .cells #[IV 0] 25) :: F1) ∧
 DCall TP 123 ⟨[PP B, PP B1]⟩ ((B, .cells #[y, y1, y2, y3, y4, y5, y6, y7, y8, y9, y10, y11, y12, y13, y14, y15, y16, y17, y18, y19, y20, y21, y22] 38) :: (B1, .cells #[IV 0] 25) :: F1) [] w0 (.panicking [{ v := .iface 25 (IV pe), recovered := false }]) (fun u' L' => u' = (.panicking [{ v := .iface 25 (IV pe), recovered := true }]) ∧ L' = (fDecodeH3 B B1 pe F1) ∧
 Fin R (fDecodeH3 B B1 pe F1) [] w0 (.tuple #[.agg fDecodeA0, IV pe])))) :
 Calls TP 85 ⟨[.string s]⟩ W R:= by
 refine AtE.cs 24 Tryz.func85 hm (.ru 2 (.nH (.cells fDecodeA0 38) H fun B H => (.nH (.cells #[IV 0] 25) H fun B1 H => (.ru 4 (.defer (d := ⟨.fn (.func 123) #[PP B, PP B1], #[]⟩) (by kernel_rfl) (fun W => by kernel_rfl) (.ru 5 (.nH (.cells #[.bool true, .string s, IV 0, .pointer none, .slice none 0 0] 105) H fun B2 H => (.ru 5 (.callP 59 ⟨[PP B2, PP B]⟩ (fun W => by kernel_rfl) (by kernel_rfl) H ?_ ?_)))))))))
 rotate_left
 ·clear H
  rintro _ _ ⟨y, y1, y2, y3, y4, y5, y6, y7, y8, y9, y10, y11, y12, y13, y14, y15, y16, y17, y18, y19, y20, y21, y22, pe, F1, rfl, rfl, H⟩
  refine RaiseE.dfr Tryz.func85 rfl (fun W => by kernel_rfl) (DCall.mono H ?_)
  rintro _ _ ⟨rfl, rfl, H⟩
  exact ⟨rfl, _, ResOk.cells2 (a := 2) (b := 3) (T := 38) (U := 25) (u := .agg fDecodeA0) (v := IV pe) 0 0 1 0 (by kernel_rfl) (by kernel_rfl), H⟩
 rintro _ _ ⟨ca, d, dtp, dtc, dbp, dbc, dap, dac, F, rfl, rfl, H⟩
 refine .ru 7 (.load 2 2 (T := 3) (v := IV ca) (by kernel_rfl) (.ru 4 (.sP 17 H (fun H => ?_) fun H => ?_)))
 ·refine .ru 4 (.store 0 0 (T := 38) (v := .agg fDecodeA0) (by kernel_rfl) (.store 1 0 (T := 25) (v := IV 10) (by kernel_rfl) (.ru 1 (.retD Tryz.func85 rfl (fun W => by kernel_rfl) (by kernel_rfl) (DCall.mono H ?_)))))
  rintro _ _ ⟨rfl, rfl, H⟩
  exact ⟨rfl, _, ResOk.cells2 (a := 2) (b := 3) (T := 38) (U := 25) (u := .agg fDecodeA0) (v := IV 10) 0 0 1 0 (by kernel_rfl) (by kernel_rfl), H⟩
 ·refine .ru 5 (.load 0 0 (T := 38) (v := .agg (fDecodeA1 d dtp dtc dbp dbc dap dac)) (by kernel_rfl) (.cl H ?_))
  rintro _ _ ⟨r1, rfl, rfl, H⟩
  refine .sB 20 H (fun H => ?_) fun H => ?_
  ·refine .ru 6 (.load 0 0 (T := 38) (v := .agg (fDecodeA1 d dtp dtc dbp dbc dap dac)) (by kernel_rfl) (.store 0 0 (T := 38) (v := .agg (fDecodeA1 d dtp dtc dbp dbc dap dac)) (by kernel_rfl) (.store 1 0 (T := 25) (v := IV 0) (by kernel_rfl) (.ru 1 (.retD Tryz.func85 rfl (fun W => by kernel_rfl) (by kernel_rfl) (DCall.mono H ?_))))))
   rintro _ _ ⟨rfl, rfl, H⟩
   exact ⟨rfl, _, ResOk.cells2 (a := 2) (b := 3) (T := 38) (U := 25) (u := .agg (fDecodeA1 d dtp dtc dbp dbc dap dac)) (v := IV 0) 0 0 1 0 (by kernel_rfl) (by kernel_rfl), H⟩
  ·refine .ru 6 (.store 0 0 (T := 38) (v := .agg fDecodeA0) (by kernel_rfl) (.store 1 0 (T := 25) (v := IV 50) (by kernel_rfl) (.ru 1 (.retD Tryz.func85 rfl (fun W => by kernel_rfl) (by kernel_rfl) (DCall.mono H ?_)))))
   rintro _ _ ⟨rfl, rfl, H⟩
   exact ⟨rfl, _, ResOk.cells2 (a := 2) (b := 3) (T := 38) (U := 25) (u := .agg fDecodeA0) (v := IV 50) 0 0 1 0 (by kernel_rfl) (by kernel_rfl), H⟩
set_option maxRecDepth 100000
theorem fdecR_vc (FB EB : Nat) (y0 : Value) (y1 : Value) (y2 : Value) (y3 : Value) (y4 : Value) (y5 : Value) (y6 : Value) (y7 : Value) (y8 : Value) (y9 : Value) (y10 : Value) (y11 : Value) (y12 : Value) (y13 : Value) (y14 : Value) (y15 : Value) (y16 : Value) (y17 : Value) (y18 : Value) (y19 : Value) (y20 : Value) (y21 : Value) (y22 : Value) (e : Int) {R : Ending → FrameMode → World → Prop} (hm : Mem [(FB, .cells #[y0, y1, y2, y3, y4, y5, y6, y7, y8, y9, y10, y11, y12, y13, y14, y15, y16, y17, y18, y19, y20, y21, y22] 38), (EB, .cells #[IV e] 25)] S w0 W)
 (H :
 FinD R .returning [(FB, .cells #[y0, y1, y2, y3, y4, y5, y6, y7, y8, y9, y10, y11, y12, y13, y14, y15, y16, y17, y18, y19, y20, y21, y22] 38), (EB, .cells #[IV e] 25)] S w0 (.tuple #[])) :
 CallsD TP 123 ⟨[PP FB, PP EB]⟩ .returning W R:= by
 refine AtE.callsD (nt := 13) Tryz.func123 (by kernel_rfl) hm (.ru 2 (.recoverN (by kernel_rfl) (fun W => by kernel_rfl) (.ru 11 (.retG Tryz.func123 (by kernel_rfl) H))))
abbrev fdecPA0 : Array Value := #[IV 0, IV 0, IV 0, IV 0, .string (⟨#[]⟩), IV 0, IV 0, .string (⟨#[]⟩), .string (⟨#[]⟩), .slice none 0 0, .slice none 0 0, IV 0, .slice none 0 0, IV 0, IV 0, IV 0, IV 0, IV 0, .string (⟨#[]⟩), .string (⟨#[]⟩), IV 0, IV 0, IV 0]
theorem fdecP_vc (FB EB : Nat) (y0 : Value) (y1 : Value) (y2 : Value) (y3 : Value) (y4 : Value) (y5 : Value) (y6 : Value) (y7 : Value) (y8 : Value) (y9 : Value) (y10 : Value) (y11 : Value) (y12 : Value) (y13 : Value) (y14 : Value) (y15 : Value) (y16 : Value) (y17 : Value) (y18 : Value) (y19 : Value) (y20 : Value) (y21 : Value) (y22 : Value) (e x : Int) {R : Ending → FrameMode → World → Prop} (hm : Mem [(FB, .cells #[y0, y1, y2, y3, y4, y5, y6, y7, y8, y9, y10, y11, y12, y13, y14, y15, y16, y17, y18, y19, y20, y21, y22] 38), (EB, .cells #[IV e] 25)] S w0 W)
 (H :
 FinD R (.panicking [{ v := .iface 25 (IV x), recovered := true }]) [(FB, .cells fdecPA0 38), (EB, .cells #[IV x] 25)] S w0 (.tuple #[])) :
 CallsD TP 123 ⟨[PP FB, PP EB]⟩ (.panicking [{ v := .iface 25 (IV x), recovered := false }]) W R:= by
 refine AtE.callsD (nt := 13) Tryz.func123 (by kernel_rfl) hm (.ru 2 (.recoverP (v := .iface 25 (IV x)) (by kernel_rfl) (fun W => by kernel_rfl) (.ru 21 (.st 0 0 (.st 1 0 (.ru 2 (.retG Tryz.func123 (by kernel_rfl) H)))))))
def EffD (P : Program) (g : FuncId) (args : Array Value) (L0 : SHeap) (u : FrameMode) (K : FrameMode → SHeap → Prop) : Prop :=
 ∀ W, Mem L0 (L0.map (·.1)) W W → CallsD P g args u W fun e u' W' => ∃ v L', e = .returned v ∧ Mem L' (L0.map (·.1)) W W' ∧ K u' L'
theorem DCall.eff {L0 L1 L : SHeap} {u : FrameMode} {K K' : FrameMode → SHeap → Prop} (h : EffD P g args L0 u K) (hp : (L0 ++ L1).Perm L)
  (hK : ∀ u' L', K u' L' → ∃ L2, (L' ++ L1).Perm L2 ∧ K' u' L2) : DCall P g args L S w0 u K' := by
 intro W hm c cs hc
 have hm' : Mem (L0 ++ L1) S w0 W := hm.perm hp
 have hnd := hm'.nodup
 rw [List.map_append, List.nodup_append] at hnd
 obtain ⟨en, u', W', fr, ⟨v, L', h1, h2, h3⟩, h4⟩ := h W ⟨hnd.1, fun p hp => hm'.here p (List.mem_append_left _ hp), fun p hp => .inr (List.mem_map_of_mem hp), Kept.refl _ W⟩ c cs hc
 obtain ⟨L2, hp2, hk2⟩ := hK u' L' h3
 exact ⟨en, u', W', fr, ⟨v, L2, h1, Mem.perm (L := L' ++ L1) (hm'.framed h2) hp2.symm, hk2⟩, h4⟩
theorem len_succ {α : Type} {l : List α} {n : Nat} (h : l.length = n + 1) : ∃ a t, l = a :: t ∧ t.length = n := by
 cases l with
 | nil => simp at h
 | cons a t => exact ⟨a, t, rfl, by simpa using h⟩
theorem len23 {l : List Value} (h : l.length = 23) : ∃ y0 y1 y2 y3 y4 y5 y6 y7 y8 y9 y10 y11 y12 y13 y14 y15 y16 y17 y18 y19 y20 y21 y22, l = [y0, y1, y2, y3, y4, y5, y6, y7, y8, y9, y10, y11, y12, y13, y14, y15, y16, y17, y18, y19, y20, y21, y22] := by
 obtain ⟨y0, l0, e0, h0⟩ := len_succ h
 obtain ⟨y1, l1, e1, h1⟩ := len_succ h0
 obtain ⟨y2, l2, e2, h2⟩ := len_succ h1
 obtain ⟨y3, l3, e3, h3⟩ := len_succ h2
 obtain ⟨y4, l4, e4, h4⟩ := len_succ h3
 obtain ⟨y5, l5, e5, h5⟩ := len_succ h4
 obtain ⟨y6, l6, e6, h6⟩ := len_succ h5
 obtain ⟨y7, l7, e7, h7⟩ := len_succ h6
 obtain ⟨y8, l8, e8, h8⟩ := len_succ h7
 obtain ⟨y9, l9, e9, h9⟩ := len_succ h8
 obtain ⟨y10, l10, e10, h10⟩ := len_succ h9
 obtain ⟨y11, l11, e11, h11⟩ := len_succ h10
 obtain ⟨y12, l12, e12, h12⟩ := len_succ h11
 obtain ⟨y13, l13, e13, h13⟩ := len_succ h12
 obtain ⟨y14, l14, e14, h14⟩ := len_succ h13
 obtain ⟨y15, l15, e15, h15⟩ := len_succ h14
 obtain ⟨y16, l16, e16, h16⟩ := len_succ h15
 obtain ⟨y17, l17, e17, h17⟩ := len_succ h16
 obtain ⟨y18, l18, e18, h18⟩ := len_succ h17
 obtain ⟨y19, l19, e19, h19⟩ := len_succ h18
 obtain ⟨y20, l20, e20, h20⟩ := len_succ h19
 obtain ⟨y21, l21, e21, h21⟩ := len_succ h20
 obtain ⟨y22, l22, e22, h22⟩ := len_succ h21
 rw [List.length_eq_zero_iff] at h22
 subst h22 e22 e21 e20 e19 e18 e17 e16 e15 e14 e13 e12 e11 e10 e9 e8 e7 e6 e5 e4 e3 e2 e1 e0
 exact ⟨_, _, _, _, _, _, _, _, _, _, _, _, _, _, _, _, _, _, _, _, _, _, _, rfl⟩
abbrev eH (B : Nat) (e : Int) : Nat × Obj := (B, .cells #[.int .i64 e] 25)
theorem fdecR_e {B C : Nat} {cs : List Value} {e : Int} (h : cs.length = 23) : EffD TP 123 ⟨[pt B 0, pt C 0]⟩ [fH B cs, eH C e] .returning (fun u' L' => u' = .returning ∧ L' = [fH B cs, eH C e]) := by
 intro W hm
 obtain ⟨y0, y1, y2, y3, y4, y5, y6, y7, y8, y9, y10, y11, y12, y13, y14, y15, y16, y17, y18, y19, y20, y21, y22, rfl⟩ := len23 h
 exact fdecR_vc B C _ _ _ _ _ _ _ _ _ _ _ _ _ _ _ _ _ _ _ _ _ _ _ e hm fun W' hm' => ⟨_, _, rfl, hm', rfl, rfl⟩
theorem fdecP_e {B C : Nat} {cs : List Value} {e x : Int} (h : cs.length = 23) : EffD TP 123 ⟨[pt B 0, pt C 0]⟩ [fH B cs, eH C e] (.panicking (pan x))
  (fun u' L' => u' = .panicking [{ v := .iface 25 (.int .i64 x), recovered := true }] ∧ L' = [fH B (Fct.zero.cells none 0 none 0 none 0), eH C x]) := by
 intro W hm
 obtain ⟨y0, y1, y2, y3, y4, y5, y6, y7, y8, y9, y10, y11, y12, y13, y14, y15, y16, y17, y18, y19, y20, y21, y22, rfl⟩ := len23 h
 exact fdecP_vc B C _ _ _ _ _ _ _ _ _ _ _ _ _ _ _ _ _ _ _ _ _ _ _ e x hm fun W' hm' => ⟨_, _, rfl, hm', rfl, rfl⟩
theorem permD {a b x : Nat × Obj} {N : SHeap} : ((a :: b :: N) ++ [x]).Perm (b :: x :: a :: N) :=
 (((List.perm_append_comm (l₁ := N) (l₂ := [x])).cons b).cons a).trans ((List.Perm.swap b a _).trans ((List.Perm.swap x a N).cons b))
def DecFOut (r : Fct × Int) (v : Value) (F : SHeap) : Prop := ∃ tp tc bp bc ap ac, v = .tuple #[.agg ⟨r.1.cells tp tc bp bc ap ac⟩, .int .i64 r.2] ∧ FAt (lkF F) r.1 tp tc bp bc ap ac
theorem zeroAt : FAt lk Fct.zero none 0 none 0 none 0 := noLists rfl rfl rfl ⟨e0_sz, e0_sz, e0_sz, e0_sz, e0_sz⟩
theorem DecFOut.zero {e : Int} {F : SHeap} : DecFOut (Fct.zero, e) (.tuple #[.agg ⟨Fct.zero.cells none 0 none 0 none 0⟩, .int .i64 e]) F := ⟨none, 0, none, 0, none, 0, rfl, zeroAt⟩
theorem fDecode_e {s : BA} (hs : s.size < 4611686018427387904) : EffC TP 85 ⟨[.string s]⟩ [] (DecFOut (decF (bts s))) := by
 intro W hm
 refine fDecode_vc s hm fun B B1 B2 => ?_
 refine CallP.eff (L1 := [eH B1 0]) (rFact_e (B := B2) (FB := B) hs) (fun _ _ => trivial) permD ?_ ?_
 ·rintro _ _ ⟨h0, rfl, tp, tc, bp, bc, ap, ac, N, rfl, hF⟩
  refine ⟨_, permD, (decFRun (bts s)).2.1, (decFRun (bts s)).1, tp, tc, bp, bc, ap, ac, N, rfl, rfl, fun h1 => ?_, fun h1 => ?_⟩
  ·have e : decF (bts s) = (Fct.zero, 10) := by rw [decF, if_neg (by simpa using h0), if_pos (by rw [bts_len]; omega)]
   rw [e]
   exact DCall.eff (L1 := rK B2 s (decFRun (bts s)).2.1 :: N) (fdecR_e (B := B) (C := B1) (cs := Fct.zero.cells none 0 none 0 none 0) (e := 10) rfl) (List.Perm.refl _) fun u' L' ⟨hu, hL⟩ => ⟨_, List.Perm.refl _, hu, by rw [hL]; rfl, fun W' hm' => ⟨_, _, rfl, hm', DecFOut.zero⟩⟩
  ·refine CallH.pw (fun W' hm' => fValid_c (hF.mono (lkF_W hm' fun x hx => List.mem_cons_of_mem _ (List.mem_cons_of_mem _ (List.mem_cons_of_mem _ hx))))) ⟨_, rfl, rfl, fun hv => ?_, fun hv => ?_⟩
   ·have e : decF (bts s) = ((decFRun (bts s)).1, 0) := by rw [decF, if_neg (by simpa using h0), if_neg (by rw [bts_len]; omega), if_pos hv]
    rw [e]
    exact DCall.eff (L1 := rK B2 s (decFRun (bts s)).2.1 :: N) (fdecR_e (B := B) (C := B1) (cs := (decFRun (bts s)).1.cells tp tc bp bc ap ac) (e := 0) rfl) (List.Perm.refl _) fun u' L' ⟨hu, hL⟩ => ⟨_, List.Perm.refl _, hu, by rw [hL]; rfl, fun W' hm' => ⟨_, _, rfl, hm', tp, tc, bp, bc, ap, ac, rfl, hF.mono (lkF_mono fun x hx => List.mem_cons_of_mem _ (List.mem_cons_of_mem _ (List.mem_cons_of_mem _ hx)))⟩⟩
   ·have e : decF (bts s) = (Fct.zero, 50) := by rw [decF, if_neg (by simpa using h0), if_neg (by rw [bts_len]; omega), if_neg (by rw [hv]; decide)]
    rw [e]
    exact DCall.eff (L1 := rK B2 s (decFRun (bts s)).2.1 :: N) (fdecR_e (B := B) (C := B1) (cs := Fct.zero.cells none 0 none 0 none 0) (e := 50) rfl) (List.Perm.refl _) fun u' L' ⟨hu, hL⟩ => ⟨_, List.Perm.refl _, hu, by rw [hL]; rfl, fun W' hm' => ⟨_, _, rfl, hm', DecFOut.zero⟩⟩
 ·rintro _ _ ⟨h0, rfl, a, cs, N, rfl, h23⟩
  have e : decF (bts s) = (Fct.zero, (decFRun (bts s)).2.2) := by rw [decF, if_pos h0]
  rw [e]
  have hd : EffD TP 123 ⟨[pt B 0, pt B1 0]⟩ [fH B cs, eH B1 0] (.panicking (pan (decFRun (bts s)).2.2)) _ := fdecP_e h23
  obtain ⟨y0, y1, y2, y3, y4, y5, y6, y7, y8, y9, y10, y11, y12, y13, y14, y15, y16, y17, y18, y19, y20, y21, y22, rfl⟩ := len23 h23
  refine ⟨_, permD, y0, y1, y2, y3, y4, y5, y6, y7, y8, y9, y10, y11, y12, y13, y14, y15, y16, y17, y18, y19, y20, y21, y22, _, rK B2 s a :: N, rfl, rfl, ?_⟩
  exact DCall.eff (L1 := rK B2 s a :: N) hd (List.Perm.refl _) fun u' L' ⟨hu, hL⟩ => ⟨_, List.Perm.refl _, hu, by rw [hL]; rfl, fun W' hm' => ⟨_, _, rfl, hm', DecFOut.zero⟩⟩
set_option maxRecDepth 100000
abbrev zF20aa (x0 x1 x2 x3 : Nat) (x4 x5 : OA) : Array Value := #[IV 0, IV 0, IV 0, IV 0, .string (⟨#[]⟩), IV 0, IV 0, .string (⟨#[]⟩), .string (⟨#[]⟩), .slice x4 x0 x1, .slice none 0 0, IV 0, .slice x5 x2 x3, IV 0, IV 0, IV 0, IV 0, IV 0, .string (⟨#[]⟩), .string (⟨#[]⟩), IV 0, IV 0, IV 0]
abbrev zF20ab (x0 : Fct) (x1 x2 x3 : Nat) (x4 x5 : OA) : Array Value := #[IV x0.n, IV x0.time, IV x0.kind, IV x0.story, .string x0.lang, IV x0.rev, IV x0.base, .string x0.title, .string x0.author, .slice x4 x1 x2, .slice none 0 0, IV x0.lab.unt, .slice x5 x0.lab.after.length x3, IV x0.lab.appr, IV x0.lab.den, IV x0.editor, IV x0.block, IV x0.sentence, .string x0.text, .string x0.name, IV x0.partner, IV x0.cls, IV x0.unt]
abbrev zF20ac (x0 : Fct) : Array Value := #[IV x0.n, IV x0.time, IV 10, IV x0.story, .string (⟨#[]⟩), IV 0, IV 0, .string (⟨#[]⟩), .string (⟨#[]⟩), .slice none 0 0, .slice none 0 0, IV 0, .slice none 0 0, IV 0, IV 0, IV 0, IV 0, IV 0, .string (⟨#[]⟩), .string (⟨#[]⟩), IV 0, IV 0, IV 0]
abbrev fRedactH0 (B6 : Nat) (f : Fct) (m92_p : OA) (m92_l m92_c B7 m10_l m10_c : Nat) (fap : OA) (fac : Nat) (cs : List Value) (B8 : Nat) (m93_p : OA) (m93_l m93_c : Nat) (m121_p : OA) (m121_l m121_c : Nat) (F2 : SHeap) : SHeap := ((B6, .cells #[IV f.n, IV f.time, IV f.kind, IV f.story, .string f.lang, IV f.rev, IV f.base, .string f.title, .string f.author, .slice m92_p m92_l m92_c, .slice (SO B7) m10_l m10_c, IV f.lab.unt, .slice fap f.lab.after.length fac, IV f.lab.appr, IV f.lab.den, IV f.editor, IV f.block, IV f.sentence, .string f.text, .string f.name, IV f.partner, IV f.cls, IV f.unt] 38) :: (B7, .cells ⟨cs⟩ 149) :: (B8, .cells (zF20aa m93_l m93_c m121_l m121_c m93_p m121_p) 38) :: F2)
abbrev fRedactH1 (B4 : Nat) (f : Fct) (m9_p : OA) (m9_l m9_c : Nat) (fap : OA) (fac B5 : Nat) (m91_p : OA) (m91_l m91_c : Nat) (m12_p : OA) (m12_l m12_c : Nat) (F1 : SHeap) : SHeap := ((B4, .cells (zF20ab f m9_l m9_c fac m9_p fap) 38) :: (B5, .cells (zF20aa m91_l m91_c m12_l m12_c m91_p m12_p) 38) :: F1)
abbrev fRedactH2 (B1 : Nat) (f : Fct) (B : Nat) (ftp : OA) (ftc : Nat) (fbp : OA) (fbc : Nat) (fap : OA) (fac : Nat) (F : SHeap) : SHeap := ((B1, .cells (zF20ac f) 38) :: (B, .cells ⟨f.cells ftp ftc fbp fbc fap fac⟩ 38) :: F)
abbrev fRedactA0 (f : Fct) : Array Value := (zF20ac f)
abbrev fRedactA1 (f : Fct) (m92_p : OA) (m92_l m92_c B7 m10_l m10_c B12 cap5 : Nat) : Array Value := #[IV f.n, IV f.time, IV f.kind, IV f.story, .string f.lang, IV f.rev, IV f.base, .string f.title, .string f.author, .slice m92_p m92_l m92_c, .slice (SO B7) m10_l m10_c, IV f.lab.unt, .slice (SO B12) f.lab.after.length cap5, IV f.lab.appr, IV f.lab.den, IV f.editor, IV f.block, IV f.sentence, .string f.text, .string f.name, IV f.partner, IV f.cls, IV f.unt]
abbrev fRedactA2 (f : Fct) (m9_p : OA) (m9_l m9_c B10 cap3 : Nat) : Array Value := #[IV f.n, IV f.time, IV f.kind, IV f.story, .string f.lang, IV f.rev, IV f.base, .string f.title, .string f.author, .slice m9_p m9_l m9_c, .slice none 0 0, IV f.lab.unt, .slice (SO B10) f.lab.after.length cap3, IV f.lab.appr, IV f.lab.den, IV f.editor, IV f.block, IV f.sentence, .string f.text, .string f.name, IV f.partner, IV f.cls, IV f.unt]
abbrev fRedactA3 (f : Fct) (m92_p : OA) (m92_l m92_c B7 m10_l m10_c : Nat) : Array Value := #[IV f.n, IV f.time, IV f.kind, IV f.story, .string f.lang, IV f.rev, IV f.base, .string f.title, .string f.author, .slice m92_p m92_l m92_c, .slice (SO B7) m10_l m10_c, IV f.lab.unt, .slice none 0 0, IV f.lab.appr, IV f.lab.den, IV f.editor, IV f.block, IV f.sentence, .string f.text, .string f.name, IV f.partner, IV f.cls, IV f.unt]
abbrev fRedactA4 (f : Fct) (m9_p : OA) (m9_l m9_c : Nat) : Array Value := #[IV f.n, IV f.time, IV f.kind, IV f.story, .string f.lang, IV f.rev, IV f.base, .string f.title, .string f.author, .slice m9_p m9_l m9_c, .slice none 0 0, IV f.lab.unt, .slice none 0 0, IV f.lab.appr, IV f.lab.den, IV f.editor, IV f.block, IV f.sentence, .string f.text, .string f.name, IV f.partner, IV f.cls, IV f.unt]
abbrev fRedactA5 : Array Value := #[IV 0, IV 0, IV 0, IV 0, .string (⟨#[]⟩), IV 0, IV 0, .string (⟨#[]⟩), .string (⟨#[]⟩), .slice none 0 0, .slice none 0 0, IV 0, .slice none 0 0, IV 0, IV 0, IV 0, IV 0, IV 0, .string (⟨#[]⟩), .string (⟨#[]⟩), IV 0, IV 0, IV 0]
abbrev fRedactA6 (f : Fct) (ftp : OA) (ftc : Nat) (fbp : OA) (fbc : Nat) (fap : OA) (fac : Nat) : Array Value := ⟨f.cells ftp ftc fbp fbc fap fac⟩
abbrev fRedactA7 (m93_p : OA) (m93_l m93_c : Nat) (m121_p : OA) (m121_l m121_c : Nat) : Array Value := (zF20aa m93_l m93_c m121_l m121_c m93_p m121_p)
abbrev fRedactA8 (f : Fct) (m92_p : OA) (m92_l m92_c B7 m10_l m10_c : Nat) (fap : OA) (fac : Nat) : Array Value := #[IV f.n, IV f.time, IV f.kind, IV f.story, .string f.lang, IV f.rev, IV f.base, .string f.title, .string f.author, .slice m92_p m92_l m92_c, .slice (SO B7) m10_l m10_c, IV f.lab.unt, .slice fap f.lab.after.length fac, IV f.lab.appr, IV f.lab.den, IV f.editor, IV f.block, IV f.sentence, .string f.text, .string f.name, IV f.partner, IV f.cls, IV f.unt]
def fRedact_c0 (f : Fct) (ftp : OA) (ftc : Nat) (fbp : OA) (fbc : Nat) (fap : OA) (fac B4 B5 : Nat) (t27 t28 : Int) (m9_p : OA) (m9_l m9_c : Nat) (m91_p : OA) (m91_l m91_c : Nat) (m12_p : OA) (m12_l m12_c : Nat) (F1 : SHeap) (w0 : World) (R : Ending → World → Prop) : Prop :=
 AtE TP 81 53 (KC Tryz.f81 500) [(1, PP B4), (2, PP B5), (27, IV t27), (28, IV t28)] (fRedactH1 B4 f m9_p m9_l m9_c fap fac B5 m91_p m91_l m91_c m12_p m12_l m12_c F1) [] w0 (nrm R)
def fRedact_c1 (f : Fct) (ftp : OA) (ftc : Nat) (fbp : OA) (fbc : Nat) (fap : OA) (fac B6 B7 B8 : Nat) (t281 : Int) (m92_p : OA) (m92_l m92_c m10_l m10_c : Nat) (cs : List Value) (m93_p : OA) (m93_l m93_c : Nat) (m121_p : OA) (m121_l m121_c : Nat) (F2 : SHeap) (w0 : World) (R : Ending → World → Prop) : Prop :=
 AtE TP 81 53 (KC Tryz.f81 500) [(1, PP B6), (2, PP B8), (27, IV (f.blocks.length : Int)), (28, IV t281)] (fRedactH0 B6 f m92_p m92_l m92_c B7 m10_l m10_c fap fac cs B8 m93_p m93_l m93_c m121_p m121_l m121_c F2) [] w0 (nrm R)
theorem fRedact_c0_vc (f : Fct) (ftp : OA) (ftc : Nat) (fbp : OA) (fbc : Nat) (fap : OA) (fac B4 B5 : Nat) (t27 t28 : Int) (m9_p : OA) (m9_l m9_c : Nat) (m91_p : OA) (m91_l m91_c : Nat) (m12_p : OA) (m12_l m12_c : Nat) (F1 : SHeap)
 (H :
 Br (t28 < t27)
 (False)
 (∃ news3 : List Value, (∀ W, Mem (fRedactH1 B4 f m9_p m9_l m9_c fap fac B5 m91_p m91_l m91_c m12_p m12_l m12_c F1) [] w0 W → Go.Src TP 1 34 (.slice fap f.lab.after.length fac) f.lab.after.length news3 W) ∧
 (f.lab.after.length ≤ 9223372036854775807 ∧ f.lab.after.length * 8 ≤ 140737488355328) ∧ ((f.lab.after.length = 0 →
 Fin R ((B4, .cells (fRedactA4 f m9_p m9_l m9_c) 38) :: (B5, .cells (fRedactA4 f m9_p m9_l m9_c) 38) :: F1) [] w0 (.agg (fRedactA4 f m9_p m9_l m9_c))) ∧
 (0 < f.lab.after.length → ∀ (B10 cap3 : Nat) (r3 : List Value), f.lab.after.length ≤ cap3 → (news3 ++ r3).length = cap3 * 1 →
 Fin R ((B10, .cells ⟨(news3 ++ r3)⟩ 3) :: (B4, .cells (fRedactA2 f m9_p m9_l m9_c B10 cap3) 38) :: (B5, .cells (fRedactA2 f m9_p m9_l m9_c B10 cap3) 38) :: F1) [] w0 (.agg (fRedactA2 f m9_p m9_l m9_c B10 cap3)))))) :
 fRedact_c0 f ftp ftc fbp fbc fap fac B4 B5 t27 t28 m9_p m9_l m9_c m91_p m91_l m91_c m12_p m12_l m12_c F1 w0 R:= by
 unfold fRedact_c0
 refine .ru 5 (.sP 29 H (fun H => ?_) fun H => ?_)
 ·refine .ru 9 (.nm (KC Tryz.f81 16025) [(1, PP B4), (2, PP B5), (3, IV t28), (27, IV t27), (28, IV t28)] (fRedactH1 B4 f m9_p m9_l m9_c fap fac B5 m91_p m91_l m91_c m12_p m12_l m12_c F1) (.dD (.ph 11 [0,1,2,3,4,5,6,7,8,9] [10] [(B4, .cells (zF20ab f m9_l m9_c fac m9_p fap) 38), (B5, .cells (zF20aa m91_l m91_c m12_l m12_c m91_p m12_p) 38)] (.pu (.ld 0 10 (.pu (.pu (.ld 0 10 ?_))))))))
  exact H.elim
 ·refine .ru 6 (.ld 0 12 ?_)
  obtain ⟨news3, hsrc, H⟩ := H
  refine .appendS (T := 34) (U := 34) (E := 3) (z := IV 0) (sz := 1) (bytes := 8) (x := .slice fap f.lab.after.length fac) f.lab.after.length news3 (by kernel_rfl) hsrc H.1 (fun h0 => ?_) (fun h0 B10 cap3 r3 h1 h2 => ?_)
  ·replace H := H.2.1 h0
   refine .ru 2 (.store 0 12 (T := 34) (v := .slice none 0 0) (by kernel_rfl) (.ru 3 (.ld 0 0 (.store 1 0 (T := 38) (v := .agg (fRedactA4 f m9_p m9_l m9_c)) (by kernel_rfl) (.ru 1 (.retC 1 0 (a := 2) (T := 38) (v := .agg (fRedactA4 f m9_p m9_l m9_c)) Tryz.func81 (by kernel_rfl) (by kernel_rfl) H))))))
  ·skip
   replace H := H.2.2 h0 B10 cap3 r3 h1 h2
   refine .front (.ru 2 (.store 1 12 (T := 34) (v := .slice (SO B10) f.lab.after.length cap3) (by kernel_rfl) (.ru 3 (.ld 1 0 (.store 2 0 (T := 38) (v := .agg (fRedactA2 f m9_p m9_l m9_c B10 cap3)) (by kernel_rfl) (.ru 1 (.retC 2 0 (a := 2) (T := 38) (v := .agg (fRedactA2 f m9_p m9_l m9_c B10 cap3)) Tryz.func81 (by kernel_rfl) (by kernel_rfl) H)))))))
theorem fRedact_c1_vc (f : Fct) (ftp : OA) (ftc : Nat) (fbp : OA) (fbc : Nat) (fap : OA) (fac B6 B7 B8 : Nat) (t281 : Int) (m92_p : OA) (m92_l m92_c m10_l m10_c : Nat) (cs : List Value) (m93_p : OA) (m93_l m93_c : Nat) (m121_p : OA) (m121_l m121_c : Nat) (F2 : SHeap)
 (H :
 Br (t281 < (f.blocks.length : Int))
 ((0 ≤ t281 ∧ t281 < m10_l) ∧
 ∃ (m1_p : OA) (m1_l : Nat) (m1_c : Nat), (cs)[((((Int.toNat t281) * 9) + 5) + 1)]? = some (.slice m1_p m1_l m1_c) ∧
 ∃ news4 : List Value, (∀ W, Mem (fRedactH0 B6 f m92_p m92_l m92_c B7 m10_l m10_c fap fac cs B8 m93_p m93_l m93_c m121_p m121_l m121_c F2) [] w0 W → Go.Src TP 1 34 (.slice m1_p m1_l m1_c) m1_l news4 W) ∧
 (m1_l ≤ 9223372036854775807 ∧ m1_l * 8 ≤ 140737488355328) ∧ ((m1_l = 0 →
 (0 ≤ t281 ∧ t281 < m10_l) ∧
 (((((Int.toNat t281) * 9) + 5) + 1) < (cs).length) ∧
 fRedact_c1 f ftp ftc fbp fbc fap fac B6 B7 B8 (IntKind.i64.wrap (t281 + (1 : Int))) m92_p m92_l m92_c m10_l m10_c ((cs).set ((((Int.toNat t281) * 9) + 5) + 1) (.slice none 0 0)) m93_p m93_l m93_c m121_p m121_l m121_c F2 w0 R) ∧
 (0 < m1_l → ∀ (B11 cap4 : Nat) (r4 : List Value), m1_l ≤ cap4 → (news4 ++ r4).length = cap4 * 1 →
 (0 ≤ t281 ∧ t281 < m10_l) ∧
 (((((Int.toNat t281) * 9) + 5) + 1) < (cs).length) ∧
 fRedact_c1 f ftp ftc fbp fbc fap fac B6 B7 B8 (IntKind.i64.wrap (t281 + (1 : Int))) m92_p m92_l m92_c m10_l m10_c ((cs).set ((((Int.toNat t281) * 9) + 5) + 1) (.slice (SO B11) m1_l cap4)) m93_p m93_l m93_c m121_p m121_l m121_c ((B11, .cells ⟨(news4 ++ r4)⟩ 3) :: F2) w0 R)))
 (∃ news5 : List Value, (∀ W, Mem (fRedactH0 B6 f m92_p m92_l m92_c B7 m10_l m10_c fap fac cs B8 m93_p m93_l m93_c m121_p m121_l m121_c F2) [] w0 W → Go.Src TP 1 34 (.slice fap f.lab.after.length fac) f.lab.after.length news5 W) ∧
 (f.lab.after.length ≤ 9223372036854775807 ∧ f.lab.after.length * 8 ≤ 140737488355328) ∧ ((f.lab.after.length = 0 →
 Fin R ((B6, .cells (fRedactA3 f m92_p m92_l m92_c B7 m10_l m10_c) 38) :: (B7, .cells ⟨cs⟩ 149) :: (B8, .cells (fRedactA3 f m92_p m92_l m92_c B7 m10_l m10_c) 38) :: F2) [] w0 (.agg (fRedactA3 f m92_p m92_l m92_c B7 m10_l m10_c))) ∧
 (0 < f.lab.after.length → ∀ (B12 cap5 : Nat) (r5 : List Value), f.lab.after.length ≤ cap5 → (news5 ++ r5).length = cap5 * 1 →
 Fin R ((B12, .cells ⟨(news5 ++ r5)⟩ 3) :: (B6, .cells (fRedactA1 f m92_p m92_l m92_c B7 m10_l m10_c B12 cap5) 38) :: (B7, .cells ⟨cs⟩ 149) :: (B8, .cells (fRedactA1 f m92_p m92_l m92_c B7 m10_l m10_c B12 cap5) 38) :: F2) [] w0 (.agg (fRedactA1 f m92_p m92_l m92_c B7 m10_l m10_c B12 cap5)))))) :
 fRedact_c1 f ftp ftc fbp fbc fap fac B6 B7 B8 t281 m92_p m92_l m92_c m10_l m10_c cs m93_p m93_l m93_c m121_p m121_l m121_c F2 w0 R:= by
 unfold fRedact_c1
 refine .ru 5 (.sP 29 H (fun H => ?_) fun H => ?_)
 ·refine .ru 9 (.nm (KC Tryz.f81 16025) [(1, PP B6), (2, PP B8), (3, IV t281), (27, IV (f.blocks.length : Int)), (28, IV t281)] (fRedactH0 B6 f m92_p m92_l m92_c B7 m10_l m10_c fap fac cs B8 m93_p m93_l m93_c m121_p m121_l m121_c F2) (.dD (.ph 11 [0,1,2,3,4,5,6,7,8,9] [10] [(B6, .cells (fRedactA8 f m92_p m92_l m92_c B7 m10_l m10_c fap fac) 38), (B7, .cells ⟨cs⟩ 149), (B8, .cells (fRedactA7 m93_p m93_l m93_c m121_p m121_l m121_c) 38)] (.pu (.ld 0 10 (.pu (.pu (.ld 0 10 (.pu (.indexAddrL (E := 149) (b := B7) (o := 0) (len := m10_l) (cap := m10_c) (sz := 9) (o' := ((Int.toNat t281) * 9)) (kd := .i64) (i := t281) (by kernel_rfl) H.1 (by omega) ?_))))))))))
  replace H := H.2
  refine .pu (.pu ?_)
  obtain ⟨m1_p, m1_l, m1_c, hx, H⟩ := H
  refine .loadS 1 (off := ((((Int.toNat t281) * 9) + 5) + 1)) (T := 34) (v := .slice m1_p m1_l m1_c) (by kernel_rfl) (valAt_one hx (by kernel_rfl)) (.dn ?_)
  obtain ⟨news4, hsrc, H⟩ := H
  refine .appendS _ (T := 34) (U := 34) (E := 3) (z := IV 0) (sz := 1) (bytes := 8) (x := .slice m1_p m1_l m1_c) m1_l news4 rfl (by kernel_rfl) hsrc H.1 (fun h0 => ?_) (fun h0 B11 cap4 r4 h1 h2 => ?_)
  ·replace H := H.2.1 h0
   refine .dn (.nm [(1, PP B6), (2, PP B8), (27, IV (f.blocks.length : Int)), (28, IV t281), (32, .slice (SO B7) m10_l m10_c), (33, IV t281), (41, .slice none 0 0)] (fRedactH0 B6 f m92_p m92_l m92_c B7 m10_l m10_c fap fac cs B8 m93_p m93_l m93_c m121_p m121_l m121_c F2) (.tl (.indexAddrL (E := 149) (b := B7) (o := 0) (len := m10_l) (cap := m10_c) (sz := 9) (o' := ((Int.toNat t281) * 9)) (kd := .i64) (i := t281) (by kernel_rfl) H.1 (by omega) ?_)))
   replace H := H.2
   refine .ru 2 (.storeS 1 (off := ((((Int.toNat t281) * 9) + 5) + 1)) (lo := 0) (hi := 0) (T := 34) (v := .slice none 0 0) (c := cs) (by kernel_rfl) H.1 (.inr (Nat.zero_le _)) ?_)
   replace H := H.2
   refine .ru 7 (.tT [0,1,2] 3 H)
  ·skip
   replace H := H.2.2 h0 B11 cap4 r4 h1 h2
   refine .dn (.front (.nm [(1, PP B6), (2, PP B8), (27, IV (f.blocks.length : Int)), (28, IV t281), (32, .slice (SO B7) m10_l m10_c), (33, IV t281), (41, .slice (SO B11) m1_l cap4)] ((B11, .cells ⟨(news4 ++ r4)⟩ 3) :: (B6, .cells (fRedactA8 f m92_p m92_l m92_c B7 m10_l m10_c fap fac) 38) :: (B7, .cells ⟨cs⟩ 149) :: (B8, .cells (fRedactA7 m93_p m93_l m93_c m121_p m121_l m121_c) 38) :: F2) (.tl (.indexAddrL (E := 149) (b := B7) (o := 0) (len := m10_l) (cap := m10_c) (sz := 9) (o' := ((Int.toNat t281) * 9)) (kd := .i64) (i := t281) (by kernel_rfl) H.1 (by omega) ?_))))
   replace H := H.2
   refine .ru 2 (.storeS 2 (off := ((((Int.toNat t281) * 9) + 5) + 1)) (lo := 0) (hi := 0) (T := 34) (v := .slice (SO B11) m1_l cap4) (c := cs) (by kernel_rfl) H.1 (.inr (Nat.zero_le _)) ?_)
   replace H := H.2
   refine .ru 7 (.tT [1,2,3,0] 4 H)
 ·refine .ru 6 (.ld 0 12 ?_)
  obtain ⟨news5, hsrc, H⟩ := H
  refine .appendS (T := 34) (U := 34) (E := 3) (z := IV 0) (sz := 1) (bytes := 8) (x := .slice fap f.lab.after.length fac) f.lab.after.length news5 (by kernel_rfl) hsrc H.1 (fun h0 => ?_) (fun h0 B12 cap5 r5 h1 h2 => ?_)
  ·replace H := H.2.1 h0
   refine .ru 2 (.store 0 12 (T := 34) (v := .slice none 0 0) (by kernel_rfl) (.ru 3 (.ld 0 0 (.store 2 0 (T := 38) (v := .agg (fRedactA3 f m92_p m92_l m92_c B7 m10_l m10_c)) (by kernel_rfl) (.ru 1 (.retC 2 0 (a := 2) (T := 38) (v := .agg (fRedactA3 f m92_p m92_l m92_c B7 m10_l m10_c)) Tryz.func81 (by kernel_rfl) (by kernel_rfl) H))))))
  ·skip
   replace H := H.2.2 h0 B12 cap5 r5 h1 h2
   refine .front (.ru 2 (.store 1 12 (T := 34) (v := .slice (SO B12) f.lab.after.length cap5) (by kernel_rfl) (.ru 3 (.ld 1 0 (.store 3 0 (T := 38) (v := .agg (fRedactA1 f m92_p m92_l m92_c B7 m10_l m10_c B12 cap5)) (by kernel_rfl) (.ru 1 (.retC 3 0 (a := 2) (T := 38) (v := .agg (fRedactA1 f m92_p m92_l m92_c B7 m10_l m10_c B12 cap5)) Tryz.func81 (by kernel_rfl) (by kernel_rfl) H)))))))
theorem fRedact_vc (f : Fct) (ftp : OA) (ftc : Nat) (fbp : OA) (fbc : Nat) (fap : OA) (fac : Nat) (F : SHeap) (hm : Mem (F) [] w0 W)
 (H :
 ∀ B B1 : Nat,
 Br (f.kind = 1)
 (Fin R (fRedactH2 B1 f B ftp ftc fbp fbc fap fac F) [] w0 (.agg (fRedactA0 f)))
 (Br (f.kind = 4)
 (Fin R (fRedactH2 B1 f B ftp ftc fbp fbc fap fac F) [] w0 (.agg (fRedactA0 f)))
 (Br (f.kind = 5)
 (Fin R (fRedactH2 B1 f B ftp ftc fbp fbc fap fac F) [] w0 (.agg (fRedactA0 f)))
 (∃ news : List Value, (∀ W, Mem ((B1, .cells fRedactA5 38) :: (B, .cells (fRedactA6 f ftp ftc fbp fbc fap fac) 38) :: F) [] w0 W → Go.Src TP 1 32 (.slice ftp f.topics.length ftc) f.topics.length news W) ∧
 (f.topics.length ≤ 9223372036854775807 ∧ f.topics.length * 16 ≤ 140737488355328) ∧ ((f.topics.length = 0 →
 ∃ news1 : List Value, (∀ W, Mem ((B1, .cells fRedactA5 38) :: (B, .cells #[IV f.n, IV f.time, IV f.kind, IV f.story, .string f.lang, IV f.rev, IV f.base, .string f.title, .string f.author, .slice none 0 0, .slice fbp f.blocks.length fbc, IV f.lab.unt, .slice fap f.lab.after.length fac, IV f.lab.appr, IV f.lab.den, IV f.editor, IV f.block, IV f.sentence, .string f.text, .string f.name, IV f.partner, IV f.cls, IV f.unt] 38) :: F) [] w0 W → Go.Src TP 9 33 (.slice fbp f.blocks.length fbc) f.blocks.length news1 W) ∧
 (f.blocks.length ≤ 9223372036854775807 ∧ f.blocks.length * 96 ≤ 140737488355328) ∧ ((f.blocks.length = 0 →
 fRedact_c0 f ftp ftc fbp fbc fap fac B B1 (0 : Int) (0 : Int) none 0 0 none 0 0 none 0 0 F w0 R) ∧
 (0 < f.blocks.length → ∀ (B3 cap1 : Nat) (r1 : List Value), f.blocks.length ≤ cap1 → (news1 ++ r1).length = cap1 * 9 →
 fRedact_c1 f ftp ftc fbp fbc fap fac B B3 B1 (0 : Int) none 0 0 f.blocks.length cap1 (news1 ++ r1) none 0 0 none 0 0 F w0 R))) ∧
 (0 < f.topics.length → ∀ (B2 cap : Nat) (r : List Value), f.topics.length ≤ cap → (news ++ r).length = cap * 1 →
 ∃ news2 : List Value, (∀ W, Mem ((B2, .cells ⟨(news ++ r)⟩ 9) :: (B1, .cells fRedactA5 38) :: (B, .cells #[IV f.n, IV f.time, IV f.kind, IV f.story, .string f.lang, IV f.rev, IV f.base, .string f.title, .string f.author, .slice (SO B2) f.topics.length cap, .slice fbp f.blocks.length fbc, IV f.lab.unt, .slice fap f.lab.after.length fac, IV f.lab.appr, IV f.lab.den, IV f.editor, IV f.block, IV f.sentence, .string f.text, .string f.name, IV f.partner, IV f.cls, IV f.unt] 38) :: F) [] w0 W → Go.Src TP 9 33 (.slice fbp f.blocks.length fbc) f.blocks.length news2 W) ∧
 (f.blocks.length ≤ 9223372036854775807 ∧ f.blocks.length * 96 ≤ 140737488355328) ∧ ((f.blocks.length = 0 →
 fRedact_c0 f ftp ftc fbp fbc fap fac B B1 (0 : Int) (0 : Int) (SO B2) f.topics.length cap none 0 0 none 0 0 ((B2, .cells ⟨(news ++ r)⟩ 9) :: F) w0 R) ∧
 (0 < f.blocks.length → ∀ (B9 cap2 : Nat) (r2 : List Value), f.blocks.length ≤ cap2 → (news2 ++ r2).length = cap2 * 9 →
 fRedact_c1 f ftp ftc fbp fbc fap fac B B9 B1 (0 : Int) (SO B2) f.topics.length cap f.blocks.length cap2 (news2 ++ r2) none 0 0 none 0 0 ((B2, .cells ⟨(news ++ r)⟩ 9) :: F) w0 R)))))))) :
 Calls TP 81 ⟨[.agg (fRedactA6 f ftp ftc fbp fbc fap fac)]⟩ W R:= by
 refine AtE.cs 53 Tryz.func81 hm (.ru 2 (.nH (.cells (fRedactA6 f ftp ftc fbp fbc fap fac) 38) H fun B H => (.front (.nH (.cells fRedactA5 38) H fun B1 H => (.front (.ru 5 (.ld 1 2 (.ru 8 (.sP 6 H (fun H => ?_) fun H => ?_)))))))))
 ·refine .ru 6 (.ld 1 0 (.ru 1 (.ld 1 1 (.ru 1 (.ld 1 3 (.ru 1 (.store 0 0 (T := 38) (v := .agg (fRedactA0 f)) (by kernel_rfl) (.ru 1 (.retC 0 0 (a := 2) (T := 38) (v := .agg (fRedactA0 f)) Tryz.func81 (by kernel_rfl) (by kernel_rfl) H)))))))))
 ·refine .ru 6 (.sP 6 H (fun H => ?_) fun H => ?_)
  ·refine .ru 6 (.ld 1 0 (.ru 1 (.ld 1 1 (.ru 1 (.ld 1 3 (.ru 1 (.store 0 0 (T := 38) (v := .agg (fRedactA0 f)) (by kernel_rfl) (.ru 1 (.retC 0 0 (a := 2) (T := 38) (v := .agg (fRedactA0 f)) Tryz.func81 (by kernel_rfl) (by kernel_rfl) H)))))))))
  ·refine .ru 5 (.sP 6 H (fun H => ?_) fun H => ?_)
   ·refine .ru 4 (.ld 1 0 (.ru 1 (.ld 1 1 (.ru 1 (.ld 1 3 (.ru 1 (.store 0 0 (T := 38) (v := .agg (fRedactA0 f)) (by kernel_rfl) (.ru 1 (.retC 0 0 (a := 2) (T := 38) (v := .agg (fRedactA0 f)) Tryz.func81 (by kernel_rfl) (by kernel_rfl) H)))))))))
   ·refine .ru 6 (.ld 1 9 ?_)
    obtain ⟨news, hsrc, H⟩ := H
    refine .appendS (T := 32) (U := 32) (E := 9) (z := .string (⟨#[]⟩)) (sz := 1) (bytes := 16) (x := .slice ftp f.topics.length ftc) f.topics.length news (by kernel_rfl) hsrc H.1 (fun h0 => ?_) (fun h0 B2 cap r h1 h2 => ?_)
    ·replace H := H.2.1 h0
     refine .ru 1 (.store 1 9 (T := 32) (v := .slice none 0 0) (by kernel_rfl) (.ru 4 (.ld 1 10 ?_)))
     obtain ⟨news1, hsrc, H⟩ := H
     refine .appendS (T := 33) (U := 33) (E := 149) (z := .agg #[IV 0, IV 0, .string (⟨#[]⟩), IV 0, IV 0, IV 0, .slice none 0 0, IV 0, IV 0]) (sz := 9) (bytes := 96) (x := .slice fbp f.blocks.length fbc) f.blocks.length news1 (by kernel_rfl) hsrc H.1 (fun h0 => ?_) (fun h0 B3 cap1 r1 h1 h2 => ?_)
     ·replace H := H.2.1 h0
      refine .ru 1 (.store 1 10 (T := 33) (v := .slice none 0 0) (by kernel_rfl) (.ru 5 (.ld 1 10 (.ru 5 (.tT [1,0] 2 H)))))
     ·skip
      replace H := H.2.2 h0 B3 cap1 r1 h1 h2
      refine .front (.ru 1 (.store 2 10 (T := 33) (v := .slice (SO B3) f.blocks.length cap1) (by kernel_rfl) (.ru 5 (.ld 2 10 (.ru 5 (.tT [2,0,1] 3 H))))))
    ·skip
     replace H := H.2.2 h0 B2 cap r h1 h2
     refine .front (.ru 1 (.store 2 9 (T := 32) (v := .slice (SO B2) f.topics.length cap) (by kernel_rfl) (.ru 4 (.ld 2 10 ?_))))
     obtain ⟨news2, hsrc, H⟩ := H
     refine .appendS (T := 33) (U := 33) (E := 149) (z := .agg #[IV 0, IV 0, .string (⟨#[]⟩), IV 0, IV 0, IV 0, .slice none 0 0, IV 0, IV 0]) (sz := 9) (bytes := 96) (x := .slice fbp f.blocks.length fbc) f.blocks.length news2 (by kernel_rfl) hsrc H.1 (fun h0 => ?_) (fun h0 B9 cap2 r2 h1 h2 => ?_)
     ·replace H := H.2.1 h0
      refine .ru 1 (.store 2 10 (T := 33) (v := .slice none 0 0) (by kernel_rfl) (.ru 5 (.ld 2 10 (.ru 5 (.tT [2,1,0] 3 H)))))
     ·skip
      replace H := H.2.2 h0 B9 cap2 r2 h1 h2
      refine .front (.ru 1 (.store 3 10 (T := 33) (v := .slice (SO B9) f.blocks.length cap2) (by kernel_rfl) (.ru 5 (.ld 3 10 (.ru 5 (.tT [3,0,2,1] 4 H))))))
theorem CallH.addF (told : SHeap) {F : SHeap} (h : EffC P g args [] K) (hK : ∀ v F', K v F' → K' v (told ++ (F' ++ F))) : CallH P g args (told ++ F) S w0 K' :=
 CallH.eff (L1 := told ++ F) h (List.Perm.refl _) fun v L' hk => ⟨told ++ (L' ++ F), List.perm_append_comm_assoc _ _ _, hK v L' hk⟩
theorem enc_ok {f : Fct} (h : f.ok = true) : encFAns f = .tuple #[.string (ba (encF f)), .int .i64 0] := if_pos h
def goneF (f : Fct) : Fct := ⟨f.n, f.time, 10, f.story, e0, 0, 0, e0, e0, [], [], Lab.zero, 0, 0, 0, e0, e0, 0, 0, 0⟩
def aboutB (k : Int) : Bool := decide (k = 1 ∨ k = 4 ∨ k = 5)
theorem goneAt {f : Fct} : FAt lk (goneF f) none 0 none 0 none 0 := noLists rfl rfl rfl ⟨e0_sz, e0_sz, e0_sz, e0_sz, e0_sz⟩
def RedG (f : Fct) (v : Value) (F : SHeap) : Prop := v = .agg ⟨(goneF f).cells none 0 none 0 none 0⟩
theorem gone_e {f : Fct} (hk : aboutB f.kind = true) : EffC TP 81 ⟨[.agg ⟨f.cells tp tc bp bc ap ac⟩]⟩ [] (RedG f) := by
 intro W hm
 have hk := of_decide_eq_true hk
 refine fRedact_vc f tp tc bp bc ap ac [] hm fun B B1 => ⟨fun _ => ?_, fun h1 => ⟨fun _ => ?_, fun h2 => ⟨fun _ => ?_, fun h3 => absurd hk (by omega)⟩⟩⟩
 all_goals exact fun W' hm' => ⟨_, _, rfl, hm', rfl⟩
def BlkLc (lk : Lk) (cs : List Value) (b : Blk) : Prop := ∃ p c, cs = b.cells p c ∧ IntsL lk p b.lab.after ∧ b.Fits ∧ b.lab.after.length ≤ c
structure FArg (lk : Lk) (f : Fct) (tp : OA) (tc : Nat) (bp : OA) (bc : Nat) (ap : OA) (ac : Nat) : Prop where
 tops : StrsL lk tp f.topics
 blks : SlAt lk 9 (BlkLc lk) bp f.blocks
 ints : IntsL lk ap f.lab.after
 ct : f.topics.length ≤ tc
 cb : f.blocks.length ≤ bc
 ca : f.lab.after.length ≤ ac
 fits : f.Fits
def cutT (s : BA) (n : Nat) : BA := s.extract 0 (min s.size n)
theorem cutT_size (s : BA) (n : Nat) : (cutT s n).size = min n s.size := by
 rw [cutT, ByteArray.size_extract]; omega
theorem cut_if {s : BA} {n : Nat} {i : Int} (hi : i = (n : Int)) : s.extract 0 (Int.toNat (if i < (s.size : Int) then i else (s.size : Int))) = cutT s n := by
 subst hi
 have : Int.toNat (if (n : Int) < (s.size : Int) then (n : Int) else (s.size : Int)) = min s.size n := by split <;> omega
 rw [this, cutT]
def BRowL (lk : Lk) (cs : List Value) (l : List Blk) : Prop := ∀ i (h : i < l.length), i * 9 + 9 ≤ cs.length ∧ BlkL lk ((cs.drop (i * 9)).take 9) l[i]
def FewOut (lk : Lk) (r : Fct) (v : Value) (F : SHeap) : Prop := ∃ tp tc bp bc ap ac, v = .agg ⟨r.cells tp tc bp bc ap ac⟩ ∧ FAt (lkU F lk) r tp tc bp bc ap ac
theorem cells_one (b : Blk) (p : OA) (c : Nat) : ∀ u ∈ b.cells p c, u.oneCell' = true := by
 intro u hu
 simp only [List.mem_cons, List.not_mem_nil, or_false] at hu
 rcases hu with rfl | rfl | rfl | rfl | rfl | rfl | rfl | rfl | rfl <;> rfl
theorem take_rows {c : List Value} {o n : Nat} : (c.drop o).take ((n + 1) * 9) = (c.drop o).take (n * 9) ++ (c.drop (o + n * 9)).take 9 := by
 rw [show (n + 1) * 9 = n * 9 + 9 by omega, List.take_add, List.drop_drop]
theorem rows_one {c : List Value} {o : Nat} {l : List Blk} (h : ∀ i (h : i < l.length), o + i * 9 + 9 ≤ c.length ∧ BlkL lk ((c.drop (o + i * 9)).take 9) l[i]) : ∀ n, n ≤ l.length → ∀ u ∈ (c.drop o).take (n * 9), u.oneCell' = true
 | 0, _, u, hu => by simp at hu
 | n + 1, hn, u, hu => by
  rw [take_rows] at hu
  rcases List.mem_append.1 hu with h1 | h1
  ·exact rows_one h n (by omega) u h1
  ·obtain ⟨p, c', e, _, _⟩ := (h n (by omega)).2
   rw [e] at h1
   exact cells_one _ _ _ u h1
theorem cell_lk {b : Nat} {c : List Value} (h : lkW W b c) (o : Nat) : W.cell? ⟨b, o, none⟩ = c[o]? := by
 unfold lkW blkW at h
 split at h
 ·next c' t fz hh =>
  have hc : c'.toList = c := by simpa using h
  rw [cell_of_heap (c := c'.toList) (t := t) (fz := fz) (by simpa using hh), hc]
 ·cases h
theorem src_lk {L : SHeap} {b o : Nat} {c news : List Value} (h : ∀ W, Mem L [] w0 W → lkW W b c) (hn : ∀ i, i < news.length → c[o + i]? = news[i]?) : Src L [] w0 ⟨b, o, none⟩ news := by
 intro W hm i u hi
 have hlt := (List.getElem?_eq_some_iff.1 hi).1
 rw [addr_add, cell_lk (h W hm), hn i hlt, hi]
theorem src_ints {L : SHeap} {w0 : World} {lk : Lk} {p : OA} {c : Nat} {l : List Int} (h : IntsL lk p l) (hlk : ∀ W, Mem L [] w0 W → ∀ b c, lk b c → lkW W b c) : ∀ W, Mem L [] w0 W → Go.Src TP 1 34 (.slice p l.length c) l.length (l.map (.int .i64)) W := by
 have h1 : ∀ u ∈ l.map (Value.int .i64), u.oneCell' = true := fun u hu => by obtain ⟨n, _, rfl⟩ := List.mem_map.1 hu; rfl
 rcases Nat.eq_zero_or_pos l.length with h0 | hpos
 ·have : l = [] := List.length_eq_zero_iff.1 h0
  subst this
  cases p with
  | none => exact srcNil (E' := 3) (by kernel_rfl)
  | some a => exact srcSl (E' := 3) (by kernel_rfl) (Src.nil a) rfl h1
 ·obtain ⟨b, o, cs, rfl, h2, h3⟩ := h hpos
  exact srcSl (E' := 3) (by kernel_rfl) (src_lk (fun W hm => hlk W hm _ _ h2) fun i hi => by rw [List.length_map] at hi; rw [h3 i hi, List.getElem?_map, List.getElem?_eq_getElem hi]; rfl) (by simp) h1
theorem src_strs {L : SHeap} {w0 : World} {lk : Lk} {p : OA} {c : Nat} {l : List BA} (h : StrsL lk p l) (hlk : ∀ W, Mem L [] w0 W → ∀ b c, lk b c → lkW W b c) : ∀ W, Mem L [] w0 W → Go.Src TP 1 32 (.slice p l.length c) l.length (l.map .string) W := by
 have h1 : ∀ u ∈ l.map Value.string, u.oneCell' = true := fun u hu => by obtain ⟨n, _, rfl⟩ := List.mem_map.1 hu; rfl
 rcases Nat.eq_zero_or_pos l.length with h0 | hpos
 ·have : l = [] := List.length_eq_zero_iff.1 h0
  subst this
  cases p with
  | none => exact srcNil (E' := 9) (by kernel_rfl)
  | some a => exact srcSl (E' := 9) (by kernel_rfl) (Src.nil a) rfl h1
 ·obtain ⟨b, o, cs, rfl, h2, h3⟩ := h hpos
  exact srcSl (E' := 9) (by kernel_rfl) (src_lk (fun W hm => hlk W hm _ _ h2) fun i hi => by rw [List.length_map] at hi; rw [h3 i hi, List.getElem?_map, List.getElem?_eq_getElem hi]; rfl) (by simp) h1
theorem src_blks {L : SHeap} {w0 : World} {lk : Lk} {p : OA} {c : Nat} {l : List Blk} (h : BlksL lk p l) (hlk : ∀ W, Mem L [] w0 W → ∀ b c, lk b c → lkW W b c) :
  ∃ news, (∀ W, Mem L [] w0 W → Go.Src TP 9 33 (.slice p l.length c) l.length news W) ∧ news.length = l.length * 9 ∧ BRowL lk news l := by
 rcases Nat.eq_zero_or_pos l.length with h0 | hpos
 ·have : l = [] := List.length_eq_zero_iff.1 h0
  subst this
  refine ⟨[], ?_, rfl, fun i hi => absurd hi (by simp)⟩
  cases p with
  | none => exact srcNil (E' := 149) (by kernel_rfl)
  | some a => exact srcSl (E' := 149) (by kernel_rfl) (Src.nil a) rfl (fun u hu => absurd hu (by simp))
 ·obtain ⟨b, o, cs, rfl, h2, h3⟩ := h hpos
  have hend := (h3 (l.length - 1) (by omega)).1
  have hlen : ((cs.drop o).take (l.length * 9)).length = l.length * 9 := by rw [List.length_take, List.length_drop]; omega
  refine ⟨(cs.drop o).take (l.length * 9), srcSl (E' := 149) (by kernel_rfl) (src_lk (fun W hm => hlk W hm _ _ h2) fun i hi => ?_) hlen (rows_one h3 l.length (Nat.le_refl _)), hlen, fun i hi => ⟨by rw [hlen]; omega, ?_⟩⟩
  ·rw [hlen] at hi
   rw [List.getElem?_take_of_lt hi, List.getElem?_drop]
  ·have : (((cs.drop o).take (l.length * 9)).drop (i * 9)).take 9 = (cs.drop (o + i * 9)).take 9 := by
    rw [List.drop_take, List.drop_drop, List.take_take, Nat.min_eq_left (by omega)]
   rw [this]
   exact (h3 i hi).2
theorem BRowL.mono {lk lk' : Lk} {cs : List Value} {l : List Blk} (h : BRowL lk cs l) (hl : ∀ b c, lk b c → lk' b c) : BRowL lk' cs l := fun i hi => ⟨(h i hi).1, (h i hi).2.mono hl⟩
theorem BRowL.app0 {cs r : List Value} {l : List Blk} (h : BRowL lk cs l) : BRowL lk (cs ++ r) l := by
 intro i hi
 have := (h i hi).1
 refine ⟨by rw [List.length_append]; omega, ?_⟩
 rw [List.drop_append_of_le_length (by omega), List.take_append_of_le_length (by rw [List.length_drop]; omega)]
 exact (h i hi).2
theorem row_set_ne {cs : List Value} {k j : Nat} {v : Value} (h : k < j * 9 ∨ j * 9 + 9 ≤ k) : ((cs.set k v).drop (j * 9)).take 9 = (cs.drop (j * 9)).take 9 := by
 apply List.ext_getElem?
 intro q
 by_cases hq : q < 9
 ·rw [List.getElem?_take_of_lt hq, List.getElem?_take_of_lt hq, List.getElem?_drop, List.getElem?_drop, List.getElem?_set_ne (by omega)]
 ·rw [List.getElem?_eq_none (by rw [List.length_take]; omega), List.getElem?_eq_none (by rw [List.length_take]; omega)]
theorem row_get {cs : List Value} {i q : Nat} (hq : q < 9) {r : List Value} (e : (cs.drop (i * 9)).take 9 = r) : cs[i * 9 + q]? = r[q]? := by
 rw [← e, List.getElem?_take_of_lt hq, List.getElem?_drop]
theorem row_set_eq {cs : List Value} {i : Nat} {b : Blk} {p p' : OA} {c c' : Nat} (h : i * 9 + 9 ≤ cs.length) (e : (cs.drop (i * 9)).take 9 = b.cells p c) : ((cs.set (i * 9 + 5 + 1) (.slice p' b.lab.after.length c')).drop (i * 9)).take 9 = b.cells p' c' := by
 apply List.ext_getElem?
 intro q
 by_cases hq : q < 9
 ·rw [List.getElem?_take_of_lt hq, List.getElem?_drop]
  have hg := row_get hq e
  have : q = 0 ∨ q = 1 ∨ q = 2 ∨ q = 3 ∨ q = 4 ∨ q = 5 ∨ q = 6 ∨ q = 7 ∨ q = 8 := by omega
  rcases this with rfl | rfl | rfl | rfl | rfl | rfl | rfl | rfl | rfl
  case inr.inr.inr.inr.inr.inr.inl => rw [show i * 9 + 5 + 1 = i * 9 + 6 from rfl, List.getElem?_set_self (by omega)]; rfl
  all_goals (rw [List.getElem?_set_ne (by omega), hg]; rfl)
 ·rw [List.getElem?_eq_none (by rw [List.length_take]; omega), List.getElem?_eq_none (by simp; omega)]
theorem BRowL.set {lk lk' : Lk} {cs : List Value} {l : List Blk} {i : Nat} {p' : OA} {c' : Nat} (h : BRowL lk cs l) (hi : i < l.length) (hl : ∀ b c, lk b c → lk' b c) (hp : IntsL lk' p' l[i].lab.after) : BRowL lk' (cs.set (i * 9 + 5 + 1) (.slice p' l[i].lab.after.length c')) l := by
 intro j hj
 obtain ⟨h1, p, c, e, h2, h3⟩ := h j hj
 refine ⟨by rw [List.length_set]; exact h1, ?_⟩
 by_cases hji : j = i
 ·subst hji
  exact ⟨p', c', row_set_eq h1 e, hp, h3⟩
 ·refine ⟨p, c, ?_, h2.mono hl, h3⟩
  rw [row_set_ne (by omega)]
  exact e
def redF (f : Fct) : Fct := if aboutB f.kind = true then goneF f else f
structure Fct.Small (f : Fct) : Prop where
 tops : f.topics.length ≤ 100
 blks : f.blocks.length ≤ 100
 ints : f.lab.after.length ≤ 100
 each : ∀ b ∈ f.blocks, b.lab.after.length ≤ 100
theorem ints_new {F : SHeap} {B : Nat} {l : List Int} {r : List Value} {t : TypeId} {fz : Nat × Nat} (h : (B, Obj.cells ⟨l.map (.int .i64) ++ r⟩ t fz) ∈ F) : IntsL (lkU F lk) (SO B) l :=
 fun _ => ⟨B, 0, _, rfl, .inl ⟨t, fz, h⟩, fun i hi => by rw [Nat.zero_add, List.getElem?_append_left (by rw [List.length_map]; exact hi), List.getElem?_map, List.getElem?_eq_getElem hi]; rfl⟩
theorem strs_new {F : SHeap} {B : Nat} {l : List BA} {r : List Value} {t : TypeId} {fz : Nat × Nat} (h : (B, Obj.cells ⟨l.map .string ++ r⟩ t fz) ∈ F) : StrsL (lkU F lk) (SO B) l :=
 fun _ => ⟨B, 0, _, rfl, .inl ⟨t, fz, h⟩, fun i hi => by rw [Nat.zero_add, List.getElem?_append_left (by rw [List.length_map]; exact hi), List.getElem?_map, List.getElem?_eq_getElem hi]; rfl⟩
theorem lkU_mono {F F' : SHeap} (h : ∀ x ∈ F, x ∈ F') : ∀ b c, lkU F lk b c → lkU F' lk b c := by
 rintro b c (hb | hb)
 ·exact .inl (lkF_mono h b c hb)
 ·exact .inr hb
theorem lkU_in {F L : SHeap} (hlk : ∀ b c, lk b c → lkW w0 b c) (hm : Mem L [] w0 W) (h : ∀ x ∈ F, x ∈ L) : ∀ b c, lkU F lk b c → lkW W b c := by
 rintro b c (hb | hb)
 ·exact lkF_W hm h b c hb
 ·exact lkW_kept hm b c (hlk b c hb)
theorem ints_zero {p : OA} {l : List Int} (h : l.length = 0) : IntsL lk p l := fun hp => absurd hp (by omega)
theorem redact_loop {f : Fct} (hlk : ∀ b c, lk b c → lkW w0 b c) (h : FAt lk f tp tc bp bc ap ac) (hs : f.Small) {qp : OA} {ql qc : Nat} (hql : ql = f.topics.length) (hqc : ql ≤ qc) {B6 B7 B8 bcap : Nat} (hcap : f.blocks.length ≤ bcap) {xp yp : OA} {xl xc yl yc : Nat} :
  ∀ (g i : Nat) (cs : List Value) (F : SHeap), g + i = f.blocks.length → BRowL (lkU F lk) cs f.blocks → StrsL (lkU F lk) qp f.topics →
   fRedact_c1 f tp tc bp bc ap ac B6 B7 B8 (i : Int) qp ql qc f.blocks.length bcap cs xp xl xc yp yl yc F w0 (fun e W' => ∃ v L', e = .returned v ∧ Mem L' [] w0 W' ∧ FewOut lk f v L') := by
 subst hql
 intro g
 induction g with
 | zero =>
  intro i cs F hg hr ht
  apply fRedact_c1_vc
  have hin := hs.ints
  refine no (by omega) ⟨_, src_ints h.ints fun W hm => fun b c hb => lkW_kept hm b c (hlk b c hb), by omega, fun h0 => ?_, fun hpos B12 cap5 r5 q1 q2 => ?_⟩
  ·refine dkFin ⟨qp, qc, some ⟨B7, 0, none⟩, bcap, none, 0, ?_, ?_⟩
   ·delta fRedactA3 Fct.cells; rw [h0]
   ·exact ⟨ht.mono (lkU_mono fun x hx => by simp [hx]), fun _ => ⟨B7, 0, cs, rfl, .inl ⟨_, _, List.mem_cons_of_mem _ List.mem_cons_self⟩, fun i hi => ⟨by rw [Nat.zero_add]; exact (hr i hi).1, by rw [Nat.zero_add]; exact (hr i hi).2.mono (lkU_mono fun x hx => by simp [hx])⟩⟩, ints_zero h0, hqc, hcap, by omega, h.fits⟩
  ·refine dkFin ⟨qp, qc, some ⟨B7, 0, none⟩, bcap, some ⟨B12, 0, none⟩, cap5, rfl, ?_⟩
   exact ⟨ht.mono (lkU_mono fun x hx => by simp [hx]), fun _ => ⟨B7, 0, cs, rfl, .inl ⟨_, _, List.mem_cons_of_mem _ (List.mem_cons_of_mem _ List.mem_cons_self)⟩, fun i hi => ⟨by rw [Nat.zero_add]; exact (hr i hi).1, by rw [Nat.zero_add]; exact (hr i hi).2.mono (lkU_mono fun x hx => by simp [hx])⟩⟩, ints_new List.mem_cons_self, hqc, hcap, q1, h.fits⟩
 | succ g ih =>
  intro i cs F hg hr ht
  apply fRedact_c1_vc
  have hb := hs.blks
  have hi : i < f.blocks.length := by omega
  obtain ⟨h1, p, c, e, h2, h3⟩ := hr i hi
  have he := hs.each _ (List.getElem_mem hi)
  have hw : IntKind.i64.wrap ((i : Int) + 1) = ((i + 1 : Nat) : Int) := by rw [wi64 (by omega)]; omega
  refine yes (by omega) ⟨by omega, p, f.blocks[i].lab.after.length, c, ?_, _, src_ints h2 fun W hm => lkU_in hlk hm fun x hx => by simp [hx], by omega, fun h0 => ⟨by omega, by rw [Int.toNat_natCast]; omega, ?_⟩, fun hpos B11 cap4 r4 q1 q2 => ⟨by omega, by rw [Int.toNat_natCast]; omega, ?_⟩⟩
  ·rw [Int.toNat_natCast, Nat.add_assoc, row_get (by decide) e]; rfl
  ·rw [hw, Int.toNat_natCast]
   have := hr.set (i := i) (p' := none) (c' := 0) hi (fun b c hb => hb) (ints_zero h0)
   rw [h0] at this
   exact ih (i + 1) _ F (by omega) this ht
  ·rw [hw, Int.toNat_natCast]
   exact ih (i + 1) _ _ (by omega) (hr.set hi (lkU_mono fun x hx => List.mem_cons_of_mem _ hx) (ints_new List.mem_cons_self)) (ht.mono (lkU_mono fun x hx => List.mem_cons_of_mem _ hx))
theorem redact_none {f : Fct} (hlk : ∀ b c, lk b c → lkW w0 b c) (h : FAt lk f tp tc bp bc ap ac) (hs : f.Small) {qp : OA} {ql qc : Nat} (hql : ql = f.topics.length) (hqc : ql ≤ qc) (hb0 : f.blocks.length = 0) {B4 B5 : Nat} {xp yp : OA} {xl xc yl yc : Nat} {F : SHeap} (ht : StrsL (lkU F lk) qp f.topics) :
  fRedact_c0 f tp tc bp bc ap ac B4 B5 (0 : Int) (0 : Int) qp ql qc xp xl xc yp yl yc F w0 (fun e W' => ∃ v L', e = .returned v ∧ Mem L' [] w0 W' ∧ FewOut lk f v L') := by
 subst hql
 apply fRedact_c0_vc
 have hin := hs.ints
 have hbn : f.blocks = [] := List.length_eq_zero_iff.1 hb0
 refine no (by omega) ⟨_, src_ints h.ints fun W hm => fun b c hb => lkW_kept hm b c (hlk b c hb), by omega, fun h0 => ?_, fun hpos B12 cap5 r5 q1 q2 => ?_⟩
 ·refine dkFin ⟨qp, qc, none, 0, none, 0, ?_, ?_⟩
  ·delta fRedactA4 Fct.cells; rw [h0, hb0]
  ·exact ⟨ht.mono (lkU_mono fun x hx => by simp [hx]), by rw [hbn]; exact blks_nil, ints_zero h0, hqc, by omega, by omega, h.fits⟩
 ·refine dkFin ⟨qp, qc, none, 0, some ⟨B12, 0, none⟩, cap5, ?_, ?_⟩
  ·delta fRedactA2 Fct.cells; rw [hb0]
  ·exact ⟨ht.mono (lkU_mono fun x hx => by simp [hx]), by rw [hbn]; exact blks_nil, ints_new List.mem_cons_self, hqc, by omega, q1, h.fits⟩
theorem strs_zero {p : OA} {l : List BA} (h : l.length = 0) : StrsL lk p l := fun hp => absurd hp (by omega)
theorem redact_e {lk : Lk} {f : Fct} {tp bp ap : OA} {tc bc ac : Nat} (h : FAt lk f tp tc bp bc ap ac) (hs : f.Small) : EffW TP 81 ⟨[.agg ⟨f.cells tp tc bp bc ap ac⟩]⟩ [] (fun W => ∀ b c, lk b c → lkW W b c) (FewOut lk (redF f)) := by
 intro W hm hlk
 cases hk : aboutB f.kind with
 | true =>
  rw [redF, if_pos hk]
  refine (gone_e (tp := tp) (tc := tc) (bp := bp) (bc := bc) (ap := ap) (ac := ac) hk W hm).mono ?_
  rintro e W' ⟨v, L', he, hL, hv⟩
  exact ⟨v, L', he, hL, none, 0, none, 0, none, 0, hv, goneAt⟩
 | false =>
  rw [redF, if_neg (by rw [hk]; decide)]
  have hk := of_decide_eq_false hk
  have hst := hs.tops; have hsb := hs.blks
  refine fRedact_vc f tp tc bp bc ap ac [] hm fun B B1 => no (fun hh => hk (.inl hh)) (no (fun hh => hk (.inr (.inl hh))) (no (fun hh => hk (.inr (.inr hh))) ?_))
  refine ⟨_, src_strs h.tops fun W hm => fun b c hb => lkW_kept hm b c (hlk b c hb), by omega, fun h0 => ?_, fun hpos B2 cap r q1 q2 => ?_⟩
  ·obtain ⟨news, n1, n2, n3⟩ := src_blks (c := bc) (L := _) (w0 := W) h.blks fun W hm => fun b c hb => lkW_kept hm b c (hlk b c hb)
   refine ⟨news, n1, by omega, fun hb0 => redact_none hlk h hs h0.symm (Nat.le_refl _) hb0 (strs_zero h0), fun hbpos B3 cap1 r1 q1 q2 => ?_⟩
   exact redact_loop hlk h hs h0.symm (Nat.le_refl _) q1 _ 0 _ _ rfl (n3.mono lkU_r).app0 (strs_zero h0)
  ·obtain ⟨news, n1, n2, n3⟩ := src_blks (c := bc) (L := _) (w0 := W) h.blks fun W hm => fun b c hb => lkW_kept hm b c (hlk b c hb)
   refine ⟨news, n1, by omega, fun hb0 => redact_none hlk h hs rfl q1 hb0 (strs_new List.mem_cons_self), fun hbpos B3 cap1 r1 p1 p2 => ?_⟩
   exact redact_loop hlk h hs rfl q1 p1 _ 0 _ _ rfl (n3.mono lkU_r).app0 (strs_new List.mem_cons_self)
def ovr {α : Type} (b : List α) (o : Nat) (s : List α) : List α := b.take o ++ s ++ b.drop (o + s.length)
theorem ovr_len {α : Type} {b : List α} {o : Nat} {s : List α} (h : o + s.length ≤ b.length) : (ovr b o s).length = b.length := by simp [ovr]; omega
theorem ovr_nil {α : Type} (b : List α) (o : Nat) : ovr b o [] = b := by simp [ovr]
theorem bytesL_ovr (b : List UInt8) (o : Nat) (s : List UInt8) : over (bytesL b) o (bytesL s) = bytesL (ovr b o s) := by
 simp [over, ovr, bytesL]
theorem bytesL_length (l : List UInt8) : (bytesL l).length = l.length := by simp [bytesL]
theorem ovr_all {α : Type} {b s : List α} (h : b.length = s.length) : ovr b 0 s = s := by simp [ovr, List.drop_of_length_le (by omega : b.length ≤ s.length)]
structure DS where
 on : Bool
 cut : Nat
 dur : List UInt8
 vis : List UInt8
 pend : List (Nat × BA)
structure DOk (d : DS) : Prop where
 len : d.dur.length = d.vis.length
 pos : 0 < d.vis.length
 le : d.vis.length ≤ 4194304
 cut : d.cut ≤ 9223372036854775807
 pend : ∀ p ∈ d.pend, p.1 + p.2.size ≤ d.vis.length
def DS.spend (d : DS) : DS := if d.cut = 0 then d else if d.cut = 1 then { d with on := false, cut := 0 } else { d with cut := d.cut - 1 }
def DS.put (d : DS) (o : Nat) (s : BA) : DS := { d with pend := d.pend ++ [(o, s)], vis := ovr d.vis o (bts s) }
def DS.write (d : DS) (off : Int) (s : BA) : Int × DS :=
 if d.on = false then (231, d) else if 0 ≤ off ∧ off + s.size ≤ d.vis.length then (0, (d.put off.toNat s).spend) else (230, d)
def DS.sync (d : DS) : Int × DS := if d.on = false then (231, d) else (0, { d with dur := d.vis, pend := [] })
def DS.read (d : DS) (off n : Int) : BA × Int :=
 if d.on = false then (⟨#[]⟩, 231) else if 0 ≤ off ∧ 0 ≤ n ∧ off + n ≤ d.vis.length then (⟨((d.vis.drop off.toNat).take n.toNat).toArray⟩, 0) else (⟨#[]⟩, 230)
def DS.cutAt (d : DS) (n : Int) : Int × DS :=
 if d.on = false then (231, d) else if n < 0 then (2, d) else if n = 0 then (0, { d with on := false, cut := 0 }) else (0, { d with cut := n.toNat })
theorem DOk.spend {d : DS} (h : DOk d) : DOk d.spend := by
 unfold DS.spend
 split
 ·exact h
 ·split
  ·exact ⟨h.len, h.pos, h.le, by simp, h.pend⟩
  ·exact ⟨h.len, h.pos, h.le, by have := h.cut; simp only; omega, h.pend⟩
theorem DOk.put {d : DS} (h : DOk d) {o : Nat} {s : BA} (hb : o + s.size ≤ d.vis.length) : DOk (d.put o s) := by
 have hl : (ovr d.vis o (bts s)).length = d.vis.length := ovr_len hb
 refine ⟨by simp only [DS.put, hl, h.len], by simp only [DS.put, hl, h.pos], by simp only [DS.put, hl, h.le], h.cut, fun p hp => ?_⟩
 simp only [DS.put, hl] at hp ⊢
 rcases List.mem_append.1 hp with hp | hp
 ·exact h.pend p hp
 ·simp at hp; subst hp; exact hb
theorem DOk.write {d : DS} (h : DOk d) (off : Int) (s : BA) : DOk (d.write off s).2 := by
 unfold DS.write
 split
 ·exact h
 ·split
  ·next hh => exact DOk.spend (DOk.put h (by omega))
  ·exact h
theorem DOk.sync {d : DS} (h : DOk d) : DOk d.sync.2 := by
 unfold DS.sync
 split
 ·exact h
 ·exact ⟨rfl, h.pos, h.le, h.cut, fun p hp => by cases hp⟩
theorem DOk.cutAt {d : DS} (h : DOk d) {n : Int} (hn : n ≤ 9223372036854775807) : DOk (d.cutAt n).2 := by
 unfold DS.cutAt
 repeat' split
 ·exact h
 ·exact h
 ·exact ⟨h.len, h.pos, h.le, by simp, h.pend⟩
 ·exact ⟨h.len, h.pos, h.le, by simp only; omega, h.pend⟩
def pendCells (l : List (Nat × BA)) : List Value := l.flatMap fun p => [.int .i64 (p.1 : Int), .string p.2]
theorem pendCells_len (l : List (Nat × BA)) : (pendCells l).length = l.length * 2 := by
 induction l with
 | nil => rfl
 | cons p r ih => simp only [pendCells, List.flatMap_cons, List.length_append] at *; simp only [List.length_cons, List.length_nil, ih]; omega
theorem pendCells_append (a b : List (Nat × BA)) : pendCells (a ++ b) = pendCells a ++ pendCells b := by simp [pendCells]
abbrev hdr (T : Nat) (D DB VB n : Nat) (on : Bool) (cut : Int) (pv : Value) : Nat × Obj :=
 (D, .cells #[.bool on, .int .i64 cut, .slice (SO DB) n n, .slice (SO VB) n n, pv] T)
def DRepT (td tb tw : Nat) (D : Nat) (d : DS) (F : SHeap) : Prop :=
 DOk d ∧ ∃ DB VB : Nat,
  (d.pend = [] ∧ F = [hdr td D DB VB d.vis.length d.on d.cut (.slice none 0 0), (DB, .cells ⟨bytesL d.dur⟩ tb), (VB, .cells ⟨bytesL d.vis⟩ tb)]) ∨
  ∃ (PB pc : Nat) (r : List Value), d.pend.length ≤ pc ∧ (pendCells d.pend ++ r).length = pc * 2 ∧
   F = [hdr td D DB VB d.vis.length d.on d.cut (.slice (SO PB) d.pend.length pc), (DB, .cells ⟨bytesL d.dur⟩ tb), (VB, .cells ⟨bytesL d.vis⟩ tb), (PB, .cells ⟨pendCells d.pend ++ r⟩ tw)]
theorem DK.fin {K : Value → SHeap → Prop} {L : SHeap} {S : List Nat} {W : World} {v : Value} (h : K v L) : Fin (fun e W' => ∃ v L', e = .returned v ∧ Mem L' S W W' ∧ K v L') L S W v :=
 fun _ hm => ⟨v, L, rfl, hm, h⟩
theorem DK.fin' (is : List Nat) {K : Value → SHeap → Prop} {L L' : SHeap} {S : List Nat} {W : World} {v : Value} (hs : (selL L is, nodupB is) = (L', true)) (h : K v L') :
  Fin (fun e W' => ∃ v L', e = .returned v ∧ Mem L' S W W' ∧ K v L') L S W v := by
 simp only [Prod.mk.injEq] at hs
 obtain ⟨rfl, h2⟩ := hs
 exact fun _ hm => ⟨v, _, rfl, hm.sel (nodupB_spec h2), h⟩
set_option maxRecDepth 100000
abbrev zD1aa (x0 : Bool) (x1 : Int) (x2 x3 x4 : Nat) : Array Value := #[.bool x0, IV x1, .slice (SO x2) x3 x3, .slice (SO x4) x3 x3, .slice none 0 0]
abbrev zD1ab (x0 : Bool) (x1 : Int) (x2 x3 x4 x5 x6 x7 : Nat) : Array Value := #[.bool x0, IV x1, .slice (SO x2) x3 x3, .slice (SO x4) x3 x3, .slice (SO x5) x6 x7]
abbrev yD1aa (x0 : Bool) (x1 : Int) (x2 x3 : List Value) (x4 x5 x6 x7 : Nat) : SHeap := [(x4, .cells (zD1aa x0 x1 x5 x6 x7) 82), (x5, .cells ⟨x2⟩ 5), (x7, .cells ⟨x3⟩ 5)]
abbrev yD1ab (x0 : Bool) (x1 : Int) (x2 x3 x4 : List Value) (x5 x6 x7 x8 x9 x10 x11 : Nat) : SHeap := [(x5, .cells (zD1ab x0 x1 x6 x7 x8 x9 x10 x11) 82), (x6, .cells ⟨x2⟩ 5), (x8, .cells ⟨x3⟩ 5), (x9, .cells ⟨x4⟩ 111)]
theorem SizeN_vc (D : Nat) (on : Bool) (cut : Int) (DB n VB : Nat) (dur vis : List Value) (hm : Mem (yD1aa on cut dur vis D DB n VB) S w0 W)
 (H :
 ∀ t2 : Int, t2 = (n : Int) →
 Fin R (yD1aa on cut dur vis D DB n VB) S w0 (IV t2)) :
 Calls TP 42 ⟨[PP D]⟩ W R:= by
 refine AtE.cs 10 Tryz.func42 hm (.ru 17 (.ld 0 2 (.ru 2 (.lI 2 H fun t2 H => (.ru 1 (.rt Tryz.func42 H))))))
theorem SizeR_vc (D : Nat) (on : Bool) (cut : Int) (DB n VB : Nat) (dur vis : List Value) (PB pl pc : Nat) (pd : List Value) (hm : Mem (yD1ab on cut dur vis pd D DB n VB PB pl pc) S w0 W)
 (H :
 ∀ t2 : Int, t2 = (n : Int) →
 Fin R (yD1ab on cut dur vis pd D DB n VB PB pl pc) S w0 (IV t2)) :
 Calls TP 42 ⟨[PP D]⟩ W R:= by
 refine AtE.cs 10 Tryz.func42 hm (.ru 17 (.ld 0 2 (.ru 2 (.lI 2 H fun t2 H => (.ru 1 (.rt Tryz.func42 H))))))
theorem PendingN_vc (D : Nat) (on : Bool) (cut : Int) (DB n VB : Nat) (dur vis : List Value) (hm : Mem (yD1aa on cut dur vis D DB n VB) S w0 W)
 (H :
 Fin R (yD1aa on cut dur vis D DB n VB) S w0 (IV 0)) :
 Calls TP 28 ⟨[PP D]⟩ W R:= by
 refine AtE.cs 10 Tryz.func28 hm (.ru 17 (.ld 0 4 (.ru 3 (.rt Tryz.func28 H))))
theorem PendingR_vc (D : Nat) (on : Bool) (cut : Int) (DB n VB : Nat) (dur vis : List Value) (PB pl pc : Nat) (pd : List Value) (hm : Mem (yD1ab on cut dur vis pd D DB n VB PB pl pc) S w0 W)
 (H :
 ∀ t2 : Int, t2 = (pl : Int) →
 Fin R (yD1ab on cut dur vis pd D DB n VB PB pl pc) S w0 (IV t2)) :
 Calls TP 28 ⟨[PP D]⟩ W R:= by
 refine AtE.cs 10 Tryz.func28 hm (.ru 17 (.ld 0 4 (.ru 2 (.lI 2 H fun t2 H => (.ru 1 (.rt Tryz.func28 H))))))
theorem ReadN_vc (D : Nat) (on : Bool) (cut : Int) (DB n VB : Nat) (dur vis : List Value) (off n1 : Int) (hm : Mem (yD1aa on cut dur vis D DB n VB) S w0 W)
 (H :
 ∀ t2 : Int, t2 = (n : Int) →
 Br (t2 = 0)
 (Fin R (yD1aa on cut dur vis D DB n VB) S w0 (.tuple #[.string (⟨#[]⟩), IV 1]))
 (Bb (on)
 (Br ((0 : Int) ≤ off)
 (Br ((0 : Int) ≤ n1)
 (∀ t21 : Int, t21 = (n : Int) →
 Br (n1 ≤ t21)
 (∀ t22 : Int, t22 = (n : Int) →
 Bn (off ≤ (IntKind.i64.wrap (t22 - n1)))
 (Fin R (yD1aa on cut dur vis D DB n VB) S w0 (.tuple #[.string (⟨#[]⟩), IV 230]))
 ((0 ≤ off ∧ off ≤ (IntKind.i64.wrap (off + n1)) ∧ (IntKind.i64.wrap (off + n1)) ≤ (n : Int)) ∧
 ∀ o : Nat, o = (if (Int.toNat off) = n then 0 else 0 + (Int.toNat off) * 1) →
 ∃ bs : List UInt8, (((vis).drop o).take ((Int.toNat (IntKind.i64.wrap (off + n1))) - (Int.toNat off)) = bytesL bs ∧ bs.length = ((Int.toNat (IntKind.i64.wrap (off + n1))) - (Int.toNat off))) ∧
 ∀ t6 : BA, t6 = ⟨bs.toArray⟩ →
 Fin R (yD1aa on cut dur vis D DB n VB) S w0 (.tuple #[.string t6, IV 0])))
 (Fin R (yD1aa on cut dur vis D DB n VB) S w0 (.tuple #[.string (⟨#[]⟩), IV 230])))
 (Fin R (yD1aa on cut dur vis D DB n VB) S w0 (.tuple #[.string (⟨#[]⟩), IV 230])))
 (Fin R (yD1aa on cut dur vis D DB n VB) S w0 (.tuple #[.string (⟨#[]⟩), IV 230])))
 (Fin R (yD1aa on cut dur vis D DB n VB) S w0 (.tuple #[.string (⟨#[]⟩), IV 231])))) :
 Calls TP 43 ⟨[PP D, IV off, IV n1]⟩ W R:= by
 refine AtE.cs 29 Tryz.func43 hm (.ru 9 (.il 61 [PP D] 12 Tryz.func61 (.ru 8 (.nm (KR Tryz.f61 12 [1,2]) [(0, PP D), (3, PP D)] (yD1aa on cut dur vis D DB n VB) (.il 42 [PP D] 10 Tryz.func42 (.ru 17 (.ld 0 2 (.ru 2 (.lI 2 H fun t2 H => (.ru 1 (.rk Tryz.func42 (.ru 2 (.sP 5 H (fun H => ?_) fun H => ?_)))))))))))))
 ·refine .ru 5 (.rk Tryz.func61 (.ru 14 (.rt Tryz.func43 H)))
 ·refine .ru 9 (.ld 0 0 (.sB 10 H (fun H => ?_) fun H => ?_))
  ·refine .ru 8 (.rk Tryz.func61 (.ru 15 (.nm (KR Tryz.f43 28 [3,4]) [(0, PP D), (1, IV off), (2, IV n1), (14, PP D), (15, IV off), (16, IV n1)] (yD1aa on cut dur vis D DB n VB) (.il 62 [PP D, IV off, IV n1] 27 Tryz.func62 (.ru 9 (.sP 9 H (fun H => ?_) fun H => ?_))))))
   ·refine .ru 4 (.sP 13 H (fun H => ?_) fun H => ?_)
    ·refine .ru 2 (.nm (KR Tryz.f62 6 [9,10,11,12,13,14,15,16,17,18,19,20]) [(0, PP D), (1, IV off), (2, IV n1), (13, .bool true), (14, IV n1), (15, PP D)] (yD1aa on cut dur vis D DB n VB) (.il 42 [PP D] 10 Tryz.func42 (.ru 17 (.ld 0 2 (.ru 2 (.lI 2 H fun t21 H => (.ru 1 (.rk Tryz.func42 (.ru 3 (.sP 19 H (fun H => ?_) fun H => ?_))))))))))
     ·refine .ru 2 (.nm (KR Tryz.f62 6 [15,16,17,18,19,20]) [(2, IV n1), (19, .bool true), (20, IV off), (21, PP D)] (yD1aa on cut dur vis D DB n VB) (.il 42 [PP D] 10 Tryz.func42 (.ru 17 (.ld 0 2 (.ru 2 (.lI 2 H fun t22 H => (.ru 1 (.rk Tryz.func42 (.ru 6 (.rk Tryz.func62 (.ru 2 (.sN 18 H (fun H => ?_) fun H => ?_))))))))))))
      ·refine .ru 6 (.rt Tryz.func43 H)
      ·refine .ru 7 (.ld 0 3 (.ru 4 ?_))
       obtain ⟨o, ho⟩ : ∃ x : Nat, x = (if (Int.toNat off) = n then 0 else 0 + (Int.toNat off) * 1) := ⟨_, rfl⟩
       refine .sliceL (E := 5) (b := VB) (o := 0) (len := n) (cap := n) (sz := 1) (o' := o) (l' := ((Int.toNat (IntKind.i64.wrap (off + n1))) - (Int.toNat off))) (c' := (n - (Int.toNat off))) (lo := some (IV off)) (hi := some (IV (IntKind.i64.wrap (off + n1)))) (x := off) (y := (IntKind.i64.wrap (off + n1))) (by kernel_rfl) (.inl ⟨.i64, rfl⟩) (.inl ⟨.i64, rfl⟩) H.1 ho rfl rfl ?_
       replace H := H.2 o ho
       obtain ⟨bs, hb, H⟩ := H
       refine .toString 2 (E := 5) (o := o) (len := ((Int.toNat (IntKind.i64.wrap (off + n1))) - (Int.toNat off))) (cap := (n - (Int.toNat off))) (c := vis) (l := bs) (by kernel_rfl) hb (.ru 1 (.letS 6 (n := ⟨bs.toArray⟩) (by kernel_rfl) (fun t6 ht6 => ?_)))
       replace H := H t6 ht6
       refine .ru 2 (.rt Tryz.func43 H)
     ·refine .ru 9 (.rk Tryz.func62 (.ru 8 (.rt Tryz.func43 H)))
    ·refine .ru 15 (.rk Tryz.func62 (.ru 8 (.rt Tryz.func43 H)))
   ·refine .ru 19 (.rk Tryz.func62 (.ru 8 (.rt Tryz.func43 H)))
  ·refine .ru 7 (.rk Tryz.func61 (.ru 14 (.rt Tryz.func43 H)))
theorem ReadR_vc (D : Nat) (on : Bool) (cut : Int) (DB n VB : Nat) (dur vis : List Value) (PB pl pc : Nat) (pd : List Value) (off n1 : Int) (hm : Mem (yD1ab on cut dur vis pd D DB n VB PB pl pc) S w0 W)
 (H :
 ∀ t2 : Int, t2 = (n : Int) →
 Br (t2 = 0)
 (Fin R (yD1ab on cut dur vis pd D DB n VB PB pl pc) S w0 (.tuple #[.string (⟨#[]⟩), IV 1]))
 (Bb (on)
 (Br ((0 : Int) ≤ off)
 (Br ((0 : Int) ≤ n1)
 (∀ t21 : Int, t21 = (n : Int) →
 Br (n1 ≤ t21)
 (∀ t22 : Int, t22 = (n : Int) →
 Bn (off ≤ (IntKind.i64.wrap (t22 - n1)))
 (Fin R (yD1ab on cut dur vis pd D DB n VB PB pl pc) S w0 (.tuple #[.string (⟨#[]⟩), IV 230]))
 ((0 ≤ off ∧ off ≤ (IntKind.i64.wrap (off + n1)) ∧ (IntKind.i64.wrap (off + n1)) ≤ (n : Int)) ∧
 ∀ o : Nat, o = (if (Int.toNat off) = n then 0 else 0 + (Int.toNat off) * 1) →
 ∃ bs : List UInt8, (((vis).drop o).take ((Int.toNat (IntKind.i64.wrap (off + n1))) - (Int.toNat off)) = bytesL bs ∧ bs.length = ((Int.toNat (IntKind.i64.wrap (off + n1))) - (Int.toNat off))) ∧
 ∀ t6 : BA, t6 = ⟨bs.toArray⟩ →
 Fin R (yD1ab on cut dur vis pd D DB n VB PB pl pc) S w0 (.tuple #[.string t6, IV 0])))
 (Fin R (yD1ab on cut dur vis pd D DB n VB PB pl pc) S w0 (.tuple #[.string (⟨#[]⟩), IV 230])))
 (Fin R (yD1ab on cut dur vis pd D DB n VB PB pl pc) S w0 (.tuple #[.string (⟨#[]⟩), IV 230])))
 (Fin R (yD1ab on cut dur vis pd D DB n VB PB pl pc) S w0 (.tuple #[.string (⟨#[]⟩), IV 230])))
 (Fin R (yD1ab on cut dur vis pd D DB n VB PB pl pc) S w0 (.tuple #[.string (⟨#[]⟩), IV 231])))) :
 Calls TP 43 ⟨[PP D, IV off, IV n1]⟩ W R:= by
 refine AtE.cs 29 Tryz.func43 hm (.ru 9 (.il 61 [PP D] 12 Tryz.func61 (.ru 8 (.nm (KR Tryz.f61 12 [1,2]) [(0, PP D), (3, PP D)] (yD1ab on cut dur vis pd D DB n VB PB pl pc) (.il 42 [PP D] 10 Tryz.func42 (.ru 17 (.ld 0 2 (.ru 2 (.lI 2 H fun t2 H => (.ru 1 (.rk Tryz.func42 (.ru 2 (.sP 5 H (fun H => ?_) fun H => ?_)))))))))))))
 ·refine .ru 5 (.rk Tryz.func61 (.ru 14 (.rt Tryz.func43 H)))
 ·refine .ru 9 (.ld 0 0 (.sB 10 H (fun H => ?_) fun H => ?_))
  ·refine .ru 8 (.rk Tryz.func61 (.ru 15 (.nm (KR Tryz.f43 28 [3,4]) [(0, PP D), (1, IV off), (2, IV n1), (14, PP D), (15, IV off), (16, IV n1)] (yD1ab on cut dur vis pd D DB n VB PB pl pc) (.il 62 [PP D, IV off, IV n1] 27 Tryz.func62 (.ru 9 (.sP 9 H (fun H => ?_) fun H => ?_))))))
   ·refine .ru 4 (.sP 13 H (fun H => ?_) fun H => ?_)
    ·refine .ru 2 (.nm (KR Tryz.f62 6 [9,10,11,12,13,14,15,16,17,18,19,20]) [(0, PP D), (1, IV off), (2, IV n1), (13, .bool true), (14, IV n1), (15, PP D)] (yD1ab on cut dur vis pd D DB n VB PB pl pc) (.il 42 [PP D] 10 Tryz.func42 (.ru 17 (.ld 0 2 (.ru 2 (.lI 2 H fun t21 H => (.ru 1 (.rk Tryz.func42 (.ru 3 (.sP 19 H (fun H => ?_) fun H => ?_))))))))))
     ·refine .ru 2 (.nm (KR Tryz.f62 6 [15,16,17,18,19,20]) [(2, IV n1), (19, .bool true), (20, IV off), (21, PP D)] (yD1ab on cut dur vis pd D DB n VB PB pl pc) (.il 42 [PP D] 10 Tryz.func42 (.ru 17 (.ld 0 2 (.ru 2 (.lI 2 H fun t22 H => (.ru 1 (.rk Tryz.func42 (.ru 6 (.rk Tryz.func62 (.ru 2 (.sN 18 H (fun H => ?_) fun H => ?_))))))))))))
      ·refine .ru 6 (.rt Tryz.func43 H)
      ·refine .ru 7 (.ld 0 3 (.ru 4 ?_))
       obtain ⟨o, ho⟩ : ∃ x : Nat, x = (if (Int.toNat off) = n then 0 else 0 + (Int.toNat off) * 1) := ⟨_, rfl⟩
       refine .sliceL (E := 5) (b := VB) (o := 0) (len := n) (cap := n) (sz := 1) (o' := o) (l' := ((Int.toNat (IntKind.i64.wrap (off + n1))) - (Int.toNat off))) (c' := (n - (Int.toNat off))) (lo := some (IV off)) (hi := some (IV (IntKind.i64.wrap (off + n1)))) (x := off) (y := (IntKind.i64.wrap (off + n1))) (by kernel_rfl) (.inl ⟨.i64, rfl⟩) (.inl ⟨.i64, rfl⟩) H.1 ho rfl rfl ?_
       replace H := H.2 o ho
       obtain ⟨bs, hb, H⟩ := H
       refine .toString 2 (E := 5) (o := o) (len := ((Int.toNat (IntKind.i64.wrap (off + n1))) - (Int.toNat off))) (cap := (n - (Int.toNat off))) (c := vis) (l := bs) (by kernel_rfl) hb (.ru 1 (.letS 6 (n := ⟨bs.toArray⟩) (by kernel_rfl) (fun t6 ht6 => ?_)))
       replace H := H t6 ht6
       refine .ru 2 (.rt Tryz.func43 H)
     ·refine .ru 9 (.rk Tryz.func62 (.ru 8 (.rt Tryz.func43 H)))
    ·refine .ru 15 (.rk Tryz.func62 (.ru 8 (.rt Tryz.func43 H)))
   ·refine .ru 19 (.rk Tryz.func62 (.ru 8 (.rt Tryz.func43 H)))
  ·refine .ru 7 (.rk Tryz.func61 (.ru 14 (.rt Tryz.func43 H)))
theorem SyncN_vc (D : Nat) (on : Bool) (cut : Int) (DB n VB : Nat) (dur vis : List Value) (hm : Mem (yD1aa on cut dur vis D DB n VB) S w0 W)
 (H :
 ∀ t2 : Int, t2 = (n : Int) →
 Br (t2 = 0)
 (Fin R (yD1aa on cut dur vis D DB n VB) S w0 (IV 1))
 (Bb (on)
 (((((vis).drop 0).take (min n n)).length = min n n) ∧ (∀ u ∈ (((vis).drop 0).take (min n n)), u.oneCell' = true) ∧ (0 + (((vis).drop 0).take (min n n)).length ≤ (dur).length) ∧
 Fin R [(D, .cells (zD1aa on cut DB n VB) 82), (DB, .cells ⟨(over (dur) 0 (((vis).drop 0).take (min n n)))⟩ 5), (VB, .cells ⟨vis⟩ 5)] S w0 (IV 0))
 (Fin R (yD1aa on cut dur vis D DB n VB) S w0 (IV 231)))) :
 Calls TP 68 ⟨[PP D]⟩ W R:= by
 refine AtE.cs 20 Tryz.func68 hm (.ru 8 (.il 61 [PP D] 12 Tryz.func61 (.ru 8 (.nm (KR Tryz.f61 12 [1,2]) [(0, PP D), (3, PP D)] (yD1aa on cut dur vis D DB n VB) (.il 42 [PP D] 10 Tryz.func42 (.ru 17 (.ld 0 2 (.ru 2 (.lI 2 H fun t2 H => (.ru 1 (.rk Tryz.func42 (.ru 2 (.sP 5 H (fun H => ?_) fun H => ?_)))))))))))))
 ·refine .ru 5 (.rk Tryz.func61 (.ru 13 (.rt Tryz.func68 H)))
 ·refine .ru 9 (.ld 0 0 (.sB 10 H (fun H => ?_) fun H => ?_))
  ·refine .ru 8 (.rk Tryz.func61 (.ru 10 (.nm (KC Tryz.f68 14) [(0, PP D)] (yD1aa on cut dur vis D DB n VB) (.dr 8 (.pu (.pu (.pu (.ld 0 2 (.pu (.pu (.pu (.ld 0 3 (.dn (.copyO 1 (T := 47) (E := 5) (o := 0) (dl := n) (dc := n) (n := n) (m := n) (a := ⟨VB, 0, none⟩) (c := dur) (((vis).drop 0).take (min n n)) (by kernel_rfl) (Src.own (j := 2) (o := 0) (n := (min n n)) (c := vis) (by kernel_rfl)) H.1 H.2.1 H.2.2.1 ?_))))))))))))))
   replace H := H.2.2.2
   refine .ru 4 (.nm (KR Tryz.f68 30 [1]) [(18, PP D)] [(D, .cells (zD1aa on cut DB n VB) 82), (DB, .cells ⟨(over (dur) 0 (((vis).drop 0).take (min n n)))⟩ 5), (VB, .cells ⟨vis⟩ 5)] (.il 77 [PP D] 14 Tryz.func77 (.ru 5 (.ld 0 4 (.ru 7 (.ld 0 4 (.ru 3 (.st 0 4 (.ru 1 (.rk Tryz.func77 (.ru 5 (.rt Tryz.func68 H))))))))))))
  ·refine .ru 7 (.rk Tryz.func61 (.ru 13 (.rt Tryz.func68 H)))
theorem SyncR_vc (D : Nat) (on : Bool) (cut : Int) (DB n VB : Nat) (dur vis : List Value) (PB pl pc : Nat) (pd : List Value) (hm : Mem (yD1ab on cut dur vis pd D DB n VB PB pl pc) S w0 W)
 (H :
 ∀ t2 : Int, t2 = (n : Int) →
 Br (t2 = 0)
 (Fin R (yD1ab on cut dur vis pd D DB n VB PB pl pc) S w0 (IV 1))
 (Bb (on)
 (((((vis).drop 0).take (min n n)).length = min n n) ∧ (∀ u ∈ (((vis).drop 0).take (min n n)), u.oneCell' = true) ∧ (0 + (((vis).drop 0).take (min n n)).length ≤ (dur).length) ∧
 (0 + pl * 2 ≤ (pd).length) ∧
 (0 ≤ (0 : Int) ∧ (0 : Int) ≤ (0 : Int) ∧ (0 : Int) ≤ (pc : Int)) ∧
 Fin R [(D, .cells #[.bool on, IV cut, .slice (SO DB) n n, .slice (SO VB) n n, .slice (SO PB) (Int.toNat (0 : Int)) pc] 82), (DB, .cells ⟨(over (dur) 0 (((vis).drop 0).take (min n n)))⟩ 5), (VB, .cells ⟨vis⟩ 5), (PB, .cells ⟨(over (pd) 0 (noughtL #[IV 0, .string (⟨#[]⟩)] pl))⟩ 111)] S w0 (IV 0))
 (Fin R (yD1ab on cut dur vis pd D DB n VB PB pl pc) S w0 (IV 231)))) :
 Calls TP 68 ⟨[PP D]⟩ W R:= by
 refine AtE.cs 20 Tryz.func68 hm (.ru 8 (.il 61 [PP D] 12 Tryz.func61 (.ru 8 (.nm (KR Tryz.f61 12 [1,2]) [(0, PP D), (3, PP D)] (yD1ab on cut dur vis pd D DB n VB PB pl pc) (.il 42 [PP D] 10 Tryz.func42 (.ru 17 (.ld 0 2 (.ru 2 (.lI 2 H fun t2 H => (.ru 1 (.rk Tryz.func42 (.ru 2 (.sP 5 H (fun H => ?_) fun H => ?_)))))))))))))
 ·refine .ru 5 (.rk Tryz.func61 (.ru 13 (.rt Tryz.func68 H)))
 ·refine .ru 9 (.ld 0 0 (.sB 10 H (fun H => ?_) fun H => ?_))
  ·refine .ru 8 (.rk Tryz.func61 (.ru 10 (.nm (KC Tryz.f68 14) [(0, PP D)] (yD1ab on cut dur vis pd D DB n VB PB pl pc) (.dr 8 (.pu (.pu (.pu (.ld 0 2 (.pu (.pu (.pu (.ld 0 3 (.dn (.copyO 1 (T := 47) (E := 5) (o := 0) (dl := n) (dc := n) (n := n) (m := n) (a := ⟨VB, 0, none⟩) (c := dur) (((vis).drop 0).take (min n n)) (by kernel_rfl) (Src.own (j := 2) (o := 0) (n := (min n n)) (c := vis) (by kernel_rfl)) H.1 H.2.1 H.2.2.1 ?_))))))))))))))
   replace H := H.2.2.2
   refine .ru 4 (.nm (KR Tryz.f68 30 [1]) [(18, PP D)] [(D, .cells (zD1ab on cut DB n VB PB pl pc) 82), (DB, .cells ⟨(over (dur) 0 (((vis).drop 0).take (min n n)))⟩ 5), (VB, .cells ⟨vis⟩ 5), (PB, .cells ⟨pd⟩ 111)] (.il 77 [PP D] 14 Tryz.func77 (.ru 5 (.ld 0 4 (.clearO 3 (T := 80) (E := 111) (o := 0) (n := pl) (cap := pc) (z := .agg #[IV 0, .string (⟨#[]⟩)]) (sz := 2) (bytes := 24) (c := pd) (by kernel_rfl) (by kernel_rfl) H.1 ?_)))))
   replace H := H.2
   refine .ru 6 (.ld 0 4 (.sliceL (E := 111) (b := PB) (o := 0) (len := pl) (cap := pc) (sz := 2) (o' := 0) (l' := (Int.toNat (0 : Int))) (c' := pc) (lo := none) (hi := some (IV 0)) (x := (0 : Int)) (y := (0 : Int)) (by kernel_rfl) (.inr ⟨rfl, rfl⟩) (.inl ⟨.i64, rfl⟩) H.1 (by simp) (by simp) (by simp) ?_))
   replace H := H.2
   refine .ru 2 (.st 0 4 (.ru 1 (.rk Tryz.func77 (.ru 5 (.rt Tryz.func68 H)))))
  ·refine .ru 7 (.rk Tryz.func61 (.ru 13 (.rt Tryz.func68 H)))
theorem CutN_vc (D : Nat) (on : Bool) (cut : Int) (DB n VB : Nat) (dur vis : List Value) (n1 : Int) (hm : Mem (yD1aa on cut dur vis D DB n VB) S w0 W)
 (H :
 ∀ t2 : Int, t2 = (n : Int) →
 Br (t2 = 0)
 (Fin R (yD1aa on cut dur vis D DB n VB) S w0 (IV 1))
 (Bb (on)
 (Br (n1 < 0)
 (Fin R (yD1aa on cut dur vis D DB n VB) S w0 (IV 2))
 (Br (n1 = 0)
 (Fin R [(D, .cells #[.bool false, IV 0, .slice (SO DB) n n, .slice (SO VB) n n, .slice none 0 0] 82), (DB, .cells ⟨dur⟩ 5), (VB, .cells ⟨vis⟩ 5)] S w0 (IV 0))
 (Fin R (yD1aa on n1 dur vis D DB n VB) S w0 (IV 0))))
 (Fin R (yD1aa on cut dur vis D DB n VB) S w0 (IV 231)))) :
 Calls TP 29 ⟨[PP D, IV n1]⟩ W R:= by
 refine AtE.cs 24 Tryz.func29 hm (.ru 8 (.il 61 [PP D] 12 Tryz.func61 (.ru 8 (.nm (KR Tryz.f61 12 [1,2]) [(0, PP D), (3, PP D)] (yD1aa on cut dur vis D DB n VB) (.il 42 [PP D] 10 Tryz.func42 (.ru 17 (.ld 0 2 (.ru 2 (.lI 2 H fun t2 H => (.ru 1 (.rk Tryz.func42 (.ru 2 (.sP 5 H (fun H => ?_) fun H => ?_)))))))))))))
 ·refine .ru 5 (.rk Tryz.func61 (.ru 13 (.rt Tryz.func29 H)))
 ·refine .ru 9 (.ld 0 0 (.sB 10 H (fun H => ?_) fun H => ?_))
  ·refine .ru 8 (.rk Tryz.func61 (.ru 15 (.sP 12 H (fun H => ?_) fun H => ?_)))
   ·refine .ru 5 (.rt Tryz.func29 H)
   ·refine .ru 8 (.sP 14 H (fun H => ?_) fun H => ?_)
    ·refine .ru 6 (.nm (KR Tryz.f29 244 [3]) [(17, PP D)] (yD1aa on cut dur vis D DB n VB) (.il 71 [PP D] 8 Tryz.func71 (.ru 5 (.st 0 0 (.ru 2 (.st 0 1 (.ru 1 (.rk Tryz.func71 (.ru 5 (.rt Tryz.func29 H))))))))))
    ·refine .ru 9 (.st 0 1 (.ru 5 (.rt Tryz.func29 H)))
  ·refine .ru 7 (.rk Tryz.func61 (.ru 13 (.rt Tryz.func29 H)))
theorem CutR_vc (D : Nat) (on : Bool) (cut : Int) (DB n VB : Nat) (dur vis : List Value) (PB pl pc : Nat) (pd : List Value) (n1 : Int) (hm : Mem (yD1ab on cut dur vis pd D DB n VB PB pl pc) S w0 W)
 (H :
 ∀ t2 : Int, t2 = (n : Int) →
 Br (t2 = 0)
 (Fin R (yD1ab on cut dur vis pd D DB n VB PB pl pc) S w0 (IV 1))
 (Bb (on)
 (Br (n1 < 0)
 (Fin R (yD1ab on cut dur vis pd D DB n VB PB pl pc) S w0 (IV 2))
 (Br (n1 = 0)
 (Fin R [(D, .cells #[.bool false, IV 0, .slice (SO DB) n n, .slice (SO VB) n n, .slice (SO PB) pl pc] 82), (DB, .cells ⟨dur⟩ 5), (VB, .cells ⟨vis⟩ 5), (PB, .cells ⟨pd⟩ 111)] S w0 (IV 0))
 (Fin R (yD1ab on n1 dur vis pd D DB n VB PB pl pc) S w0 (IV 0))))
 (Fin R (yD1ab on cut dur vis pd D DB n VB PB pl pc) S w0 (IV 231)))) :
 Calls TP 29 ⟨[PP D, IV n1]⟩ W R:= by
 refine AtE.cs 24 Tryz.func29 hm (.ru 8 (.il 61 [PP D] 12 Tryz.func61 (.ru 8 (.nm (KR Tryz.f61 12 [1,2]) [(0, PP D), (3, PP D)] (yD1ab on cut dur vis pd D DB n VB PB pl pc) (.il 42 [PP D] 10 Tryz.func42 (.ru 17 (.ld 0 2 (.ru 2 (.lI 2 H fun t2 H => (.ru 1 (.rk Tryz.func42 (.ru 2 (.sP 5 H (fun H => ?_) fun H => ?_)))))))))))))
 ·refine .ru 5 (.rk Tryz.func61 (.ru 13 (.rt Tryz.func29 H)))
 ·refine .ru 9 (.ld 0 0 (.sB 10 H (fun H => ?_) fun H => ?_))
  ·refine .ru 8 (.rk Tryz.func61 (.ru 15 (.sP 12 H (fun H => ?_) fun H => ?_)))
   ·refine .ru 5 (.rt Tryz.func29 H)
   ·refine .ru 8 (.sP 14 H (fun H => ?_) fun H => ?_)
    ·refine .ru 6 (.nm (KR Tryz.f29 244 [3]) [(17, PP D)] (yD1ab on cut dur vis pd D DB n VB PB pl pc) (.il 71 [PP D] 8 Tryz.func71 (.ru 5 (.st 0 0 (.ru 2 (.st 0 1 (.ru 1 (.rk Tryz.func71 (.ru 5 (.rt Tryz.func29 H))))))))))
    ·refine .ru 9 (.st 0 1 (.ru 5 (.rt Tryz.func29 H)))
  ·refine .ru 7 (.rk Tryz.func61 (.ru 13 (.rt Tryz.func29 H)))
theorem WriteN_vc (D : Nat) (on : Bool) (cut : Int) (DB n VB : Nat) (dur vis : List Value) (off : Int) (s : BA) (hm : Mem (yD1aa on cut dur vis D DB n VB) S w0 W)
 (H :
 ∀ t2 : Int, t2 = (n : Int) →
 Br (t2 = 0)
 (Fin R (yD1aa on cut dur vis D DB n VB) S w0 (IV 1))
 (Bb (on)
 (Br ((0 : Int) ≤ off)
 (Br ((0 : Int) ≤ (s.size : Int))
 (∀ t21 : Int, t21 = (n : Int) →
 Br ((s.size : Int) ≤ t21)
 (∀ t22 : Int, t22 = (n : Int) →
 Bn (off ≤ (IntKind.i64.wrap (t22 - (s.size : Int))))
 (Fin R (yD1aa on cut dur vis D DB n VB) S w0 (IV 230))
 (∀ B : Nat,
 ∀ (B1 cap : Nat) (r6 : List Value), 1 ≤ cap → (([IV off, .string s] : List Value) ++ r6).length = cap * 2 →
 (0 ≤ off ∧ off ≤ (n : Int) ∧ (n : Int) ≤ (n : Int)) ∧
 ∀ o : Nat, o = (if (Int.toNat off) = n then 0 else 0 + (Int.toNat off) * 1) →
 (o + (n - (Int.toNat off)) ≤ (vis).length) ∧
 Br (cut = 0)
 (Fin R [(D, .cells #[.bool on, IV cut, .slice (SO DB) n n, .slice (SO VB) n n, .slice (SO B1) 1 cap] 82), (DB, .cells ⟨dur⟩ 5), (VB, .cells ⟨(over (vis) o (bytesL (s.data.toList.take (n - (Int.toNat off)))))⟩ 5), (B, .cells #[IV off, .string s] 111), (B1, .cells ⟨(([IV off, .string s] : List Value) ++ r6)⟩ 111)] S w0 (IV 0))
 (Br ((IntKind.i64.wrap (cut - (1 : Int))) = (0 : Int))
 (Fin R [(D, .cells #[.bool false, IV 0, .slice (SO DB) n n, .slice (SO VB) n n, .slice (SO B1) 1 cap] 82), (DB, .cells ⟨dur⟩ 5), (VB, .cells ⟨(over (vis) o (bytesL (s.data.toList.take (n - (Int.toNat off)))))⟩ 5), (B, .cells #[IV off, .string s] 111), (B1, .cells ⟨(([IV off, .string s] : List Value) ++ r6)⟩ 111)] S w0 (IV 0))
 (Fin R [(D, .cells #[.bool on, IV (IntKind.i64.wrap (cut - (1 : Int))), .slice (SO DB) n n, .slice (SO VB) n n, .slice (SO B1) 1 cap] 82), (DB, .cells ⟨dur⟩ 5), (VB, .cells ⟨(over (vis) o (bytesL (s.data.toList.take (n - (Int.toNat off)))))⟩ 5), (B, .cells #[IV off, .string s] 111), (B1, .cells ⟨(([IV off, .string s] : List Value) ++ r6)⟩ 111)] S w0 (IV 0)))))
 (Fin R (yD1aa on cut dur vis D DB n VB) S w0 (IV 230)))
 (Fin R (yD1aa on cut dur vis D DB n VB) S w0 (IV 230)))
 (Fin R (yD1aa on cut dur vis D DB n VB) S w0 (IV 230)))
 (Fin R (yD1aa on cut dur vis D DB n VB) S w0 (IV 231)))) :
 Calls TP 22 ⟨[PP D, IV off, .string s]⟩ W R:= by
 refine AtE.cs 43 Tryz.func22 hm (.ru 8 (.il 61 [PP D] 12 Tryz.func61 (.ru 8 (.nm (KR Tryz.f61 12 [1,2]) [(0, PP D), (3, PP D)] (yD1aa on cut dur vis D DB n VB) (.il 42 [PP D] 10 Tryz.func42 (.ru 17 (.ld 0 2 (.ru 2 (.lI 2 H fun t2 H => (.ru 1 (.rk Tryz.func42 (.ru 2 (.sP 5 H (fun H => ?_) fun H => ?_)))))))))))))
 ·refine .ru 5 (.rk Tryz.func61 (.ru 13 (.rt Tryz.func22 H)))
 ·refine .ru 9 (.ld 0 0 (.sB 10 H (fun H => ?_) fun H => ?_))
  ·refine .ru 8 (.rk Tryz.func61 (.ru 16 (.nm (KR Tryz.f22 28 [4,5]) [(0, PP D), (1, IV off), (2, .string s), (13, PP D), (14, IV off), (16, IV (s.size : Int))] (yD1aa on cut dur vis D DB n VB) (.il 62 [PP D, IV off, IV (s.size : Int)] 27 Tryz.func62 (.ru 9 (.sP 9 H (fun H => ?_) fun H => ?_))))))
   ·refine .ru 4 (.sP 13 H (fun H => ?_) fun H => ?_)
    ·refine .ru 2 (.nm (KR Tryz.f62 6 [9,10,11,12,13,14,15,16,17,18,19,20]) [(0, PP D), (1, IV off), (2, IV (s.size : Int)), (13, .bool true), (14, IV (s.size : Int)), (15, PP D)] (yD1aa on cut dur vis D DB n VB) (.il 42 [PP D] 10 Tryz.func42 (.ru 17 (.ld 0 2 (.ru 2 (.lI 2 H fun t21 H => (.ru 1 (.rk Tryz.func42 (.ru 3 (.sP 19 H (fun H => ?_) fun H => ?_))))))))))
     ·refine .ru 2 (.nm (KR Tryz.f62 6 [15,16,17,18,19,20]) [(2, IV (s.size : Int)), (19, .bool true), (20, IV off), (21, PP D)] (yD1aa on cut dur vis D DB n VB) (.il 42 [PP D] 10 Tryz.func42 (.ru 17 (.ld 0 2 (.ru 2 (.lI 2 H fun t22 H => (.ru 1 (.rk Tryz.func42 (.ru 6 (.rk Tryz.func62 (.ru 2 (.sN 18 H (fun H => ?_) fun H => ?_))))))))))))
      ·refine .ru 5 (.rt Tryz.func22 H)
      ·refine .ru 8 (.ld 0 4 (.ru 3 (.nw (fun B => .slice (SO B) 1 1) (.cells #[IV off, .string s] 111) fun B => ?_)))
       replace H := H B
       refine .appendN (T := 80) (E := 111) (z := .agg #[IV 0, .string (⟨#[]⟩)]) (sz := 2) (bytes := 24) (a := ⟨B, 0, none⟩) (m := 1) (c := 1) ([IV off, .string s] : List Value) (by kernel_rfl) (show Src _ _ _ _ ([IV off, .string s] : List Value) from Src.own (j := 3) (o := 0) (n := 2) (c := ([IV off, .string s] : List Value)) (by kernel_rfl)) (by simp) (by omega) (by omega) (fun B1 cap r6 h1 h2 => ?_)
       replace H := H B1 cap r6 h1 h2
       refine .ru 2 (.store 0 4 (T := 80) (v := .slice (SO B1) 1 cap) (by kernel_rfl) (.ru 6 (.ld 0 3 (.ru 1 ?_))))
       obtain ⟨o, ho⟩ : ∃ x : Nat, x = (if (Int.toNat off) = n then 0 else 0 + (Int.toNat off) * 1) := ⟨_, rfl⟩
       refine .sliceL (E := 5) (b := VB) (o := 0) (len := n) (cap := n) (sz := 1) (o' := o) (l' := (n - (Int.toNat off))) (c' := (n - (Int.toNat off))) (lo := some (IV off)) (hi := none) (x := off) (y := (n : Int)) (by kernel_rfl) (.inl ⟨.i64, rfl⟩) (.inr ⟨rfl, rfl, by omega⟩) H.1 ho (by simp) rfl ?_
       replace H := H.2 o ho
       refine .ru 1 (.copyS 2 (T := 47) (E := 5) (U := 9) (o := o) (dl := (n - (Int.toNat off))) (dc := (n - (Int.toNat off))) (s := s) (c := vis) (by kernel_rfl) H.1 ?_)
       replace H := H.2
       refine .ru 6 (.nm (KR Tryz.f22 126 [3]) [(41, PP D)] [(D, .cells #[.bool on, IV cut, .slice (SO DB) n n, .slice (SO VB) n n, .slice (SO B1) 1 cap] 82), (DB, .cells ⟨dur⟩ 5), (VB, .cells ⟨(over (vis) o (bytesL (s.data.toList.take (n - (Int.toNat off)))))⟩ 5), (B, .cells #[IV off, .string s] 111), (B1, .cells ⟨(([IV off, .string s] : List Value) ++ r6)⟩ 111)] (.il 63 [PP D] 21 Tryz.func63 (.ru 6 (.ld 0 1 (.ru 2 (.sP 6 H (fun H => ?_) fun H => ?_))))))
       ·refine .ru 1 (.rk Tryz.func63 (.ru 5 (.rt Tryz.func22 H)))
       ·refine .ru 7 (.ld 0 1 (.ru 3 (.store 0 1 (T := 3) (v := IV (IntKind.i64.wrap (cut - (1 : Int)))) (by kernel_rfl) (.ru 6 (.ld 0 1 (.ru 2 (.sP 18 H (fun H => ?_) fun H => ?_)))))))
        ·refine .ru 3 (.nm (KR Tryz.f63 30 [1]) [(19, PP D)] [(D, .cells #[.bool on, IV (IntKind.i64.wrap (cut - (1 : Int))), .slice (SO DB) n n, .slice (SO VB) n n, .slice (SO B1) 1 cap] 82), (DB, .cells ⟨dur⟩ 5), (VB, .cells ⟨(over (vis) o (bytesL (s.data.toList.take (n - (Int.toNat off)))))⟩ 5), (B, .cells #[IV off, .string s] 111), (B1, .cells ⟨(([IV off, .string s] : List Value) ++ r6)⟩ 111)] (.il 71 [PP D] 8 Tryz.func71 (.ru 5 (.store 0 0 (T := 4) (v := .bool false) (by kernel_rfl) (.ru 2 (.store 0 1 (T := 3) (v := IV 0) (by kernel_rfl) (.ru 1 (.rk Tryz.func71 (.ru 1 (.rk Tryz.func63 (.ru 5 (.rt Tryz.func22 H))))))))))))
        ·refine .ru 2 (.rk Tryz.func63 (.ru 5 (.rt Tryz.func22 H)))
     ·refine .ru 9 (.rk Tryz.func62 (.ru 7 (.rt Tryz.func22 H)))
    ·refine .ru 15 (.rk Tryz.func62 (.ru 7 (.rt Tryz.func22 H)))
   ·refine .ru 19 (.rk Tryz.func62 (.ru 7 (.rt Tryz.func22 H)))
  ·refine .ru 7 (.rk Tryz.func61 (.ru 13 (.rt Tryz.func22 H)))
theorem WriteR_vc (D : Nat) (on : Bool) (cut : Int) (DB n VB : Nat) (dur vis : List Value) (PB pl pc : Nat) (pd : List Value) (off : Int) (s : BA) (hm : Mem (yD1ab on cut dur vis pd D DB n VB PB pl pc) S w0 W)
 (H :
 ∀ t2 : Int, t2 = (n : Int) →
 Br (t2 = 0)
 (Fin R (yD1ab on cut dur vis pd D DB n VB PB pl pc) S w0 (IV 1))
 (Bb (on)
 (Br ((0 : Int) ≤ off)
 (Br ((0 : Int) ≤ (s.size : Int))
 (∀ t21 : Int, t21 = (n : Int) →
 Br ((s.size : Int) ≤ t21)
 (∀ t22 : Int, t22 = (n : Int) →
 Bn (off ≤ (IntKind.i64.wrap (t22 - (s.size : Int))))
 (Fin R (yD1ab on cut dur vis pd D DB n VB PB pl pc) S w0 (IV 230))
 (∀ B : Nat,
 (pl ≤ pc ∧ (pd).length = pc * 2) ∧ ((pl + 1) ≤ 9223372036854775807 ∧ (pl + 1) * 24 ≤ 140737488355328) ∧
 ∀ (B1 cap : Nat) (r6 : List Value), (pl + 1) ≤ cap → ((pd).take (pl * 2) ++ ([IV off, .string s] : List Value) ++ r6).length = cap * 2 →
 (0 ≤ off ∧ off ≤ (n : Int) ∧ (n : Int) ≤ (n : Int)) ∧
 ∀ o : Nat, o = (if (Int.toNat off) = n then 0 else 0 + (Int.toNat off) * 1) →
 (o + (n - (Int.toNat off)) ≤ (vis).length) ∧
 Br (cut = 0)
 (Fin R [(D, .cells #[.bool on, IV cut, .slice (SO DB) n n, .slice (SO VB) n n, .slice (SO B1) (pl + 1) cap] 82), (DB, .cells ⟨dur⟩ 5), (VB, .cells ⟨(over (vis) o (bytesL (s.data.toList.take (n - (Int.toNat off)))))⟩ 5), (B, .cells #[IV off, .string s] 111), (B1, .cells ⟨((pd).take (pl * 2) ++ ([IV off, .string s] : List Value) ++ r6)⟩ 111)] S w0 (IV 0))
 (Br ((IntKind.i64.wrap (cut - (1 : Int))) = (0 : Int))
 (Fin R [(D, .cells #[.bool false, IV 0, .slice (SO DB) n n, .slice (SO VB) n n, .slice (SO B1) (pl + 1) cap] 82), (DB, .cells ⟨dur⟩ 5), (VB, .cells ⟨(over (vis) o (bytesL (s.data.toList.take (n - (Int.toNat off)))))⟩ 5), (B, .cells #[IV off, .string s] 111), (B1, .cells ⟨((pd).take (pl * 2) ++ ([IV off, .string s] : List Value) ++ r6)⟩ 111)] S w0 (IV 0))
 (Fin R [(D, .cells #[.bool on, IV (IntKind.i64.wrap (cut - (1 : Int))), .slice (SO DB) n n, .slice (SO VB) n n, .slice (SO B1) (pl + 1) cap] 82), (DB, .cells ⟨dur⟩ 5), (VB, .cells ⟨(over (vis) o (bytesL (s.data.toList.take (n - (Int.toNat off)))))⟩ 5), (B, .cells #[IV off, .string s] 111), (B1, .cells ⟨((pd).take (pl * 2) ++ ([IV off, .string s] : List Value) ++ r6)⟩ 111)] S w0 (IV 0)))))
 (Fin R (yD1ab on cut dur vis pd D DB n VB PB pl pc) S w0 (IV 230)))
 (Fin R (yD1ab on cut dur vis pd D DB n VB PB pl pc) S w0 (IV 230)))
 (Fin R (yD1ab on cut dur vis pd D DB n VB PB pl pc) S w0 (IV 230)))
 (Fin R (yD1ab on cut dur vis pd D DB n VB PB pl pc) S w0 (IV 231)))) :
 Calls TP 22 ⟨[PP D, IV off, .string s]⟩ W R:= by
 refine AtE.cs 43 Tryz.func22 hm (.ru 8 (.il 61 [PP D] 12 Tryz.func61 (.ru 8 (.nm (KR Tryz.f61 12 [1,2]) [(0, PP D), (3, PP D)] (yD1ab on cut dur vis pd D DB n VB PB pl pc) (.il 42 [PP D] 10 Tryz.func42 (.ru 17 (.ld 0 2 (.ru 2 (.lI 2 H fun t2 H => (.ru 1 (.rk Tryz.func42 (.ru 2 (.sP 5 H (fun H => ?_) fun H => ?_)))))))))))))
 ·refine .ru 5 (.rk Tryz.func61 (.ru 13 (.rt Tryz.func22 H)))
 ·refine .ru 9 (.ld 0 0 (.sB 10 H (fun H => ?_) fun H => ?_))
  ·refine .ru 8 (.rk Tryz.func61 (.ru 16 (.nm (KR Tryz.f22 28 [4,5]) [(0, PP D), (1, IV off), (2, .string s), (13, PP D), (14, IV off), (16, IV (s.size : Int))] (yD1ab on cut dur vis pd D DB n VB PB pl pc) (.il 62 [PP D, IV off, IV (s.size : Int)] 27 Tryz.func62 (.ru 9 (.sP 9 H (fun H => ?_) fun H => ?_))))))
   ·refine .ru 4 (.sP 13 H (fun H => ?_) fun H => ?_)
    ·refine .ru 2 (.nm (KR Tryz.f62 6 [9,10,11,12,13,14,15,16,17,18,19,20]) [(0, PP D), (1, IV off), (2, IV (s.size : Int)), (13, .bool true), (14, IV (s.size : Int)), (15, PP D)] (yD1ab on cut dur vis pd D DB n VB PB pl pc) (.il 42 [PP D] 10 Tryz.func42 (.ru 17 (.ld 0 2 (.ru 2 (.lI 2 H fun t21 H => (.ru 1 (.rk Tryz.func42 (.ru 3 (.sP 19 H (fun H => ?_) fun H => ?_))))))))))
     ·refine .ru 2 (.nm (KR Tryz.f62 6 [15,16,17,18,19,20]) [(2, IV (s.size : Int)), (19, .bool true), (20, IV off), (21, PP D)] (yD1ab on cut dur vis pd D DB n VB PB pl pc) (.il 42 [PP D] 10 Tryz.func42 (.ru 17 (.ld 0 2 (.ru 2 (.lI 2 H fun t22 H => (.ru 1 (.rk Tryz.func42 (.ru 6 (.rk Tryz.func62 (.ru 2 (.sN 18 H (fun H => ?_) fun H => ?_))))))))))))
      ·refine .ru 5 (.rt Tryz.func22 H)
      ·refine .ru 8 (.ld 0 4 (.ru 3 (.nw (fun B => .slice (SO B) 1 1) (.cells #[IV off, .string s] 111) fun B => ?_)))
       replace H := H B
       refine .appendO 3 (T := 80) (E := 111) (z := .agg #[IV 0, .string (⟨#[]⟩)]) (sz := 2) (bytes := 24) (n := pl) (cap := pc) (a := ⟨B, 0, none⟩) (m := 1) (c := 1) (cs := pd) ([IV off, .string s] : List Value) (by kernel_rfl) (show Src _ _ _ _ ([IV off, .string s] : List Value) from Src.own (j := 4) (o := 0) (n := 2) (c := ([IV off, .string s] : List Value)) (by kernel_rfl)) (by simp) (by simp [Value.oneCell']) H.1 H.2.1 (fun B1 cap r6 h1 h2 => ?_)
       replace H := H.2.2 B1 cap r6 h1 h2
       refine .ru 2 (.store 0 4 (T := 80) (v := .slice (SO B1) (pl + 1) cap) (by kernel_rfl) (.ru 6 (.ld 0 3 (.ru 1 ?_))))
       obtain ⟨o, ho⟩ : ∃ x : Nat, x = (if (Int.toNat off) = n then 0 else 0 + (Int.toNat off) * 1) := ⟨_, rfl⟩
       refine .sliceL (E := 5) (b := VB) (o := 0) (len := n) (cap := n) (sz := 1) (o' := o) (l' := (n - (Int.toNat off))) (c' := (n - (Int.toNat off))) (lo := some (IV off)) (hi := none) (x := off) (y := (n : Int)) (by kernel_rfl) (.inl ⟨.i64, rfl⟩) (.inr ⟨rfl, rfl, by omega⟩) H.1 ho (by simp) rfl ?_
       replace H := H.2 o ho
       refine .ru 1 (.copyS 2 (T := 47) (E := 5) (U := 9) (o := o) (dl := (n - (Int.toNat off))) (dc := (n - (Int.toNat off))) (s := s) (c := vis) (by kernel_rfl) H.1 ?_)
       replace H := H.2
       refine .ru 6 (.nm (KR Tryz.f22 126 [3]) [(41, PP D)] [(D, .cells #[.bool on, IV cut, .slice (SO DB) n n, .slice (SO VB) n n, .slice (SO B1) (pl + 1) cap] 82), (DB, .cells ⟨dur⟩ 5), (VB, .cells ⟨(over (vis) o (bytesL (s.data.toList.take (n - (Int.toNat off)))))⟩ 5), (B, .cells #[IV off, .string s] 111), (B1, .cells ⟨((pd).take (pl * 2) ++ ([IV off, .string s] : List Value) ++ r6)⟩ 111)] (.il 63 [PP D] 21 Tryz.func63 (.ru 6 (.ld 0 1 (.ru 2 (.sP 6 H (fun H => ?_) fun H => ?_))))))
       ·refine .ru 1 (.rk Tryz.func63 (.ru 5 (.rt Tryz.func22 H)))
       ·refine .ru 7 (.ld 0 1 (.ru 3 (.store 0 1 (T := 3) (v := IV (IntKind.i64.wrap (cut - (1 : Int)))) (by kernel_rfl) (.ru 6 (.ld 0 1 (.ru 2 (.sP 18 H (fun H => ?_) fun H => ?_)))))))
        ·refine .ru 3 (.nm (KR Tryz.f63 30 [1]) [(19, PP D)] [(D, .cells #[.bool on, IV (IntKind.i64.wrap (cut - (1 : Int))), .slice (SO DB) n n, .slice (SO VB) n n, .slice (SO B1) (pl + 1) cap] 82), (DB, .cells ⟨dur⟩ 5), (VB, .cells ⟨(over (vis) o (bytesL (s.data.toList.take (n - (Int.toNat off)))))⟩ 5), (B, .cells #[IV off, .string s] 111), (B1, .cells ⟨((pd).take (pl * 2) ++ ([IV off, .string s] : List Value) ++ r6)⟩ 111)] (.il 71 [PP D] 8 Tryz.func71 (.ru 5 (.store 0 0 (T := 4) (v := .bool false) (by kernel_rfl) (.ru 2 (.store 0 1 (T := 3) (v := IV 0) (by kernel_rfl) (.ru 1 (.rk Tryz.func71 (.ru 1 (.rk Tryz.func63 (.ru 5 (.rt Tryz.func22 H))))))))))))
        ·refine .ru 2 (.rk Tryz.func63 (.ru 5 (.rt Tryz.func22 H)))
     ·refine .ru 9 (.rk Tryz.func62 (.ru 7 (.rt Tryz.func22 H)))
    ·refine .ru 15 (.rk Tryz.func62 (.ru 7 (.rt Tryz.func22 H)))
   ·refine .ru 19 (.rk Tryz.func62 (.ru 7 (.rt Tryz.func22 H)))
  ·refine .ru 7 (.rk Tryz.func61 (.ru 13 (.rt Tryz.func22 H)))
abbrev DRep (D : Nat) (d : DS) (F : SHeap) : Prop := DRepT 82 5 111 D d F
abbrev DP (D : Nat) : Value := .pointer (SO D)
def DRes (D : Nat) (v : Value) (d : DS) : Value → SHeap → Prop := fun u F => u = v ∧ DRep D d F
theorem Size_e {D : Nat} {d : DS} {F : SHeap} (h : DRep D d F) : EffC TP 42 ⟨[DP D]⟩ F (DRes D (.int .i64 d.vis.length) d) := by
 obtain ⟨hd, DB, VB, ⟨hp, rfl⟩ | ⟨PB, pc, r, h1, h2, rfl⟩⟩ := h <;> intro W hm
 ·refine SizeN_vc D _ _ DB _ VB _ _ hm ?_
  rintro _ rfl
  exact DK.fin ⟨rfl, hd, DB, VB, .inl ⟨hp, rfl⟩⟩
 ·refine SizeR_vc D _ _ DB _ VB _ _ PB _ pc _ hm ?_
  rintro _ rfl
  exact DK.fin ⟨rfl, hd, DB, VB, .inr ⟨PB, pc, r, h1, h2, rfl⟩⟩
theorem Pending_e {D : Nat} {d : DS} {F : SHeap} (h : DRep D d F) : EffC TP 28 ⟨[DP D]⟩ F (DRes D (.int .i64 d.pend.length) d) := by
 obtain ⟨hd, DB, VB, ⟨hp, rfl⟩ | ⟨PB, pc, r, h1, h2, rfl⟩⟩ := h <;> intro W hm
 ·refine PendingN_vc D _ _ DB _ VB _ _ hm ?_
  exact DK.fin ⟨by rw [hp]; rfl, hd, DB, VB, .inl ⟨hp, rfl⟩⟩
 ·refine PendingR_vc D _ _ DB _ VB _ _ PB _ pc _ hm ?_
  rintro _ rfl
  exact DK.fin ⟨rfl, hd, DB, VB, .inr ⟨PB, pc, r, h1, h2, rfl⟩⟩
theorem Cut_e {D : Nat} {d : DS} {F : SHeap} (h : DRep D d F) {n : Int} (hn : n ≤ 9223372036854775807) : EffC TP 29 ⟨[DP D, .int .i64 n]⟩ F (DRes D (.int .i64 (d.cutAt n).1) (d.cutAt n).2) := by
 have hk := DOk.cutAt h.1 hn
 unfold DS.cutAt at hk ⊢
 obtain ⟨hd, DB, VB, ⟨hp, rfl⟩ | ⟨PB, pc, r, h1, h2, rfl⟩⟩ := h <;> intro W hm
 ·refine CutN_vc D _ _ DB _ VB _ _ n hm ?_
  have := hd.pos
  rintro _ rfl
  refine ⟨fun h => absurd h (by omega), fun _ => ⟨fun hon => ?_, fun hon => ?_⟩⟩
  ·rw [if_neg (by simp [hon])] at hk ⊢
   refine ⟨fun hneg => ?_, fun hneg => ⟨fun h0 => ?_, fun h0 => ?_⟩⟩
   ·rw [if_pos hneg]; exact DK.fin ⟨rfl, hd, DB, VB, .inl ⟨hp, rfl⟩⟩
   ·rw [if_neg hneg, if_pos h0] at hk ⊢
    exact DK.fin ⟨rfl, hk, DB, VB, .inl ⟨hp, rfl⟩⟩
   ·rw [if_neg hneg, if_neg h0] at hk ⊢
    refine DK.fin ⟨rfl, hk, DB, VB, .inl ⟨hp, ?_⟩⟩
    simp only [Int.toNat_of_nonneg (Int.not_lt.1 hneg)]
  ·rw [if_pos hon]; exact DK.fin ⟨rfl, hd, DB, VB, .inl ⟨hp, rfl⟩⟩
 ·refine CutR_vc D _ _ DB _ VB _ _ PB _ pc _ n hm ?_
  have := hd.pos
  rintro _ rfl
  refine ⟨fun h => absurd h (by omega), fun _ => ⟨fun hon => ?_, fun hon => ?_⟩⟩
  ·rw [if_neg (by simp [hon])] at hk ⊢
   refine ⟨fun hneg => ?_, fun hneg => ⟨fun h0 => ?_, fun h0 => ?_⟩⟩
   ·rw [if_pos hneg]; exact DK.fin ⟨rfl, hd, DB, VB, .inr ⟨PB, pc, r, h1, h2, rfl⟩⟩
   ·rw [if_neg hneg, if_pos h0] at hk ⊢
    exact DK.fin ⟨rfl, hk, DB, VB, .inr ⟨PB, pc, r, h1, h2, rfl⟩⟩
   ·rw [if_neg hneg, if_neg h0] at hk ⊢
    refine DK.fin ⟨rfl, hk, DB, VB, .inr ⟨PB, pc, r, h1, h2, ?_⟩⟩
    simp only [Int.toNat_of_nonneg (Int.not_lt.1 hneg)]
  ·rw [if_pos hon]; exact DK.fin ⟨rfl, hd, DB, VB, .inr ⟨PB, pc, r, h1, h2, rfl⟩⟩
theorem read_bytes {d : DS} {off n : Int} (h : 0 ≤ off ∧ 0 ≤ n ∧ off + n ≤ d.vis.length) {o : Nat} (ho : o = (if off.toNat = d.vis.length then 0 else 0 + off.toNat * 1)) :
  (((bytesL d.vis).drop o).take ((off + n).toNat - off.toNat) = bytesL ((d.vis.drop off.toNat).take n.toNat) ∧ ((d.vis.drop off.toNat).take n.toNat).length = (off + n).toNat - off.toNat) := by
 have e : (off + n).toNat - off.toNat = n.toNat := by omega
 rw [e]
 constructor
 ·by_cases hc : off.toNat = d.vis.length
  ·have : n.toNat = 0 := by omega
   simp [this, bytesL]
  ·rw [if_neg hc] at ho
   rw [ho]; simp [bytesL]
 ·simp; omega
theorem Read_e {D : Nat} {d : DS} {F : SHeap} (h : DRep D d F) {off n : Int} (ho : -9223372036854775808 ≤ off ∧ off ≤ 9223372036854775807) :
  EffC TP 43 ⟨[DP D, .int .i64 off, .int .i64 n]⟩ F (DRes D (.tuple #[.string (d.read off n).1, .int .i64 (d.read off n).2]) d) := by
 unfold DS.read
 have hpos := h.1.pos
 have hle := h.1.le
 have key : ∀ L, DRep D d L → ∀ S W, ((d.on = true) → ¬ (0 ≤ off ∧ 0 ≤ n ∧ off + n ≤ d.vis.length) → Fin (fun e W' => ∃ v L', e = .returned v ∧ Mem L' S W W' ∧ DRes D (.tuple #[.string (if d.on = false then (⟨#[]⟩, 231) else if 0 ≤ off ∧ 0 ≤ n ∧ off + n ≤ d.vis.length then (⟨((d.vis.drop off.toNat).take n.toNat).toArray⟩, 0) else (⟨#[]⟩, 230) : BA × Int).1, .int .i64 (if d.on = false then (⟨#[]⟩, 231) else if 0 ≤ off ∧ 0 ≤ n ∧ off + n ≤ d.vis.length then (⟨((d.vis.drop off.toNat).take n.toNat).toArray⟩, 0) else (⟨#[]⟩, 230) : BA × Int).2]) d v L') L S W (.tuple #[.string (⟨#[]⟩), .int .i64 (230 : Int)])) ∧
   ((d.on = false) → Fin (fun e W' => ∃ v L', e = .returned v ∧ Mem L' S W W' ∧ DRes D (.tuple #[.string (if d.on = false then (⟨#[]⟩, 231) else if 0 ≤ off ∧ 0 ≤ n ∧ off + n ≤ d.vis.length then (⟨((d.vis.drop off.toNat).take n.toNat).toArray⟩, 0) else (⟨#[]⟩, 230) : BA × Int).1, .int .i64 (if d.on = false then (⟨#[]⟩, 231) else if 0 ≤ off ∧ 0 ≤ n ∧ off + n ≤ d.vis.length then (⟨((d.vis.drop off.toNat).take n.toNat).toArray⟩, 0) else (⟨#[]⟩, 230) : BA × Int).2]) d v L') L S W (.tuple #[.string (⟨#[]⟩), .int .i64 (231 : Int)])) := by
  intro L hL S W
  refine ⟨fun hon hb => DK.fin ?_, fun hon => DK.fin ?_⟩
  ·rw [if_neg (by simp [hon]), if_neg hb]; exact ⟨rfl, hL⟩
  ·rw [if_pos hon]; exact ⟨rfl, hL⟩
 obtain ⟨hd, DB, VB, ⟨hp, rfl⟩ | ⟨PB, pc, r, h1, h2, rfl⟩⟩ := h <;> intro W hm
 ·have hR : DRep D d _ := ⟨hd, DB, VB, .inl ⟨hp, rfl⟩⟩
  have k2 := key _ hR (List.map (·.1) [hdr 82 D DB VB d.vis.length d.on d.cut (.slice none 0 0), (DB, .cells ⟨bytesL d.dur⟩ 5), (VB, .cells ⟨bytesL d.vis⟩ 5)]) W
  refine ReadN_vc D _ _ DB _ VB _ _ off n hm ?_
  rintro _ rfl
  refine ⟨fun h => absurd h (by omega), fun _ => ⟨fun hon => ⟨fun h0 => ⟨fun hn => ?_, fun hn => k2.1 hon (by omega)⟩, fun h0 => k2.1 hon (by omega)⟩, fun hon => k2.2 hon⟩⟩
  rintro _ rfl
  refine ⟨fun hle => ?_, fun hle => k2.1 hon (by omega)⟩
  rintro _ rfl
  rw [wi64 (by omega)]
  refine ⟨fun hb => k2.1 hon (by omega), fun hb => ?_⟩
  rw [wi64 (by omega)]
  refine ⟨by omega, ?_⟩
  intro o ho'
  refine ⟨_, read_bytes ⟨h0, hn, by omega⟩ ho', ?_⟩
  rintro _ rfl
  refine DK.fin ?_
  rw [if_neg (by simp [hon]), if_pos ⟨h0, hn, by omega⟩]
  exact ⟨rfl, hR⟩
 ·have hR : DRep D d _ := ⟨hd, DB, VB, .inr ⟨PB, pc, r, h1, h2, rfl⟩⟩
  have k2 := key _ hR (List.map (·.1) [hdr 82 D DB VB d.vis.length d.on d.cut (.slice (SO PB) d.pend.length pc), (DB, .cells ⟨bytesL d.dur⟩ 5), (VB, .cells ⟨bytesL d.vis⟩ 5), (PB, .cells ⟨pendCells d.pend ++ r⟩ 111)]) W
  refine ReadR_vc D _ _ DB _ VB _ _ PB _ pc _ off n hm ?_
  rintro _ rfl
  refine ⟨fun h => absurd h (by omega), fun _ => ⟨fun hon => ⟨fun h0 => ⟨fun hn => ?_, fun hn => k2.1 hon (by omega)⟩, fun h0 => k2.1 hon (by omega)⟩, fun hon => k2.2 hon⟩⟩
  rintro _ rfl
  refine ⟨fun hle => ?_, fun hle => k2.1 hon (by omega)⟩
  rintro _ rfl
  rw [wi64 (by omega)]
  refine ⟨fun hb => k2.1 hon (by omega), fun hb => ?_⟩
  rw [wi64 (by omega)]
  refine ⟨by omega, ?_⟩
  intro o ho'
  refine ⟨_, read_bytes ⟨h0, hn, by omega⟩ ho', ?_⟩
  rintro _ rfl
  refine DK.fin ?_
  rw [if_neg (by simp [hon]), if_pos ⟨h0, hn, by omega⟩]
  exact ⟨rfl, hR⟩
theorem sync_dur {d : DS} (hd : DOk d) : over (bytesL d.dur) 0 (((bytesL d.vis).drop 0).take (min d.vis.length d.vis.length)) = bytesL d.vis := by
 rw [Nat.min_self, List.drop_zero, List.take_of_length_le (by rw [bytesL_length]; exact Nat.le_refl _), bytesL_ovr, ovr_all hd.len]
theorem forget_len {l : List (Nat × BA)} {r : List Value} {pc : Nat} (h : (pendCells l ++ r).length = pc * 2) :
  (pendCells [] ++ over (pendCells l ++ r) 0 (noughtL #[.int .i64 (0 : Int), .string (⟨#[]⟩)] l.length)).length = pc * 2 := by
 have e : pendCells [] = [] := rfl
 have hn : (noughtL #[.int .i64 (0 : Int), .string (⟨#[]⟩)] l.length).length = l.length * 2 := noughtL_len _ _
 have hp := pendCells_len l
 rw [List.length_append] at h
 rw [e, List.nil_append, over_length (by rw [hn, List.length_append]; omega), List.length_append, h]
theorem Sync_e {D : Nat} {d : DS} {F : SHeap} (h : DRep D d F) : EffC TP 68 ⟨[DP D]⟩ F (DRes D (.int .i64 d.sync.1) d.sync.2) := by
 have hk := DOk.sync h.1
 unfold DS.sync at hk ⊢
 have hpos := h.1.pos
 have hl : (((bytesL d.vis).drop 0).take (min d.vis.length d.vis.length)).length = min d.vis.length d.vis.length := by
  rw [List.length_take, List.drop_zero, bytesL_length]; omega
 have ho : ∀ u ∈ (((bytesL d.vis).drop 0).take (min d.vis.length d.vis.length)), u.oneCell' = true := fun u hu => bytesL_one _ u (List.mem_of_mem_drop (List.mem_of_mem_take hu))
 have hb : 0 + (((bytesL d.vis).drop 0).take (min d.vis.length d.vis.length)).length ≤ (bytesL d.dur).length := by rw [hl, bytesL_length, h.1.len]; omega
 obtain ⟨hd, DB, VB, ⟨hp, rfl⟩ | ⟨PB, pc, r, h1, h2, rfl⟩⟩ := h <;> intro W hm
 ·refine SyncN_vc D _ _ DB _ VB _ _ hm ?_
  rintro _ rfl
  refine ⟨fun h => absurd h (by omega), fun _ => ⟨fun hon => ⟨hl, ho, hb, ?_⟩, fun hon => ?_⟩⟩
  ·rw [if_neg (by simp [hon])] at hk ⊢
   rw [sync_dur hd]
   exact DK.fin ⟨rfl, hk, DB, VB, .inl ⟨rfl, rfl⟩⟩
  ·rw [if_pos hon]; exact DK.fin ⟨rfl, hd, DB, VB, .inl ⟨hp, rfl⟩⟩
 ·refine SyncR_vc D _ _ DB _ VB _ _ PB _ pc _ hm ?_
  rintro _ rfl
  refine ⟨fun h => absurd h (by omega), fun _ => ⟨fun hon => ⟨hl, ho, hb, by rw [List.length_append, pendCells_len]; omega, by omega, ?_⟩, fun hon => ?_⟩⟩
  ·rw [if_neg (by simp [hon])] at hk ⊢
   rw [sync_dur hd]
   refine DK.fin ⟨rfl, hk, DB, VB, .inr ⟨PB, pc, _, Nat.zero_le _, ?_, rfl⟩⟩
   exact forget_len h2
  ·rw [if_pos hon]; exact DK.fin ⟨rfl, hd, DB, VB, .inr ⟨PB, pc, r, h1, h2, rfl⟩⟩
theorem write_vis {d : DS} {off : Int} {s : BA} (h : 0 ≤ off ∧ off + s.size ≤ d.vis.length) {o : Nat} (ho : o = (if off.toNat = d.vis.length then 0 else 0 + off.toNat * 1)) :
  o + (d.vis.length - off.toNat) ≤ (bytesL d.vis).length ∧ over (bytesL d.vis) o (bytesL (s.data.toList.take (d.vis.length - off.toNat))) = bytesL (ovr d.vis off.toNat (bts s)) := by
 have hs : (bts s).length = s.size := bts_len s
 have ht : s.data.toList.take (d.vis.length - off.toNat) = bts s := List.take_of_length_le (by show (bts s).length ≤ _; omega)
 rw [ht, bytesL_length]
 by_cases hc : off.toNat = d.vis.length
 ·rw [if_pos hc] at ho
  have h0 : s.size = 0 := by omega
  have hn : bts s = [] := List.eq_nil_of_length_eq_zero (by omega)
  subst ho
  refine ⟨by omega, ?_⟩
  rw [hn, ovr_nil, bytesL_ovr, ovr_nil]
 ·rw [if_neg hc] at ho
  rw [show o = off.toNat by omega]
  exact ⟨by omega, bytesL_ovr _ _ _⟩
theorem Write_e {D : Nat} {d : DS} {F : SHeap} (h : DRep D d F) (hlen : d.pend.length < 1000000) {off : Int} {s : BA} :
  EffC TP 22 ⟨[DP D, .int .i64 off, .string s]⟩ F (DRes D (.int .i64 (d.write off s).1) (d.write off s).2) := by
 have hk := DOk.write h.1 off s
 unfold DS.write at hk ⊢
 have hpos := h.1.pos
 have hle := h.1.le
 have hcut := h.1.cut
 have bad : ∀ L, DRep D d L → ∀ S W, d.on = true → ¬ (0 ≤ off ∧ off + s.size ≤ d.vis.length) → Fin (fun e W' => ∃ v L', e = .returned v ∧ Mem L' S W W' ∧ DRes D (.int .i64 (if d.on = false then (231, d) else if 0 ≤ off ∧ off + s.size ≤ d.vis.length then (0, (d.put off.toNat s).spend) else (230, d) : Int × DS).1) (if d.on = false then (231, d) else if 0 ≤ off ∧ off + s.size ≤ d.vis.length then (0, (d.put off.toNat s).spend) else (230, d) : Int × DS).2 v L') L S W (.int .i64 (230 : Int)) := by
  intro L hL S W hon hb
  refine DK.fin ?_
  rw [if_neg (by simp [hon]), if_neg hb]; exact ⟨rfl, hL⟩
 obtain ⟨hd, DB, VB, ⟨hp, rfl⟩ | ⟨PB, pc, r, h1, h2, rfl⟩⟩ := h <;> intro W hm
 ·have hR : DRep D d _ := ⟨hd, DB, VB, .inl ⟨hp, rfl⟩⟩
  have k2 := bad _ hR (List.map (·.1) [hdr 82 D DB VB d.vis.length d.on d.cut (.slice none 0 0), (DB, .cells ⟨bytesL d.dur⟩ 5), (VB, .cells ⟨bytesL d.vis⟩ 5)]) W
  refine WriteN_vc D _ _ DB _ VB _ _ off s hm ?_
  rintro _ rfl
  refine ⟨fun h => absurd h (by omega), fun _ => ⟨fun hon => ⟨fun h0 => ⟨fun _ => ?_, fun h => absurd (by omega) h⟩, fun h0 => k2 hon (by omega)⟩, fun hon => ?_⟩⟩
  ·rintro _ rfl
   refine ⟨fun hs => ?_, fun hs => k2 hon (by omega)⟩
   rintro _ rfl
   rw [wi64 (by omega)]
   refine ⟨fun hb => k2 hon (by omega), fun hb => ?_⟩
   have hbb : 0 ≤ off ∧ off + s.size ≤ d.vis.length := by omega
   have ew : (if d.on = false then (231, d) else if 0 ≤ off ∧ off + s.size ≤ d.vis.length then (0, (d.put off.toNat s).spend) else (230, d) : Int × DS) = (0, (d.put off.toNat s).spend) := by
    rw [if_neg (by simp [hon]), if_pos hbb]
   rw [ew] at hk ⊢
   intro B B1 cap r1 hc1 hc2
   refine ⟨by omega, ?_⟩
   intro o ho
   obtain ⟨w1, w2⟩ := write_vis hbb ho
   rw [w2]
   refine ⟨w1, ?_⟩
   have hvl : (ovr d.vis off.toNat (bts s)).length = d.vis.length := ovr_len (by rw [bts_len]; omega)
   have hoff : ((off.toNat : Nat) : Int) = off := Int.toNat_of_nonneg h0
   have hpc : pendCells (d.pend ++ [(off.toNat, s)]) = [.int .i64 off, .string s] := by rw [hp]; simp [pendCells, hoff]
   have hpl : (d.pend ++ [(off.toNat, s)]).length = 1 := by rw [hp]; rfl
   unfold DS.spend DS.put at hk ⊢
   simp only at hk ⊢
   refine ⟨fun hc => ?_, fun hc => ⟨fun hc0 => ?_, fun hc0 => ?_⟩⟩
   ·rw [if_pos (by omega)] at hk ⊢
    refine DK.fin' [0, 1, 2, 4] rfl ⟨rfl, hk, DB, VB, .inr ⟨B1, cap, r1, ?_, ?_, ?_⟩⟩ <;> simp only [hpc, hpl, hvl]
    ·exact hc1
    ·exact hc2
    ·rfl
   ·rw [wi64 (by omega)] at hc0
    rw [if_neg (by omega), if_pos (by omega)] at hk ⊢
    refine DK.fin' [0, 1, 2, 4] rfl ⟨rfl, hk, DB, VB, .inr ⟨B1, cap, r1, ?_, ?_, ?_⟩⟩ <;> simp only [hpc, hpl, hvl]
    ·exact hc1
    ·exact hc2
    ·rfl
   ·rw [wi64 (by omega)] at hc0
    rw [wi64 (by omega)]
    rw [if_neg (by omega), if_neg (by omega)] at hk ⊢
    refine DK.fin' [0, 1, 2, 4] rfl ⟨rfl, hk, DB, VB, .inr ⟨B1, cap, r1, ?_, ?_, ?_⟩⟩ <;> simp only [hpc, hpl, hvl]
    ·exact hc1
    ·exact hc2
    ·rw [show ((d.cut : Int) - 1) = ((d.cut - 1 : Nat) : Int) by omega]; rfl
  ·refine DK.fin ?_
   rw [if_pos hon]; exact ⟨rfl, hR⟩
 ·have hR : DRep D d _ := ⟨hd, DB, VB, .inr ⟨PB, pc, r, h1, h2, rfl⟩⟩
  have k2 := bad _ hR (List.map (·.1) [hdr 82 D DB VB d.vis.length d.on d.cut (.slice (SO PB) d.pend.length pc), (DB, .cells ⟨bytesL d.dur⟩ 5), (VB, .cells ⟨bytesL d.vis⟩ 5), (PB, .cells ⟨pendCells d.pend ++ r⟩ 111)]) W
  refine WriteR_vc D _ _ DB _ VB _ _ PB _ pc _ off s hm ?_
  rintro _ rfl
  refine ⟨fun h => absurd h (by omega), fun _ => ⟨fun hon => ⟨fun h0 => ⟨fun _ => ?_, fun h => absurd (by omega) h⟩, fun h0 => k2 hon (by omega)⟩, fun hon => ?_⟩⟩
  ·rintro _ rfl
   refine ⟨fun hs => ?_, fun hs => k2 hon (by omega)⟩
   rintro _ rfl
   rw [wi64 (by omega)]
   refine ⟨fun hb => k2 hon (by omega), fun hb => ?_⟩
   have hbb : 0 ≤ off ∧ off + s.size ≤ d.vis.length := by omega
   have ew : (if d.on = false then (231, d) else if 0 ≤ off ∧ off + s.size ≤ d.vis.length then (0, (d.put off.toNat s).spend) else (230, d) : Int × DS) = (0, (d.put off.toNat s).spend) := by
    rw [if_neg (by simp [hon]), if_pos hbb]
   rw [ew] at hk ⊢
   intro B
   refine ⟨⟨h1, h2⟩, ⟨by omega, by omega⟩, ?_⟩
   intro B1 cap r1 hc1 hc2
   refine ⟨by omega, ?_⟩
   intro o ho
   obtain ⟨w1, w2⟩ := write_vis hbb ho
   rw [w2]
   refine ⟨w1, ?_⟩
   have hvl : (ovr d.vis off.toNat (bts s)).length = d.vis.length := ovr_len (by rw [bts_len]; omega)
   have hoff : ((off.toNat : Nat) : Int) = off := Int.toNat_of_nonneg h0
   have htk : (pendCells d.pend ++ r).take (d.pend.length * 2) = pendCells d.pend := List.take_left' (pendCells_len _)
   rw [htk] at hc2 ⊢
   have hpc : pendCells (d.pend ++ [(off.toNat, s)]) = pendCells d.pend ++ [.int .i64 off, .string s] := by rw [pendCells_append]; simp [pendCells, hoff]
   have hpl : (d.pend ++ [(off.toNat, s)]).length = d.pend.length + 1 := by simp
   unfold DS.spend DS.put at hk ⊢
   simp only at hk ⊢
   refine ⟨fun hc => ?_, fun hc => ⟨fun hc0 => ?_, fun hc0 => ?_⟩⟩
   ·rw [if_pos (by omega)] at hk ⊢
    refine DK.fin' [0, 1, 2, 4] rfl ⟨rfl, hk, DB, VB, .inr ⟨B1, cap, r1, ?_, ?_, ?_⟩⟩ <;> simp only [hpc, hpl, hvl]
    ·exact hc1
    ·exact hc2
    ·rfl
   ·rw [wi64 (by omega)] at hc0
    rw [if_neg (by omega), if_pos (by omega)] at hk ⊢
    refine DK.fin' [0, 1, 2, 4] rfl ⟨rfl, hk, DB, VB, .inr ⟨B1, cap, r1, ?_, ?_, ?_⟩⟩ <;> simp only [hpc, hpl, hvl]
    ·exact hc1
    ·exact hc2
    ·rfl
   ·rw [wi64 (by omega)] at hc0
    rw [wi64 (by omega)]
    rw [if_neg (by omega), if_neg (by omega)] at hk ⊢
    refine DK.fin' [0, 1, 2, 4] rfl ⟨rfl, hk, DB, VB, .inr ⟨B1, cap, r1, ?_, ?_, ?_⟩⟩ <;> simp only [hpc, hpl, hvl]
    ·exact hc1
    ·exact hc2
    ·rw [show ((d.cut : Int) - 1) = ((d.cut - 1 : Nat) : Int) by omega]; rfl
  ·refine DK.fin ?_
   rw [if_pos hon]; exact ⟨rfl, hR⟩
end Go.Eng
