/- A part of the proof: the engine by which functions are walked, verification conditions that a program of the prover wrote, contracts and plain laws; no claim of its own. -/
import Derived.Test.YtobhboeiheeghaaDoorPlaD
namespace Go.Eng
open Go Go.RowKit Go.Proofs Wire
set_option linter.unusedVariables false
abbrev tBlk (B : Nat) (s : ByteArray) : Nat × Obj := (B, .cells #[.string s] 9)
theorem iter_loop {B yl : Nat} {s : ByteArray} (hs : s.size < 4611686018427387904) {S : List Nat} {w0 : World} {R : Ending → World → Prop} {I : List (List UInt8) → SHeap → Prop}
    (hy : ∀ l F x, l.length ≤ s.size → I l F → YieldH Tryd.prog yl ⟨[.string (ba x)]⟩ (tBlk B s :: F) S w0 (fun v L' => ∃ F', v = .bool true ∧ L' = tBlk B s :: F' ∧ I (l ++ [x]) F'))
    (hR : ∀ F, I (senOf (bts s)) F → Fin R (tBlk B s :: F) S w0 (.tuple #[])) :
    ∀ (g i a : Nat) (l : List (List UInt8)) (F : SHeap), g + i = s.size → a ≤ i → l.length ≤ i → I l F → l ++ senAt (bts s) a i = senOf (bts s) → iter_c0 B yl (a : Int) (i : Int) s F S w0 R
  | 0, i, a, l, F, hg, ha, hl, hI, he => by
    apply iter_c0_vc
    have hlen := bts_len s
    have hx : bts (s.extract (Int.toNat (a : Int)) s.size) = (bts s).drop a := by
      rw [bts_ext, seg, Int.toNat_natCast, List.take_of_length_le (by simp only [List.length_drop]; omega)]
    rw [senAt_end ha (by omega)] at he
    refine no (by omega) ⟨by omega, CallH.pure (trim_c _ (by rw [← bts_len, hx]; simp only [List.length_drop]; omega)) ⟨_, rfl, rfl, ?_⟩⟩
    rw [hx]
    refine ⟨fun h => ?_, fun h => ?_⟩
    · refine (hy l F _ (by omega) hI).mono ?_
      rintro v L' ⟨F', rfl, rfl, hI'⟩
      refine ⟨true, F', rfl, rfl, hR F' ?_⟩
      rw [if_neg (fun h0 => h (by rw [h0]))] at he
      rw [← he]; exact hI'
    · have h0 : trimS ((bts s).drop a) = [] := by
        have := congrArg bts h
        rw [bts_mk] at this; exact this
      rw [if_pos h0, List.append_nil] at he
      exact hR F (by rw [← he]; exact hI)
  | g + 1, i, a, l, F, hg, ha, hl, hI, he => by
    apply iter_c0_vc
    have hlen := bts_len s
    have hi : i < (bts s).length := by omega
    have w1 : IntKind.i64.wrap ((i : Int) + 1) = ((i + 1 : Nat) : Int) := by rw [wi64 (by omega)]; omega
    simp only [w1, Int.toNat_natCast]
    have hend := end_spec (s := s) (i := i) (by omega)
    have hx : bts (s.extract a (i + 1)) = seg (bts s) a (i + 1) := bts_ext s a (i + 1)
    have skip : endAt (bts s) i = false → ∀ x : Int, x = ((i + 1 : Nat) : Int) → iter_c0 B yl (a : Int) x s F S w0 R := by
      rintro hf _ rfl
      exact iter_loop hs hy hR g (i + 1) a l F (by omega) (by omega) (by omega) hI (by rw [← he, senAt_no ha hi hf])
    have emit : endAt (bts s) i = true → CallH Tryd.prog 88 ⟨[.string (s.extract a (i + 1)), .string (⟨#[32]⟩)]⟩ (tBlk B s :: F) S w0 (fun v L' => ∃ (r21 : ByteArray), v = (.string r21) ∧ L' = (tBlk B s :: F) ∧
        YieldH Tryd.prog yl ⟨[.string r21]⟩ (tBlk B s :: F) S w0 (fun v L' => ∃ (go : Bool) (F2 : SHeap), v = .bool go ∧ L' = (tBlk B s :: F2) ∧
          ((go = true) → ∀ start1 : Int, start1 = ((i + 1 : Nat) : Int) → ∀ atv3 : Int, atv3 = ((i + 1 : Nat) : Int) → iter_c0 B yl start1 atv3 s F2 S w0 R) ∧
          ((go = false) → Fin R (tBlk B s :: F2) S w0 (.tuple #[])))) := by
      intro ht
      refine CallH.pure (trim_c _ (by rw [← bts_len, hx, seg, List.length_take, List.length_drop]; omega)) ⟨_, rfl, rfl, ?_⟩
      rw [hx]
      refine (hy l F _ (by omega) hI).mono ?_
      rintro v L' ⟨F', rfl, rfl, hI'⟩
      refine ⟨true, F', rfl, rfl, fun _ => ?_, fun h => Bool.noConfusion h⟩
      rintro _ rfl _ rfl
      refine iter_loop hs hy hR g (i + 1) (i + 1) _ F' (by omega) (by omega) (by simp; omega) hI' ?_
      rw [← he, senAt_yes ha hi ht, List.append_assoc]; rfl
    have sk : ∀ {p : Prop} [Decidable p], (endAt (bts s) i = decide p) → ¬ p → endAt (bts s) i = false := fun h hp => by rw [h]; exact decide_eq_false hp
    have yT : decide ((i : Int) + 1 < s.size → bat s ((i : Int) + 1) = 32) = true → bat s (i : Int) = 33 ∨ bat s (i : Int) = 63 ∨ (bat s (i : Int) = 46 ∧ initAt (bts s) i = false) → endAt (bts s) i = true := by
      intro h1 h2
      rw [hend, h1, Bool.true_and]
      rcases h2 with h | h | ⟨h, h'⟩
      · simp [h]
      · simp [h]
      · simp [h, h']
    have yF : decide ((i : Int) + 1 < s.size → bat s ((i : Int) + 1) = 32) = false → endAt (bts s) i = false := fun h => by rw [hend, h, Bool.false_and]
    have c1 : ((i + 1 : Nat) : Int) = (i : Int) + 1 := by omega
    refine yes (by omega) ⟨by omega, fun h46 => ?_, fun h46 => ⟨fun h33 => ?_, fun h33 => ⟨fun h63 => ?_, fun h63 => ?_⟩⟩⟩
    · refine CallH.pure (initB_c s hs (by omega)) ⟨_, rfl, rfl, fun hin => ?_, fun hin => ?_⟩
      · exact skip (by rw [hend]; simp [h46, hin])
      · refine ⟨fun hlt => ⟨by omega, fun hn => skip (yF (decide_eq_false (by rw [← c1]; omega))), fun hn => ⟨by omega, emit (yT (decide_eq_true (by rw [← c1]; omega)) (.inr (.inr ⟨h46, hin⟩)))⟩⟩, fun hlt => ⟨by omega, emit (yT (decide_eq_true (by rw [← c1]; omega)) (.inr (.inr ⟨h46, hin⟩)))⟩⟩
    · refine ⟨fun hlt => ⟨by omega, fun hn => skip (yF (decide_eq_false (by rw [← c1]; omega))), fun hn => ⟨by omega, emit (yT (decide_eq_true (by rw [← c1]; omega)) (.inl h33))⟩⟩, fun hlt => ⟨by omega, emit (yT (decide_eq_true (by rw [← c1]; omega)) (.inl h33))⟩⟩
    · refine ⟨fun hlt => ⟨by omega, fun hn => skip (yF (decide_eq_false (by rw [← c1]; omega))), fun hn => ⟨by omega, emit (yT (decide_eq_true (by rw [← c1]; omega)) (.inr (.inl h63)))⟩⟩, fun hlt => ⟨by omega, emit (yT (decide_eq_true (by rw [← c1]; omega)) (.inr (.inl h63)))⟩⟩
    · exact skip (by rw [hend]; simp [h46, h33, h63])
theorem iter_h {B yl : Nat} {s : ByteArray} (hs : s.size < 4611686018427387904) {S : List Nat} {w0 : World} {F : SHeap} {K : Value → SHeap → Prop} (I : List (List UInt8) → SHeap → Prop) (h0 : I [] F)
    (hy : ∀ l F x, l.length ≤ s.size → I l F → YieldH Tryd.prog yl ⟨[.string (ba x)]⟩ (tBlk B s :: F) S w0 (fun v L' => ∃ F', v = .bool true ∧ L' = tBlk B s :: F' ∧ I (l ++ [x]) F'))
    (hK : ∀ F, I (senOf (bts s)) F → K (.tuple #[]) (tBlk B s :: F)) : CallH Tryd.prog 86 ⟨[.func (.yield yl) #[] #[], .pointer (some ⟨B, 0, none⟩)]⟩ (tBlk B s :: F) S w0 K :=
  fun W hm => iter_vc yl B s F hm (iter_loop hs hy (fun F' hI => dkFin (hK F' hI)) s.size 0 0 [] F (by omega) (Nat.le_refl _) (Nat.zero_le _) h0 (senOf_at _).symm)
theorem CallH.old {P : Program} {g : FuncId} {args : Array Value} {L : SHeap} {w0 : World} {K : Value → SHeap → Prop} {B : Nat} {X : Obj} (hX : w0.heap[B]? = some X)
    (h : CallH P g args ((B, X) :: L) [B] w0 (fun v L' => ∃ F', L' = (B, X) :: F' ∧ K v F')) : CallH P g args L [] w0 K := by
  intro W hm
  have hB : B < w0.heap.size := (Array.getElem?_eq_some_iff.1 hX).1
  have hlt : ∀ p ∈ L, w0.heap.size ≤ p.1 := fun p hp => (hm.own p hp).resolve_right (by simp)
  refine (h W ⟨?_, ?_, ?_, ?_⟩).mono ?_
  · rw [List.map_cons, List.nodup_cons]
    refine ⟨fun h0 => ?_, hm.nodup⟩
    obtain ⟨q, hq, hqe⟩ := List.mem_map.1 h0
    have := hlt q hq
    omega
  · intro p hp
    rcases List.mem_cons.1 hp with rfl | hp
    · rw [hm.kept.block B hB (by simp)]; exact hX
    · exact hm.here p hp
  · intro p hp
    rcases List.mem_cons.1 hp with rfl | hp
    · exact .inr (by simp)
    · exact .inl (hlt p hp)
  · exact ⟨hm.kept.os, hm.kept.tape, hm.kept.output, hm.kept.size, fun i hi _ => hm.kept.block i hi (by simp)⟩
  · rintro e W' ⟨v, L', rfl, hm', F', rfl, hk⟩
    have hnd := hm'.nodup
    rw [List.map_cons, List.nodup_cons] at hnd
    refine ⟨v, F', rfl, ⟨hnd.2, fun p hp => hm'.here p (List.mem_cons_of_mem _ hp), fun p hp => ?_, ?_⟩, hk⟩
    · rcases hm'.own p (List.mem_cons_of_mem _ hp) with h1 | h1
      · exact .inl h1
      · exact absurd (List.mem_map_of_mem (f := fun x : Nat × Obj => x.1) hp) (by rw [List.mem_singleton.1 h1]; exact hnd.1)
    · refine ⟨hm'.kept.os, hm'.kept.tape, hm'.kept.output, hm'.kept.size, fun i hi _ => ?_⟩
      by_cases h1 : i = B
      · subst h1
        rw [hm'.here (i, X) List.mem_cons_self, hX]
      · exact hm'.kept.block i hi (by simp [h1])
def senB (s : ByteArray) : List ByteArray := (senOf (bts s)).map ba
def SRow (cs : List Value) (l : List (List UInt8)) : Prop := ∀ i (h : i < l.length), cs[i]? = some (.string (ba l[i]))
theorem SRow.app {cs r : List Value} {l : List (List UInt8)} {x : List UInt8} {cap : Nat} (h : SRow cs l) (h1 : l.length ≤ cap) (h2 : cs.length = cap * 1) : SRow (cs.take (l.length * 1) ++ [.string (ba x)] ++ r) (l ++ [x]) := by
  intro i hi
  rw [List.length_append, List.length_singleton] at hi
  rw [Nat.mul_one] at *
  rcases Nat.lt_or_ge i l.length with hlt | hge
  · rw [at_old hlt (by omega), List.getElem_append_left hlt]
    exact h i hlt
  · obtain rfl : i = l.length := by omega
    rw [at_new (by omega)]
    simp
theorem SRow.one {r : List Value} {x : List UInt8} : SRow ([.string (ba x)] ++ r) [x] := by
  intro i hi
  obtain rfl : i = 0 := by simp at hi; omega
  rfl
theorem SRow.sl {F : SHeap} {cs : List Value} {l : List (List UInt8)} {Q t : Nat} {fz : Nat × Nat} (h : SRow cs l) (hm : (Q, Obj.cells ⟨cs⟩ t fz) ∈ F) : StrsL (lkF F) (some ⟨Q, 0, none⟩) (l.map ba) :=
  fun _ => ⟨Q, 0, cs, rfl, ⟨t, fz, hm⟩, fun i hi => by
    rw [Nat.zero_add, h i (by simpa using hi)]; simp⟩
theorem StrsL.nil {lk : Lk} {p : Option Addr} : StrsL lk p [] := fun h => absurd h (by simp)
theorem permX (a b c d e x : Nat × Obj) (F : SHeap) : (a :: b :: c :: d :: e :: F ++ [x]).Perm (x :: c :: a :: d :: e :: b :: F) := by
  haveI : DecidableEq (Nat × Obj) := fun a b => Classical.propDecidable _
  refine List.perm_iff_count.2 fun y => ?_
  simp only [List.count_append, List.count_cons, List.cons_append, List.count_nil]
  omega
def SenOut (s : ByteArray) (v : Value) (F : SHeap) : Prop := ∃ p c, v = .slice p (senB s).length c ∧ (senB s).length ≤ c ∧ StrsL (lkF F) p (senB s)
theorem SenOut.mono {s : ByteArray} {v : Value} {F F' : SHeap} (h : SenOut s v F) (hl : ∀ x ∈ F, x ∈ F') : SenOut s v F' := by
  obtain ⟨p, c, h1, h2, h3⟩ := h
  exact ⟨p, c, h1, h2, h3.mono (lkF_mono hl)⟩
def AppI (B D l : Nat) (X : Obj) (q : List (List UInt8)) (F : SHeap) : Prop :=
  (q = [] ∧ F = [(B, .cells #[.slice none 0 0] 42), (D, .deferred (some [])), (l, X)]) ∨
  (∃ Q cap cs F1, q ≠ [] ∧ F = (B, .cells #[.slice (some ⟨Q, 0, none⟩) q.length cap] 42) :: (Q, .cells ⟨cs⟩ 9) :: (D, .deferred (some [])) :: (l, X) :: F1 ∧ q.length ≤ cap ∧ cs.length = cap * 1 ∧ SRow cs q)
theorem appSeq_e {Bt : Nat} {s : ByteArray} (hs : s.size ≤ 1099511627776) : EffW Tryd.prog 85 ⟨[.slice none 0 0, .func (.func 86) #[] #[.pointer (some ⟨Bt, 0, none⟩)]]⟩ [] (fun W => W.heap[Bt]? = some (.cells #[.string s] 9)) (SenOut s) := by
  intro W hm hX
  refine appSeq_vc Bt hm fun B D l t hT => ?_
  refine CallH.old hX (iter_h (by omega) (AppI B D l (loopO .ready none 85 t (sub (Eng.body Tryd.f85) [1, 0, 1, 0]) D)) (.inl ⟨rfl, rfl⟩) (fun q F x hq hI => ?_) fun F hI => ?_)
  · rcases hI with ⟨rfl, rfl⟩ | ⟨Q, cap, cs, F1, hne, rfl, h1, h2, h3⟩
    · refine YieldH.eff (L1 := [tBlk Bt s]) (K := fun v L' => ∃ B2 B1 cap1 r, 1 ≤ cap1 ∧ (([.string (ba x)] : List Value) ++ r).length = cap1 * 1 ∧ v = .bool true ∧ L' = (B2, .cells ⟨(([.string (ba x)] : List Value) ++ r)⟩ 9) :: (B1, .cells #[.string (ba x)] 9) :: (B, .cells #[.slice (some ⟨B2, 0, none⟩) 1 cap1] 42) :: (D, .deferred (some [])) :: (l, loopO .ready none 85 t (sub (Eng.body Tryd.f85) [1, 0, 1, 0]) D) :: []) (fun W' hm' => ?_) List.perm_append_comm ?_
      · exact appSeq_r0_vc Bt B [] (ba x) D l t hT fun B1 B2 cap1 r q1 q2 => ⟨B2, B1, cap1, r, q1, q2, rfl, rfl⟩
      · rintro v L' ⟨B2, B1, cap1, r, q1, q2, rfl, rfl⟩
        refine ⟨tBlk Bt s :: (B, .cells #[.slice (some ⟨B2, 0, none⟩) 1 cap1] 42) :: (B2, .cells ⟨(([.string (ba x)] : List Value) ++ r)⟩ 9) :: (D, .deferred (some [])) :: (l, loopO .ready none 85 t (sub (Eng.body Tryd.f85) [1, 0, 1, 0]) D) :: [(B1, .cells #[.string (ba x)] 9)], ?_, _, rfl, rfl, .inr ⟨B2, cap1, _, _, by simp, rfl, q1, q2, SRow.one⟩⟩
        exact permX _ _ _ _ _ _ []
    · refine YieldH.eff (L1 := [tBlk Bt s]) (K := fun v L' => ∃ B4 B3 cap2 r1, q.length + 1 ≤ cap2 ∧ ((cs).take (q.length * 1) ++ ([.string (ba x)] : List Value) ++ r1).length = cap2 * 1 ∧ v = .bool true ∧ L' = (B4, .cells ⟨((cs).take (q.length * 1) ++ ([.string (ba x)] : List Value) ++ r1)⟩ 9) :: (B3, .cells #[.string (ba x)] 9) :: (B, .cells #[.slice (some ⟨B4, 0, none⟩) (q.length + 1) cap2] 42) :: (D, .deferred (some [])) :: (l, loopO .ready none 85 t (sub (Eng.body Tryd.f85) [1, 0, 1, 0]) D) :: F1) (fun W' hm' => ?_) List.perm_append_comm ?_
      · exact appSeq_r1_vc Bt B q.length cap cs Q F1 (ba x) D l t hT fun B3 => ⟨⟨h1, h2⟩, by omega, fun B4 cap2 r1 q1 q2 => ⟨B4, B3, cap2, r1, q1, q2, rfl, rfl⟩⟩
      · rintro v L' ⟨B4, B3, cap2, r1, q1, q2, rfl, rfl⟩
        refine ⟨tBlk Bt s :: (B, .cells #[.slice (some ⟨B4, 0, none⟩) (q.length + 1) cap2] 42) :: (B4, .cells ⟨((cs).take (q.length * 1) ++ ([.string (ba x)] : List Value) ++ r1)⟩ 9) :: (D, .deferred (some [])) :: (l, loopO .ready none 85 t (sub (Eng.body Tryd.f85) [1, 0, 1, 0]) D) :: (B3, .cells #[.string (ba x)] 9) :: F1, ?_, _, rfl, rfl, .inr ⟨B4, cap2, _, (B3, .cells #[.string (ba x)] 9) :: F1, by simp, by simp, by simpa using q1, q2, SRow.app h3 h1 h2⟩⟩
        exact permX _ _ _ _ _ _ F1
  · refine ⟨F, rfl, ?_⟩
    have hlen : (senB s).length = (senOf (bts s)).length := by simp [senB]
    rcases hI with ⟨h, rfl⟩ | ⟨Q, cap, cs, F1, hne, rfl, h1, h2, h3⟩
    · refine .inl ⟨[], rfl, dkFin ⟨none, 0, ?_, ?_, ?_⟩⟩
      · rw [hlen, h]; rfl
      · rw [hlen, h]; exact Nat.le_refl _
      · rw [senB, h]; exact StrsL.nil
    · refine .inr ⟨_, cap, cs, Q, F1, rfl, dkFin ⟨_, cap, by rw [hlen], by rw [hlen]; exact h1, h3.sl (List.mem_cons_of_mem _ List.mem_cons_self)⟩⟩
end Go.Eng
namespace Go.Eng
open Go Go.RowKit Go.Proofs Wire
set_option linter.unusedVariables false
theorem Mem.old {L : SHeap} {w0 W : World} {B : Nat} {X : Obj} (hm : Mem L [] w0 W) (hX : w0.heap[B]? = some X) : W.heap[B]? = some X := by
  rw [hm.kept.block B (Array.getElem?_eq_some_iff.1 hX).1 (by simp)]; exact hX
theorem collect_e {Bt : Nat} {s : ByteArray} (hs : s.size ≤ 1099511627776) : EffW Tryd.prog 58 ⟨[.func (.func 86) #[] #[.pointer (some ⟨Bt, 0, none⟩)]]⟩ [] (fun W => W.heap[Bt]? = some (.cells #[.string s] 9)) (SenOut s) := by
  intro W hm hX
  refine collect_vc Bt hm (CallH.effWT [] (appSeq_e hs) (fun W' hm' => hm'.old hX) fun v F ⟨p, c, hv, hc, hF⟩ => ⟨p, _, c, F, hv, rfl, dkFin ⟨p, c, rfl, hc, hF⟩⟩)
theorem sentences_e {s : ByteArray} (hs : s.size ≤ 1099511627776) : EffC Tryd.prog 32 ⟨[.string s]⟩ [] (SenOut s) := by
  intro W hm
  refine sentences_vc s hm (CallH.effF (K := fun v L' => ∃ Bt, v = .func (.func 86) #[] #[.pointer (some ⟨Bt, 0, none⟩)] ∧ L' = [tBlk Bt s]) (fun W' hm' => sents_vc s hm' fun B => dkFin ⟨B, rfl, rfl⟩) ?_)
  rintro v L' ⟨Bt, rfl, rfl⟩
  refine ⟨Bt, rfl, rfl, CallH.effWT [tBlk Bt s] (collect_e hs) (fun W' hm' => hm'.here _ List.mem_cons_self) fun v F ⟨p, c, hv, hc, hF⟩ => ⟨p, _, c, F, hv, rfl, dkFin ⟨p, c, rfl, hc, hF.mono (lkF_mono fun x hx => List.mem_cons_of_mem _ hx)⟩⟩⟩
theorem SenOut.row {s : ByteArray} {Q cap t : Nat} {fz : Nat × Nat} {cs : List Value} {q : List (List UInt8)} {F : SHeap} (h : q = senOf (bts s)) (h1 : q.length ≤ cap) (h3 : SRow cs q) (hm : (Q, Obj.cells ⟨cs⟩ t fz) ∈ F) : SenOut s (.slice (some ⟨Q, 0, none⟩) q.length cap) F := by
  have hlen : (senB s).length = q.length := by simp [senB, h]
  refine ⟨_, cap, by rw [hlen], by rw [hlen]; exact h1, ?_⟩
  rw [senB, ← h]; exact h3.sl hm
theorem SenOut.none {s : ByteArray} {F : SHeap} (h : [] = senOf (bts s)) : SenOut s (.slice none 0 0) F := by
  refine ⟨Option.none, 0, ?_, ?_, ?_⟩
  · rw [senB, ← h]; rfl
  · rw [senB, ← h]; exact Nat.le_refl _
  · rw [senB, ← h]; exact StrsL.nil
theorem rsen_loop1 {s : ByteArray} (hs : s.size ≤ 1099511627776) {w0 : World} : ∀ (g i a : Nat) (l : List (List UInt8)) (Q cap : Nat) (cs : List Value), g + i = s.size → a ≤ i → l.length ≤ i → l.length ≤ cap → cs.length = cap * 1 → SRow cs l → l ++ senAt (bts s) a i = senOf (bts s) →
      rsentences_c1 Q s l.length cap (a : Int) (i : Int) cs w0 (fun e W' => ∃ v L', e = .returned v ∧ Mem L' [] w0 W' ∧ SenOut s v L')
  | 0, i, a, l, Q, cap, cs, hg, ha, hl, h1, h2, h3, he => by
    apply rsentences_c1_vc
    have hlen := bts_len s
    have hx : bts (s.extract (Int.toNat (a : Int)) s.size) = (bts s).drop a := by
      rw [bts_ext, seg, Int.toNat_natCast, List.take_of_length_le (by simp only [List.length_drop]; omega)]
    rw [senAt_end ha (by omega)] at he
    refine no (by omega) ⟨by omega, CallH.pure (trimmed_c _ (by rw [← bts_len, hx]; simp only [List.length_drop]; omega)) ⟨_, rfl, rfl, ?_⟩⟩
    rw [hx]
    refine ⟨fun h B7 => ⟨⟨h1, h2⟩, by omega, fun B8 cap3 r10 q1 q2 => dkFin ?_⟩, fun h => dkFin ?_⟩
    · rw [if_neg (fun h0 => h (by rw [h0]))] at he
      have := SenOut.row (F := [(B7, .cells #[.string (ba (trimS ((bts s).drop a)))] 9), (B8, .cells ⟨(cs.take (l.length * 1) ++ [.string (ba (trimS ((bts s).drop a)))] ++ r10)⟩ 9)]) (Q := B8) (t := 9) (cap := cap3) he (by simpa using q1) (SRow.app h3 h1 h2) (List.mem_cons_of_mem _ List.mem_cons_self)
      simpa using this
    · have h0 : trimS ((bts s).drop a) = [] := by
        have := congrArg bts h
        rw [bts_mk] at this; exact this
      rw [if_pos h0, List.append_nil] at he
      exact SenOut.row he h1 h3 List.mem_cons_self
  | g + 1, i, a, l, Q, cap, cs, hg, ha, hl, h1, h2, h3, he => by
    apply rsentences_c1_vc
    have hlen := bts_len s
    have hi : i < (bts s).length := by omega
    have w1 : IntKind.i64.wrap ((i : Int) + 1) = ((i + 1 : Nat) : Int) := by rw [wi64 (by omega)]; omega
    simp only [w1, Int.toNat_natCast]
    have hx : bts (s.extract a (i + 1)) = seg (bts s) a (i + 1) := bts_ext s a (i + 1)
    refine yes (by omega) (CallH.pure (ends_c s (by omega) (by omega)) ⟨_, rfl, rfl, fun ht => ⟨by omega, ?_⟩, fun hf => ?_⟩)
    · refine CallH.pure (trimmed_c _ (by rw [← bts_len, hx, seg, List.length_take, List.length_drop]; omega)) ⟨_, rfl, rfl, fun B5 => ⟨⟨h1, h2⟩, by omega, fun B6 cap2 r8 q1 q2 => ?_⟩⟩
      rintro _ rfl _ rfl
      rw [hx] at q2 ⊢
      have := rsen_loop1 hs (w0 := w0) g (i + 1) (i + 1) (l ++ [trimS (seg (bts s) a (i + 1))]) B6 cap2 _ (by omega) (by omega) (by simp; omega) (by simpa using q1) q2 (SRow.app h3 h1 h2) (by rw [← he, senAt_yes ha hi ht, List.append_assoc]; rfl)
      simpa using this
    · rintro _ rfl
      exact rsen_loop1 hs g (i + 1) a l Q cap cs (by omega) (by omega) (by omega) h1 h2 h3 (by rw [← he, senAt_no ha hi hf])
theorem rsen_loop0 {s : ByteArray} (hs : s.size ≤ 1099511627776) {w0 : World} : ∀ (g i a : Nat), g + i = s.size → a ≤ i → senAt (bts s) a i = senOf (bts s) →
      rsentences_c0 s (a : Int) (i : Int) w0 (fun e W' => ∃ v L', e = .returned v ∧ Mem L' [] w0 W' ∧ SenOut s v L')
  | 0, i, a, hg, ha, he => by
    apply rsentences_c0_vc
    have hlen := bts_len s
    have hx : bts (s.extract (Int.toNat (a : Int)) s.size) = (bts s).drop a := by
      rw [bts_ext, seg, Int.toNat_natCast, List.take_of_length_le (by simp only [List.length_drop]; omega)]
    rw [senAt_end ha (by omega)] at he
    refine no (by omega) ⟨by omega, CallH.pure (trimmed_c _ (by rw [← bts_len, hx]; simp only [List.length_drop]; omega)) ⟨_, rfl, rfl, ?_⟩⟩
    rw [hx]
    refine ⟨fun h B7 B8 cap3 r10 q1 q2 => dkFin ?_, fun h => dkFin ?_⟩
    · rw [if_neg (fun h0 => h (by rw [h0]))] at he
      exact SenOut.row (t := 9) he q1 SRow.one (List.mem_cons_of_mem _ List.mem_cons_self)
    · have h0 : trimS ((bts s).drop a) = [] := by
        have := congrArg bts h
        rw [bts_mk] at this; exact this
      rw [if_pos h0] at he
      exact SenOut.none he
  | g + 1, i, a, hg, ha, he => by
    apply rsentences_c0_vc
    have hlen := bts_len s
    have hi : i < (bts s).length := by omega
    have w1 : IntKind.i64.wrap ((i : Int) + 1) = ((i + 1 : Nat) : Int) := by rw [wi64 (by omega)]; omega
    simp only [w1, Int.toNat_natCast]
    have hx : bts (s.extract a (i + 1)) = seg (bts s) a (i + 1) := bts_ext s a (i + 1)
    refine yes (by omega) (CallH.pure (ends_c s (by omega) (by omega)) ⟨_, rfl, rfl, fun ht => ⟨by omega, ?_⟩, fun hf => ?_⟩)
    · refine CallH.pure (trimmed_c _ (by rw [← bts_len, hx, seg, List.length_take, List.length_drop]; omega)) ⟨_, rfl, rfl, fun B5 B6 cap2 r8 q1 q2 => ?_⟩
      rintro _ rfl _ rfl
      rw [hx] at q2 ⊢
      exact rsen_loop1 hs (w0 := w0) g (i + 1) (i + 1) [trimS (seg (bts s) a (i + 1))] B6 cap2 _ (by omega) (by omega) (by simp) q1 q2 SRow.one (by rw [← he, senAt_yes ha hi ht]; rfl)
    · rintro _ rfl
      exact rsen_loop0 hs g (i + 1) a (by omega) (by omega) (by rw [← he, senAt_no ha hi hf])
theorem rsentences_e {s : ByteArray} (hs : s.size ≤ 1099511627776) : EffC Tryd.prog 33 ⟨[.string s]⟩ [] (SenOut s) := fun W hm =>
  rsentences_vc s hm (rsen_loop0 hs s.size 0 0 (by omega) (Nat.le_refl _) (senOf_at _).symm)
def joinS : List (List UInt8) → List UInt8
  | [] => []
  | x :: r => x ++ r.flatMap (32 :: ·)
def joinL (l : List ByteArray) : List UInt8 := joinS (l.map bts)
theorem StrsL.lk {lk : Lk} {p : Option Addr} {l : List ByteArray} (h : StrsL lk p l) : True := trivial
end Go.Eng
