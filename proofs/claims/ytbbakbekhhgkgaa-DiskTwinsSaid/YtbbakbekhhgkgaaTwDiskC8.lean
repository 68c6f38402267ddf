/- Contracts and plain laws for the proof; no claim of its own. -/
import Derived.Test.YtbbakbekhhgkgaaTwDiskC7
namespace Go.Eng
open Go Go.RowKit Go.Proofs
set_option linter.unusedVariables false

/-! ### Plain laws: which survive -/
def crashF (last torn : Int) (kb : Nat → Bool) : Nat → List (Nat × ByteArray) → List UInt8 → List UInt8
  | _, [], b => b
  | i, (o, s) :: r, b => crashF last torn kb (i + 1) r (if kb i = true then ovr b o (tornD last torn i s) else b)
theorem crashGo_F (last torn : Int) (sv : List Bool) (kb : Nat → Bool) : ∀ (r : List (Nat × ByteArray)) (i : Nat) (b : List UInt8), (∀ j, i ≤ j → j < i + r.length → sv.getD j false = kb j) → crashGo last torn sv i r b = crashF last torn kb i r b
  | [], _, _, _ => rfl
  | (o, s) :: r, i, b, h => by
    rw [crashGo, crashF, h i (Nat.le_refl _) (by simp), crashGo_F last torn sv kb r (i + 1) _ (fun j h1 h2 => h j (by omega) (by simp; omega))]
theorem crashF_snoc (last torn : Int) (kb : Nat → Bool) (o : Nat) (s : ByteArray) : ∀ (r : List (Nat × ByteArray)) (i : Nat) (b : List UInt8),
    crashF last torn kb i (r ++ [(o, s)]) b = if kb (i + r.length) = true then ovr (crashF last torn kb i r b) o (tornD last torn (i + r.length) s) else crashF last torn kb i r b
  | [], i, b => by simp [crashF]
  | (o', s') :: r, i, b => by
    rw [List.cons_append, crashF, crashF_snoc last torn kb o s r (i + 1), crashF, List.length_cons, show i + 1 + r.length = i + (r.length + 1) by omega]
theorem crashF_len (last torn : Int) (kb : Nat → Bool) : ∀ (r : List (Nat × ByteArray)) (i : Nat) (b : List UInt8), (∀ p ∈ r, p.1 + p.2.size ≤ b.length) → (crashF last torn kb i r b).length = b.length
  | [], _, _, _ => rfl
  | (o, s) :: r, i, b, h => by
    have h0 := h (o, s) (by simp)
    have h1 := tornD_len last torn i s
    have hb : (if kb i = true then ovr b o (tornD last torn i s) else b).length = b.length := by
      split
      · exact ovr_len (by simp at h0; omega)
      · rfl
    rw [crashF, crashF_len last torn kb r (i + 1) _ (fun p hp => by rw [hb]; exact h p (by simp [hp])), hb]

def lastOf (kb : Nat → Bool) : Nat → Int
  | 0 => -1
  | i + 1 => if kb i = true then (i : Int) else lastOf kb i
def numsOf (kb : Nat → Bool) : Nat → List Int
  | 0 => []
  | i + 1 => if kb i = true then (i : Int) :: numsOf kb i else numsOf kb i
theorem numsOf_mem (kb : Nat → Bool) : ∀ (m : Nat) (n : Int), n ∈ numsOf kb m ↔ ∃ j : Nat, n = j ∧ j < m ∧ kb j = true
  | 0, n => by simp [numsOf]
  | m + 1, n => by
    rw [numsOf]
    have ih := numsOf_mem kb m n
    split
    · next h =>
      rw [List.mem_cons, ih]
      constructor
      · rintro (rfl | ⟨j, rfl, h1, h2⟩)
        · exact ⟨m, rfl, by omega, h⟩
        · exact ⟨j, rfl, by omega, h2⟩
      · rintro ⟨j, rfl, h1, h2⟩
        by_cases hj : j = m
        · exact .inl (by rw [hj])
        · exact .inr ⟨j, rfl, by omega, h2⟩
    · next h =>
      rw [ih]
      constructor
      · rintro ⟨j, rfl, h1, h2⟩; exact ⟨j, rfl, by omega, h2⟩
      · rintro ⟨j, rfl, h1, h2⟩
        by_cases hj : j = m
        · subst hj; exact absurd h2 h
        · exact ⟨j, rfl, by omega, h2⟩
theorem numsOf_len (kb : Nat → Bool) : ∀ m, (numsOf kb m).length ≤ m
  | 0 => Nat.le_refl _
  | m + 1 => by
    have := numsOf_len kb m
    rw [numsOf]; split
    · rw [List.length_cons]; omega
    · omega
theorem keepGo_low (p : Nat) : ∀ (ks : List Int) (sv : List Bool) (last : Int), (∀ n ∈ ks, n ≤ last) → (keepGo p ks sv last).2 = last
  | [], _, _, _ => rfl
  | n :: r, sv, last, h => by
    have h0 := h n (by simp)
    rw [keepGo]
    split
    · rw [if_neg (by omega), keepGo_low p r _ _ (fun x hx => h x (by simp [hx]))]
    · rw [keepGo_low p r _ _ (fun x hx => h x (by simp [hx]))]
theorem keepGo_last (p : Nat) (kb : Nat → Bool) : ∀ (m : Nat) (sv : List Bool), m ≤ p → (keepGo p (numsOf kb m) sv (-1)).2 = lastOf kb m
  | 0, sv, _ => rfl
  | m + 1, sv, h => by
    rw [numsOf, lastOf]
    split
    · rw [keepGo, if_pos (by omega), if_pos (by omega)]
      exact keepGo_low p _ _ _ (fun n hn => by obtain ⟨j, rfl, h1, _⟩ := (numsOf_mem kb m n).1 hn; omega)
    · exact keepGo_last p kb m sv (by omega)

theorem crash_kept {d : DS} (kb : Nat → Bool) (torn : Int) : d.crash (numsOf kb d.pend.length) torn =
    { on := true, cut := 0, dur := crashF (lastOf kb d.pend.length) torn kb 0 d.pend d.dur, vis := crashF (lastOf kb d.pend.length) torn kb 0 d.pend d.dur, pend := [] } := by
  unfold DS.crash DS.crashed
  rw [keepGo_last _ _ _ _ (Nat.le_refl _), crashGo_F _ _ _ kb]
  intro j _ hj
  have h := keepGo_mem d.pend.length (numsOf kb d.pend.length) (List.replicate d.pend.length false) (-1) (by simp) j (by omega)
  rw [numsOf_mem] at h
  have h0 : (List.replicate d.pend.length false).getD j false = false := getD_replicate _ j
  rw [h0] at h
  cases hk : kb j with
  | true => exact h.2 (.inr ⟨j, rfl, by omega, hk⟩)
  | false =>
    cases hs : (keepGo d.pend.length (numsOf kb d.pend.length) (List.replicate d.pend.length false) (-1)).1.getD j false with
    | false => rfl
    | true =>
      rcases h.1 hs with h1 | ⟨i, hi, _, h2⟩
      · cases h1
      · have : j = i := by omega
        subst this
        rw [hk] at h2; cases h2

/-! ### DiskCrashBytes -/
theorem one_cell {c : List Value} {k : Nat} {v : Value} (h : (c.drop k).take 1 = [v]) : c[k]? = some v := by
  have : ((c.drop k).take 1)[0]? = some v := by rw [h]; rfl
  rw [List.getElem?_take_of_lt (by decide), List.getElem?_drop] at this
  simpa using this
theorem byte_wrap (x : Int) : ∃ b : UInt8, IntKind.u8.wrap x = (b.toNat : Int) := by
  have h := IntKind.wrap_u8 x
  have h1 : 0 ≤ IntKind.u8.wrap x ∧ IntKind.u8.wrap x < 256 := by rw [h]; omega
  refine ⟨UInt8.ofNat (IntKind.u8.wrap x).toNat, ?_⟩
  rw [UInt8.toNat_ofNat']; omega
theorem all_row {n : Nat} {l : List UInt8} (h : l.length = n) : (((bytesL l).drop 0).take n = bytesL l ∧ l.length = n) := ⟨by rw [List.drop_zero, List.take_of_length_le (by rw [bytesL_length]; omega)], h⟩

section
variable {w0 : World} {p kp : Option Addr} {ws : List WP} {ks : List Bool} {c kc : Nat} {D n : Nat} {torn : Int}
abbrev RT (w0 : World) : Ending → World → Prop := fun e W' => e = .returned (.bool true) ∧ Below w0.heap.size w0 W'

theorem cb_c6 (hn : n ≤ 100) {B : Nat} {d : DS} {F : SHeap} (h : DRep D d F) (hp : d.pend.length ≤ 20) {kb : Nat → Bool} (hl : (crashF (lastOf kb d.pend.length) torn kb 0 d.pend d.dur).length = n) (hk : numsOf kb d.pend.length = []) :
    CrashBytes_c6 B n torn true (some ⟨D, 0, none⟩) n n (bytesL (crashF (lastOf kb d.pend.length) torn kb 0 d.pend d.dur)) F w0 (RT w0) := by
  apply CrashBytes_c6_vc
  have hcr := Crash_e (kp := none) (kc := 0) (ks := numsOf kb d.pend.length) h (by omega) (by rw [hk]; decide) torn
  rw [crash_kept, hk] at hcr
  refine CallH.dp (told := [_]) hcr (fun _ _ => keep_nil) fun F h => ⟨_, _, rfl, rfl, ?_⟩
  have hr1 := Read_e h (off := 0) (n := n) (by omega)
  rw [read_cr hl] at hr1
  refine CallH.d1 hr1 fun F h => ⟨_, _, _, rfl, rfl, tt rfl (yes rfl (yes rfl ⟨_, all_row hl, ?_⟩))⟩
  exact finPure (by rw [(strEq_iff _ _).2 rfl])

theorem cb_c7 (hn : n ≤ 100) {B B2 : Nat} {d : DS} {F : SHeap} (h : DRep D d F) (hp : d.pend.length ≤ 20) {kb : Nat → Bool} (hl : (crashF (lastOf kb d.pend.length) torn kb 0 d.pend d.dur).length = n) {cap : Nat} {r : List Value} :
    CrashBytes_c7 B B2 n torn true (some ⟨D, 0, none⟩) n n (numsOf kb d.pend.length).length cap (bytesL (crashF (lastOf kb d.pend.length) torn kb 0 d.pend d.dur)) ((numsOf kb d.pend.length).map (Value.int .i64) ++ r) F w0 (RT w0) := by
  apply CrashBytes_c7_vc
  have hln := numsOf_len kb d.pend.length
  have hcr := Crash_e (kp := some ⟨B2, 0, none⟩) (kc := cap) (ks := numsOf kb d.pend.length) h (by omega) (by omega) torn
  rw [crash_kept] at hcr
  refine CallH.dp (told := [_, _]) hcr (fun W hm => keep_own hm (.tail _ (.head _)) (fun j hj => ?_)) fun F h => ⟨_, _, rfl, rfl, ?_⟩
  · rw [List.getElem?_append_left (by rw [List.length_map]; exact hj), List.getElem?_map, List.getElem?_eq_getElem hj, Option.map_some]
  have hr1 := Read_e h (off := 0) (n := n) (by omega)
  rw [read_cr hl] at hr1
  refine CallH.d2 hr1 fun F h => ⟨_, _, _, rfl, rfl, tt rfl (yes rfl (yes rfl ⟨_, all_row hl, ?_⟩))⟩
  exact finPure (by rw [(strEq_iff _ _).2 rfl])

/-- What the law's own cut takes of a torn write. -/
theorem torn_cut {s : ByteArray} {last : Int} {i : Nat} (hi : (i : Int) = last) (ht : 0 ≤ torn) : bts (s.extract 0 (min torn.toNat s.size)) = tornD last torn i s := by
  have e : (s.extract 0 (min torn.toNat s.size)).data = s.data.extract 0 (min torn.toNat s.size) := by simp
  rw [bts, e, tornD]
  split
  · have : min torn.toNat s.size = torn.toNat := by omega
    rw [this]; simp
  · have : min torn.toNat s.size = s.size := by omega
    rw [this]
    show (s.data.extract 0 s.data.size).toList = s.data.toList
    simp only [Array.extract_size]

/-- What is so ahead of the i-th round. -/
structure CB (D n : Nat) (torn : Int) (kb : Nat → Bool) (i : Nat) (d : DS) (F : SHeap) (want : List UInt8) (m : Nat) : Prop where
  rep : DRep D d F
  on : d.on = true
  cut : d.cut = 0
  vis : d.vis.length = n
  pend : d.pend.length = i
  eqw : want = crashF (lastOf kb m) torn kb 0 d.pend d.dur
  wl : want.length = n

theorem CB.step {kb : Nat → Bool} {i m : Nat} {d : DS} {F F' : SHeap} {want : List UInt8} (h : CB D n torn kb i d F want m) {w : WP} (h' : DRep D (d.put (fitO w n) (fitS w n)) F') :
    CB D n torn kb (i + 1) (d.put (fitO w n) (fitS w n)) F' (if kb i = true then ovr want (fitO w n) (tornD (lastOf kb m) torn i (fitS w n)) else want) m := by
  have hfit := fitS_le w n
  refine ⟨h', h.on, h.cut, ?_, ?_, ?_, ?_⟩
  · rw [put_vis, ovr_len (by rw [bts_len, h.vis]; omega), h.vis]
  · simp [DS.put, h.pend]
  · simp only [DS.put]
    rw [crashF_snoc, Nat.zero_add, h.pend, h.eqw]
  · have := tornD_len (lastOf kb m) torn i (fitS w n)
    split
    · rw [ovr_len (by rw [h.wl]; omega), h.wl]
    · exact h.wl
end

/-- The bits that the law asks for. -/
abbrev kbOf (ks : List Bool) : Nat → Bool := fun i => ks.getD i false
theorem kbOf_get {ks : List Bool} {i : Nat} (h : i < ks.length) : kbOf ks i = ks[i] := by
  show ks.getD i false = _
  rw [List.getD_eq_getElem?_getD, List.getElem?_eq_getElem h, Option.getD_some]
theorem kbOf_out {ks : List Bool} {i : Nat} (h : ¬ i < ks.length) : kbOf ks i = false := by
  show ks.getD i false = _
  rw [List.getD_eq_getElem?_getD, List.getElem?_eq_none (by omega), Option.getD_none]

theorem cb_c5 {w0 : World} {p kp : Option Addr} {ws : List WP} {ks : List Bool} {c kc : Nat} {D n : Nat} {torn : Int} (hw : WPs w0 p ws) (hwl : ws.length ≤ maxLen) (hk : SlAt (lkW w0) 1 boolP kp ks) (hn : n ≤ 100) {m : Nat} (hm : m = min ws.length 20) : ∀ (g i : Nat) (B B2 cap : Nat) (d : DS) (F : SHeap) (want : List UInt8) (r : List Value), g + i = m →
    CB D n torn (kbOf ks) i d F want m → (numsOf (kbOf ks) i).length ≤ cap → ((numsOf (kbOf ks) i).map (Value.int .i64) ++ r).length = cap * 1 →
    CrashBytes_c5 B B2 n p ws.length c kp ks.length kc torn true (some ⟨D, 0, none⟩) n n (lastOf (kbOf ks) m) (numsOf (kbOf ks) i).length cap i (bytesL want) ((numsOf (kbOf ks) i).map (Value.int .i64) ++ r) F w0 (RT w0)
  | 0, i, B, B2, cap, d, F, want, r, hg, h, hc, hr => by
    have him : i = m := by omega
    have fin : CrashBytes_c7 B B2 n torn true (some ⟨D, 0, none⟩) n n (numsOf (kbOf ks) i).length cap (bytesL want) ((numsOf (kbOf ks) i).map (Value.int .i64) ++ r) F w0 (RT w0) := by
      have hw' := h.eqw
      have hpi := h.pend
      rw [← him, ← hpi] at hw'
      rw [hw', ← hpi]
      exact cb_c7 hn h.rep (by omega) (by rw [← hw', h.wl])
    apply CrashBytes_c5_vc
    exact ⟨fun _ => no (by omega) fin, fun _ => fin⟩
  | g + 1, i, B, B2, cap, d, F, want, r, hg, h, hc, hr => by
    apply CrashBytes_c5_vc
    refine yes (by omega) (yes (by omega) ?_)
    have hi : i < ws.length := by omega
    obtain ⟨b, o, cw, rfl, hb, hcl, hcs, hwo⟩ := hw.get hi
    generalize ws[i] = w at hcs hwo
    refine ⟨b, o, rfl, by omega, cw, w.off, w.s, w.sync, hb, by rw [Int.toNat_natCast]; exact ⟨hcs, hcl⟩, ?_⟩
    refine CallH.pure (fits_c hwo (by omega)) ⟨_, _, _, rfl, rfl, fun B8 => ?_⟩
    have hfit := fitS_le w n
    have hwr := Write_e h.rep (by have := h.pend; omega) (off := (fitO w n : Int)) (s := fitS w n)
    rw [write_ok h.on h.cut (by rw [h.vis]; omega)] at hwr
    refine CallH.d3 hwr fun F' h' => ⟨_, _, rfl, rfl, yes' rfl ?_⟩
    have hst := h.step h'
    have ht : (((numsOf (kbOf ks) i).map (Value.int .i64) ++ r).drop 0).take (numsOf (kbOf ks) i).length = (numsOf (kbOf ks) i).map (Value.int .i64) := by rw [List.drop_zero, List.take_left' (by rw [List.length_map])]
    rw [ht, wi64 (by omega), show (i : Int) + 1 = ((i + 1 : Nat) : Int) by omega]
    by_cases hik : i < ks.length
    · refine yes (by omega) ?_
      obtain ⟨kb, ko, kcw, rfl, hkb, hkl, hkv⟩ := hk.get hik
      refine ⟨kb, ko, rfl, by omega, kcw, ks[i], hkb, by rw [Int.toNat_natCast]; rw [Nat.mul_one] at hkv; exact one_cell hkv, ?_⟩
      have hki := kbOf_get hik
      have hln := numsOf_len (kbOf ks) i
      refine ⟨fun ht => fun B9 => ⟨?_, by rw [List.length_map, Nat.mul_one], by simp, by omega, ?_⟩, fun hf => ?_⟩
      · intro u hu
        obtain ⟨z, _, rfl⟩ := List.mem_map.1 hu
        rfl
      · intro B10 cap2 r2 hc2 hr2
        rw [ht] at hki
        have hnum : numsOf (kbOf ks) (i + 1) = (i : Int) :: numsOf (kbOf ks) i := by rw [numsOf, if_pos hki]
        rw [if_pos hki] at hst
        have hcell : ((([.int .i64 (i : Int)] : List Value)).take (1 * 1) ++ (numsOf (kbOf ks) i).map (Value.int .i64) ++ r2) = (numsOf (kbOf ks) (i + 1)).map (Value.int .i64) ++ r2 := by rw [hnum]; rfl
        have hlen : 1 + (numsOf (kbOf ks) i).length = (numsOf (kbOf ks) (i + 1)).length := by rw [hnum, List.length_cons]; omega
        rw [hcell] at hr2 ⊢
        rw [hlen] at hc2 ⊢
        have go := cb_c5 hw hwl hk hn hm (c := c) (kc := kc) g (i + 1) B B10 cap2 _ F' _ r2 (by omega) hst hc2 hr2
        have hput : ∀ s : ByteArray, bts s = tornD (lastOf (kbOf ks) m) torn i (fitS w n) → ∀ (x y : Nat × Obj) {G : SHeap},
            CallH Try.prog 23 ⟨[.slice (some ⟨B, 0, none⟩) n n, .int .i64 (fitO w n : Int), .string s]⟩ (x :: y :: (B, .cells ⟨bytesL want⟩ 5) :: G) [] w0 (fun v L' => v = .tuple #[] ∧ L' = x :: y :: (B, .cells ⟨bytesL (ovr want (fitO w n) (tornD (lastOf (kbOf ks) m) torn i (fitS w n)))⟩ 5) :: G) := by
          intro s hs x y G
          have hsz : s.size ≤ (fitS w n).size := by
            have := tornD_len (lastOf (kbOf ks) m) torn i (fitS w n)
            rw [← hs, bts_len] at this; exact this
          have he := put_e (B := B) (n := n) (off := fitO w n) (s := s) (by omega) (by omega) h.wl
          rw [hs] at he
          refine CallH.eff (L1 := x :: y :: G) he ?_ fun v' L' hk => ⟨_, ?_, by obtain ⟨rfl, rfl⟩ := hk; exact ⟨rfl, rfl⟩⟩
          · exact (List.perm_middle (l₁ := [x, y]) (l₂ := G)).symm
          · obtain ⟨rfl, rfl⟩ := hk
            exact (List.perm_middle (l₁ := [x, y]) (l₂ := G)).symm
        have hput' : ∀ s : ByteArray, bts s = tornD (lastOf (kbOf ks) m) torn i (fitS w n) → ∀ (x y : Nat × Obj) {G : SHeap} {K : Value → SHeap → Prop}, K (.tuple #[]) (x :: y :: (B, .cells ⟨bytesL (ovr want (fitO w n) (tornD (lastOf (kbOf ks) m) torn i (fitS w n)))⟩ 5) :: G) →
            CallH Try.prog 23 ⟨[.slice (some ⟨B, 0, none⟩) n n, .int .i64 (fitO w n : Int), .string s]⟩ (x :: y :: (B, .cells ⟨bytesL want⟩ 5) :: G) [] w0 K := by
          intro s hs x y G K hK W hm
          refine (hput s hs x y W hm).mono ?_
          rintro e W' ⟨v, L', h1, h2, rfl, rfl⟩
          exact ⟨_, _, h1, h2, hK⟩
        refine ⟨fun hl => ⟨fun h0 => ?_, fun h0 => ?_⟩, fun hl => ?_⟩
        · refine CallH.pure (cut_c (fitS w n) (N := torn.toNat) (by omega)) ⟨_, rfl, rfl, ?_⟩
          refine hput' _ (torn_cut hl h0) _ _ ⟨_, rfl, rfl, ?_⟩
          rintro _ rfl
          exact go
        · refine hput' _ (by rw [tornD, if_neg (fun h => h0 h.2.1)]) _ _ ⟨_, rfl, rfl, ?_⟩
          rintro _ rfl
          exact go
        · refine hput' _ (by rw [tornD, if_neg (fun h => hl h.1)]) _ _ ⟨_, rfl, rfl, ?_⟩
          rintro _ rfl
          exact go
      · rintro _ rfl
        rw [hf] at hki
        rw [if_neg (by rw [hki]; decide)] at hst
        have hnum : numsOf (kbOf ks) (i + 1) = numsOf (kbOf ks) i := by rw [numsOf, if_neg (by rw [hki]; decide)]
        have := cb_c5 hw hwl hk hn hm (c := c) (kc := kc) g (i + 1) B B2 cap _ F' _ r (by omega) hst (by rw [hnum]; exact hc) (by rw [hnum]; exact hr)
        rw [hnum] at this
        exact this
    · refine no (by omega) ?_
      rintro _ rfl
      have hki := kbOf_out hik
      rw [if_neg (by rw [hki]; decide)] at hst
      have hnum : numsOf (kbOf ks) (i + 1) = numsOf (kbOf ks) i := by rw [numsOf, if_neg (by rw [hki]; decide)]
      have := cb_c5 hw hwl hk hn hm (c := c) (kc := kc) g (i + 1) B B2 cap _ F' _ r (by omega) hst (by rw [hnum]; exact hc) (by rw [hnum]; exact hr)
      rw [hnum] at this
      exact this
end Go.Eng
