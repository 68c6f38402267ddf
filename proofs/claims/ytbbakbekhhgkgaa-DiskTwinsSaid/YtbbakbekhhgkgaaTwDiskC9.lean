/- Contracts and plain laws for the proof; no claim of its own. -/
import Derived.Test.YtbbakbekhhgkgaaTwDiskC8
import Derived.Test.YtbbakbekhhgkgaaTwEngD7
namespace Go.Eng
open Go Go.RowKit Go.Proofs
set_option linter.unusedVariables false

theorem put_kept {B n : Nat} (hn : n ≤ 100) {o : Nat} {s0 : ByteArray} {last torn : Int} {i : Nat} (hfit : o + s0.size ≤ n) {want : List UInt8} (hw : want.length = n) {s : ByteArray} (hs : bts s = tornD last torn i s0) {x y : Nat × Obj} {G : SHeap} {S : List Nat} {w0 : World} {K : Value → SHeap → Prop}
    (hK : K (.tuple #[]) (x :: y :: (B, .cells ⟨bytesL (ovr want o (tornD last torn i s0))⟩ 5) :: G)) :
    CallH Try.prog 23 ⟨[.slice (some ⟨B, 0, none⟩) n n, .int .i64 (o : Int), .string s]⟩ (x :: y :: (B, .cells ⟨bytesL want⟩ 5) :: G) S w0 K := by
  have hsz : s.size ≤ s0.size := by
    have := tornD_len last torn i s0
    rw [← hs, bts_len] at this; exact this
  have he := put_e (B := B) (n := n) (off := o) (s := s) (by omega) (by omega) hw
  rw [hs] at he
  refine CallH.eff (L1 := x :: y :: G) he ((List.perm_middle (l₁ := [x, y]) (l₂ := G)).symm) fun v' L' hk => ⟨_, ?_, by obtain ⟨rfl, rfl⟩ := hk; exact hK⟩
  obtain ⟨rfl, rfl⟩ := hk
  exact (List.perm_middle (l₁ := [x, y]) (l₂ := G)).symm

theorem cb_c4 {w0 : World} {p kp : Option Addr} {ws : List WP} {ks : List Bool} {c kc : Nat} {D n : Nat} {torn : Int} (hw : WPs w0 p ws) (hwl : ws.length ≤ maxLen) (hk : SlAt (lkW w0) 1 boolP kp ks) (hn : n ≤ 100) {m : Nat} (hm : m = min ws.length 20) : ∀ (g i : Nat) (B : Nat) (d : DS) (F : SHeap) (want : List UInt8), g + i = m →
    CB D n torn (kbOf ks) i d F want m → numsOf (kbOf ks) i = [] →
    CrashBytes_c4 B n p ws.length c kp ks.length kc torn true (some ⟨D, 0, none⟩) n n (lastOf (kbOf ks) m) i (bytesL want) F w0 (RT w0)
  | 0, i, B, d, F, want, hg, h, hnil => by
    have him : i = m := by omega
    have fin : CrashBytes_c6 B n torn true (some ⟨D, 0, none⟩) n n (bytesL want) F w0 (RT w0) := by
      have hw' := h.eqw
      have hpi := h.pend
      rw [← him, ← hpi] at hw'
      rw [hw']
      exact cb_c6 hn h.rep (by omega) (by rw [← hw', h.wl]) (by rw [hpi]; exact hnil)
    apply CrashBytes_c4_vc
    exact ⟨fun _ => no (by omega) fin, fun _ => fin⟩
  | g + 1, i, B, d, F, want, hg, h, hnil => by
    apply CrashBytes_c4_vc
    refine yes (by omega) (yes (by omega) ?_)
    have hi : i < ws.length := by omega
    obtain ⟨b, o, cw, rfl, hb, hcl, hcs, hwo⟩ := hw.get hi
    generalize ws[i] = w at hcs hwo
    refine ⟨b, o, rfl, by omega, cw, w.off, w.s, w.sync, hb, by rw [Int.toNat_natCast]; exact ⟨hcs, hcl⟩, ?_⟩
    refine CallH.pure (fits_c hwo (by omega)) ⟨_, _, _, rfl, rfl, fun B8 => ?_⟩
    have hfit := fitS_le w n
    have hwr := Write_e h.rep (by have := h.pend; omega) (off := (fitO w n : Int)) (s := fitS w n)
    rw [write_ok h.on h.cut (by rw [h.vis]; omega)] at hwr
    refine CallH.d2 hwr fun F' h' => ⟨_, _, rfl, rfl, yes' rfl ?_⟩
    have hst := h.step h'
    rw [wi64 (by omega), show (i : Int) + 1 = ((i + 1 : Nat) : Int) by omega]
    by_cases hik : i < ks.length
    · refine yes (by omega) ?_
      obtain ⟨kb, ko, kcw, rfl, hkb, hkl, hkv⟩ := hk.get hik
      refine ⟨kb, ko, rfl, by omega, kcw, ks[i], hkb, by rw [Int.toNat_natCast]; rw [Nat.mul_one] at hkv; exact one_cell hkv, ?_⟩
      have hki := kbOf_get hik
      refine ⟨fun ht => fun B9 => ?_, fun hf => ?_⟩
      · rw [ht] at hki
        have hnum : numsOf (kbOf ks) (i + 1) = [(i : Int)] := by rw [numsOf, if_pos hki, hnil]
        rw [if_pos hki] at hst
        have go := cb_c5 hw hwl hk hn hm (c := c) (kc := kc) g (i + 1) B B9 1 _ F' _ [] (by omega) hst (by rw [hnum]; simp) (by rw [hnum]; rfl)
        rw [hnum] at go
        refine ⟨fun hl => ⟨fun h0 => ?_, fun h0 => ?_⟩, fun hl => ?_⟩
        · refine CallH.pure (cut_c (fitS w n) (N := torn.toNat) (by omega)) ⟨_, rfl, rfl, ?_⟩
          refine put_kept hn hfit h.wl (torn_cut hl h0) ⟨_, rfl, rfl, ?_⟩
          rintro _ rfl
          exact go
        · refine put_kept hn hfit h.wl (last := lastOf (kbOf ks) m) (torn := torn) (i := i) (by rw [tornD, if_neg (fun h => h0 h.2.1)]) ⟨_, rfl, rfl, ?_⟩
          rintro _ rfl
          exact go
        · refine put_kept hn hfit h.wl (last := lastOf (kbOf ks) m) (torn := torn) (i := i) (by rw [tornD, if_neg (fun h => hl h.1)]) ⟨_, rfl, rfl, ?_⟩
          rintro _ rfl
          exact go
      · rintro _ rfl
        rw [hf] at hki
        rw [if_neg (by rw [hki]; decide)] at hst
        exact cb_c4 hw hwl hk hn hm (c := c) (kc := kc) g (i + 1) B _ F' _ (by omega) hst (by rw [numsOf, if_neg (by rw [hki]; decide)]; exact hnil)
    · refine no (by omega) ?_
      rintro _ rfl
      have hki := kbOf_out hik
      rw [if_neg (by rw [hki]; decide)] at hst
      exact cb_c4 hw hwl hk hn hm (c := c) (kc := kc) g (i + 1) B _ F' _ (by omega) hst (by rw [numsOf, if_neg (by rw [hki]; decide)]; exact hnil)

theorem cb_c2 {w0 : World} {p kp : Option Addr} {ws : List WP} {ks : List Bool} {c kc : Nat} {D n : Nat} {torn : Int} (hw : WPs w0 p ws) (hwl : ws.length ≤ maxLen) (hk : SlAt (lkW w0) 1 boolP kp ks) (hkl : ks.length ≤ maxLen) (hn : n ≤ 100) {m : Nat} (hm : m = min ws.length 20) {B : Nat} {d : DS} {F : SHeap} {want : List UInt8} (h : CB D n torn (kbOf ks) 0 d F want m) : ∀ (g i : Nat), g + i = m →
    CrashBytes_c2 B n p ws.length c kp ks.length kc torn true (some ⟨D, 0, none⟩) n n (lastOf (kbOf ks) i) i (bytesL want) F w0 (RT w0)
  | 0, i, hg => by
    have him : i = m := by omega
    have fin : CrashBytes_c3 B n p ws.length c kp ks.length kc torn true (some ⟨D, 0, none⟩) n n (lastOf (kbOf ks) i) (bytesL want) F w0 (RT w0) := by
      apply CrashBytes_c3_vc
      rw [him]
      exact cb_c4 hw hwl hk hn hm m 0 B d F want rfl h rfl
    apply CrashBytes_c2_vc
    exact ⟨fun _ => no (by omega) fin, fun _ => fin⟩
  | g + 1, i, hg => by
    apply CrashBytes_c2_vc
    refine yes (by omega) (yes (by omega) ?_)
    rw [wi64 (by omega), show (i : Int) + 1 = ((i + 1 : Nat) : Int) by omega]
    have go := cb_c2 hw hwl hk hkl hn hm (c := c) (kc := kc) (B := B) h g (i + 1) (by omega)
    by_cases hik : i < ks.length
    · refine yes (by omega) ?_
      obtain ⟨kb, ko, kcw, rfl, hkb, hkl, hkv⟩ := hk.get hik
      refine ⟨kb, ko, rfl, by omega, kcw, ks[i], hkb, by rw [Int.toNat_natCast]; rw [Nat.mul_one] at hkv; exact one_cell hkv, ?_⟩
      have hki := kbOf_get hik
      refine ⟨fun ht => ?_, fun hf => ?_⟩
      · rintro _ rfl
        rw [ht] at hki
        rw [lastOf, if_pos hki] at go
        exact go
      · rintro _ rfl
        rw [hf] at hki
        rw [lastOf, if_neg (by rw [hki]; decide)] at go
        exact go
    · refine no (by omega) ?_
      rintro _ rfl
      have hki := kbOf_out hik
      rw [lastOf, if_neg (by rw [hki]; decide)] at go
      exact go

theorem cb_c0 {w0 : World} {p kp : Option Addr} {ws : List WP} {ks : List Bool} {c kc : Nat} {D n : Nat} {torn : Int} (hw : WPs w0 p ws) (hwl : ws.length ≤ maxLen) (hk : SlAt (lkW w0) 1 boolP kp ks) (hkl : ks.length ≤ maxLen) (hn : n ≤ 100) {B : Nat} {F : SHeap} (hd : DRep D (DS.new n) F) : ∀ (g i : Nat) (l : List UInt8), g + i = n → l.length = n →
    CrashBytes_c0 B n p ws.length c kp ks.length kc torn true (some ⟨D, 0, none⟩) n n i (bytesL l) F w0 (RT w0)
  | 0, i, l, hg, hl => by
    apply CrashBytes_c0_vc
    refine no (by omega) ?_
    apply CrashBytes_c1_vc
    refine ⟨l, all_row hl, ?_⟩
    have hwr := Write_e hd (by simp [DS.new]) (off := ((0 : Nat) : Int)) (s := ⟨l.toArray⟩)
    have hsz : (⟨l.toArray⟩ : ByteArray).size = n := by rw [← bts_len]; simpa using hl
    have hnl : (DS.new n).vis.length = n := by simp [DS.new]
    rw [write_ok rfl rfl (by omega)] at hwr
    refine CallH.d1 hwr fun F h => ⟨_, _, rfl, rfl, yes' rfl ?_⟩
    have hsy := Sync_e h
    rw [sync_ok (d := (DS.new n).put 0 ⟨l.toArray⟩) rfl] at hsy
    refine CallH.d1 hsy fun F h => ⟨_, _, rfl, rfl, yes' rfl ?_⟩
    have hv : ((DS.new n).put 0 ⟨l.toArray⟩).vis = l := by
      rw [put_vis, ovr_all (by rw [hnl, bts_len, hsz])]
    refine cb_c2 hw hwl hk hkl hn rfl ⟨h, rfl, rfl, by rw [hv, hl], rfl, hv.symm, hl⟩ _ 0 (Nat.add_zero _)
  | g + 1, i, l, hg, hl => by
    apply CrashBytes_c0_vc
    refine yes (by omega) ⟨by omega, by rw [bytesL_length, Int.toNat_natCast]; omega, ?_⟩
    rintro _ rfl
    rw [wi64 (x := (i : Int) + 1) (by omega), show (i : Int) + 1 = ((i + 1 : Nat) : Int) by omega, Int.toNat_natCast]
    obtain ⟨b, hb⟩ := byte_wrap (IntKind.i64.wrap ((48 : Int) + ((i : Int).tmod (10 : Int))))
    rw [hb]
    have hset : (bytesL l).set i (.int .u8 (b.toNat : Int)) = bytesL (l.set i b) := by simp only [bytesL, List.map_set]
    rw [hset]
    exact cb_c0 hw hwl hk hkl hn hd g (i + 1) _ (by omega) (by rw [List.length_set, hl])

theorem CrashBytes_c {size torn : Int} (hs : i64 size) {W : World} {p kp : Option Addr} {c kc : Nat} {ws : List WP} {ks : List Bool} (hw : WPs W p ws) (hwl : ws.length ≤ maxLen) (hk : SlAt (lkW W) 1 boolP kp ks) (hkl : ks.length ≤ maxLen) :
    Calls Try.prog 7 ⟨[.int .i64 size, .slice p ws.length c, .slice kp ks.length kc, .int .i64 torn]⟩ W fun e W' => e = .returned (.bool true) ∧ Below W.heap.size W W' := by
  refine CrashBytes_vc size p ws.length c kp ks.length kc torn [] (Mem.start [] W) ?_
  refine CallH.pure sane_c ⟨_, rfl, rfl, ?_⟩
  refine CallH.pure (pick_c hs (by omega)) ⟨_, rfl, rfl, ?_⟩
  rintro _ rfl
  obtain ⟨N, hN, h1, h2⟩ := size_pick (size := size) 100 (by omega) (by omega)
  rw [show ((100 : Nat) : Int) = 100 from rfl] at hN
  rw [hN]
  refine CallH.new0 (N := N) rfl h1 (by omega) fun D F h => ⟨_, _, _, rfl, rfl, ?_⟩
  refine yes' rfl ⟨by omega, fun B => ?_⟩
  rw [Int.toNat_natCast, bytesL_zero]
  exact cb_c0 hw hwl hk hkl h2 h N 0 _ (by omega) (by simp)

/-! ### DiskCut -/
structure DC (D n N : Nat) (i : Nat) (d : DS) (F : SHeap) : Prop where
  rep : DRep D d F
  on : d.on = decide (i < N)
  cut : d.cut = N - i
  vis : d.vis.length = n
  pend : d.pend.length = min i N
  app : d.vis = applyP d.pend d.dur

theorem spend_on {d : DS} (h : d.cut ≠ 0) : d.spend.on = if d.cut = 1 then false else d.on := by
  unfold DS.spend; rw [if_neg h]; split <;> rfl
theorem spend_cut {d : DS} (h : d.cut ≠ 0) : d.spend.cut = d.cut - 1 := by
  unfold DS.spend; rw [if_neg h]; split
  · next h1 => rw [h1]
  · rfl
theorem DC.wr {D n N i : Nat} {d : DS} {F : SHeap} (h : DC D n N i d F) (hi : i < N) (w : WP) : d.write (fitO w n : Int) (fitS w n) = (0, (d.put (fitO w n) (fitS w n)).spend) := by
  have hfit := fitS_le w n
  have hb : (0 : Int) ≤ (fitO w n : Int) ∧ (fitO w n : Int) + ((fitS w n).size : Int) ≤ (d.vis.length : Int) := by rw [h.vis]; omega
  unfold DS.write
  rw [if_neg (by simp [h.on, hi]), if_pos hb, Int.toNat_natCast]
theorem DC.step {D n N i : Nat} {d : DS} {F F' : SHeap} (h : DC D n N i d F) (hi : i < N) {w : WP} (h' : DRep D (d.put (fitO w n) (fitS w n)).spend F') : DC D n N (i + 1) (d.put (fitO w n) (fitS w n)).spend F' ∧ (d.put (fitO w n) (fitS w n)).spend.vis = ovr d.vis (fitO w n) (bts (fitS w n)) := by
  have hfit := fitS_le w n
  have hc := h.cut
  have hon := h.on
  have hp := h.pend
  have hv : (d.put (fitO w n) (fitS w n)).spend.vis = ovr d.vis (fitO w n) (bts (fitS w n)) := by unfold DS.spend; split <;> (try split) <;> rfl
  have hpp : (d.put (fitO w n) (fitS w n)).spend.pend = d.pend ++ [(fitO w n, fitS w n)] := by unfold DS.spend; split <;> (try split) <;> rfl
  have hdd : (d.put (fitO w n) (fitS w n)).spend.dur = d.dur := by unfold DS.spend; split <;> (try split) <;> rfl
  refine ⟨⟨h', ?_, ?_, ?_, ?_, ?_⟩, hv⟩
  · rw [spend_on (by show d.cut ≠ 0; omega)]
    show (if d.cut = 1 then false else d.on) = _
    split
    · symm; simp; omega
    · rw [hon]; simp; omega
  · rw [spend_cut (by show d.cut ≠ 0; omega)]
    show d.cut - 1 = _
    omega
  · rw [hv, ovr_len (by rw [bts_len, h.vis]; omega), h.vis]
  · rw [hpp, List.length_append]; simp; omega
  · rw [hv, hpp, hdd, applyP_snoc, ← h.app]
theorem DC.off {D n N i : Nat} {d : DS} {F : SHeap} (h : DC D n N i d F) (hi : ¬ i < N) : DC D n N (i + 1) d F ∧ d.on = false := by
  have hon : d.on = false := by rw [h.on]; simp; omega
  exact ⟨⟨h.rep, by rw [hon]; symm; simp; omega, by rw [h.cut]; omega, h.vis, by rw [h.pend]; omega, h.app⟩, hon⟩

theorem off_read {d : DS} (h : d.on = false) (o n : Int) : d.read o n = (⟨#[]⟩, 231) := by unfold DS.read; rw [if_pos h]
theorem off_sync {d : DS} (h : d.on = false) : d.sync = (231, d) := by unfold DS.sync; rw [if_pos h]
theorem off_cut {d : DS} (h : d.on = false) (n : Int) : d.cutAt n = (231, d) := by unfold DS.cutAt; rw [if_pos h]
theorem off_write {d : DS} (h : d.on = false) (o : Int) (s : ByteArray) : d.write o s = (231, d) := by unfold DS.write; rw [if_pos h]

theorem dc_c2 {w0 : World} {D n N i : Nat} (hn : n ≤ 100) (hN : N ≤ 20) {B : Nat} {d : DS} {F : SHeap} (h : DC D n N i d F) (h0 : i = 0 ∨ N = 0) :
    DCut_c2 B n N true (some ⟨D, 0, none⟩) n n (bytesL d.vis) F w0 (RT w0) := by
  apply DCut_c2_vc
  by_cases hN0 : N = 0
  · refine no (by omega) ?_
    obtain ⟨_, hon⟩ := h.off (by omega)
    have hpl := h.pend
    have hr := Read_e h.rep (off := 0) (n := 0) (by omega)
    rw [off_read hon] at hr
    refine CallH.d1 hr fun F h1 => ⟨_, _, _, rfl, rfl, yes' rfl ?_⟩
    have hr := Sync_e h1
    rw [off_sync hon] at hr
    refine CallH.d1 hr fun F h1 => ⟨_, _, rfl, rfl, yes' rfl ?_⟩
    have hr := Cut_e h1 (n := 3) (by omega)
    rw [off_cut hon] at hr
    refine CallH.d1 hr fun F (h1 : DRep D d F) => ⟨_, _, rfl, rfl, yes' rfl ?_⟩
    refine CallH.d1 (Pending_e h1) fun F h1 => ⟨_, _, rfl, rfl, yes' (by omega) ?_⟩
    refine CallH.d1 (Size_e h1) fun F h1 => ⟨_, _, rfl, rfl, yes' (by rw [h.vis]) ?_⟩
    have hcr := Crash_e (kp := none) (kc := 0) (ks := []) h1 (by omega) (by simp) (-1)
    rw [as_end h.app (fun j hj => by omega)] at hcr
    refine CallH.dp (told := [_]) hcr (fun _ _ => keep_nil) fun F h1 => ⟨_, _, rfl, rfl, ?_⟩
    have hr1 := Read_e h1 (off := 0) (n := n) (by omega)
    rw [read_cr h.vis] at hr1
    have hpos := h1.1.pos
    refine CallH.d1 hr1 fun F h1 => ⟨_, _, _, rfl, rfl, tt rfl (yes rfl (yes rfl ⟨_, all_row h.vis, yes rfl ?_⟩))⟩
    have hwr := Write_e h1 (by simp) (off := ((0 : Nat) : Int)) (s := ⟨#[120]⟩)
    rw [write_ok rfl rfl (by show 0 + 1 ≤ _; simp only at hpos ⊢; omega)] at hwr
    refine CallH.d1 hwr fun F h1 => ⟨_, _, rfl, rfl, yes rfl ?_⟩
    have hsy := Sync_e h1
    rw [sync_ok rfl] at hsy
    refine CallH.d1 hsy fun F h1 => ⟨_, _, rfl, rfl, ?_⟩
    exact finPure rfl
  · have hi : i = 0 := by omega
    refine yes (by omega) (tt rfl ?_)
    have hsy := Sync_e h.rep
    rw [sync_ok (by rw [h.on]; simp; omega)] at hsy
    refine CallH.d1 hsy fun F h1 => ⟨_, _, rfl, rfl, ?_⟩
    exact finPure rfl

theorem dc_c3 {w0 : World} {D n N i : Nat} (hn : n ≤ 100) (hN : N ≤ 20) {B B2 cap : Nat} {r : List Value} {d : DS} {F : SHeap} (h : DC D n N i d F) :
    DCut_c3 B B2 n N true (some ⟨D, 0, none⟩) n n (min i N) cap (bytesL d.vis) ((ints (min i N)).map (Value.int .i64) ++ r) F w0 (RT w0) := by
  apply DCut_c3_vc
  by_cases hN0 : N ≤ i
  · refine no (by omega) ?_
    obtain ⟨_, hon⟩ := h.off (by omega)
    have hpl := h.pend
    have hr := Read_e h.rep (off := 0) (n := 0) (by omega)
    rw [off_read hon] at hr
    refine CallH.d2 hr fun F h1 => ⟨_, _, _, rfl, rfl, yes' rfl ?_⟩
    have hr := Sync_e h1
    rw [off_sync hon] at hr
    refine CallH.d2 hr fun F h1 => ⟨_, _, rfl, rfl, yes' rfl ?_⟩
    have hr := Cut_e h1 (n := 3) (by omega)
    rw [off_cut hon] at hr
    refine CallH.d2 hr fun F (h1 : DRep D d F) => ⟨_, _, rfl, rfl, yes' rfl ?_⟩
    refine CallH.d2 (Pending_e h1) fun F h1 => ⟨_, _, rfl, rfl, yes' (by omega) ?_⟩
    refine CallH.d2 (Size_e h1) fun F h1 => ⟨_, _, rfl, rfl, yes' (by rw [h.vis]) ?_⟩
    have hcr := Crash_e (kp := some ⟨B2, 0, none⟩) (kc := cap) (ks := ints (min i N)) h1 (by omega) (by rw [ints_len]; omega) (-1)
    rw [as_end h.app (fun j hj => ints_mem (by omega)), ints_len] at hcr
    refine CallH.dp (told := [_, _]) hcr (fun W hm => keep_own hm (.tail _ (.head _)) (fun j hj => ?_)) fun F h1 => ⟨_, _, rfl, rfl, ?_⟩
    · rw [List.getElem?_append_left (by rw [List.length_map]; exact hj), List.getElem?_map, List.getElem?_eq_getElem hj, Option.map_some]
    have hr1 := Read_e h1 (off := 0) (n := n) (by omega)
    rw [read_cr h.vis] at hr1
    have hpos := h1.1.pos
    refine CallH.d2 hr1 fun F h1 => ⟨_, _, _, rfl, rfl, tt rfl (yes rfl (yes rfl ⟨_, all_row h.vis, yes rfl ?_⟩))⟩
    have hwr := Write_e h1 (by simp) (off := ((0 : Nat) : Int)) (s := ⟨#[120]⟩)
    rw [write_ok rfl rfl (by show 0 + 1 ≤ _; simp only at hpos ⊢; omega)] at hwr
    refine CallH.d2 hwr fun F h1 => ⟨_, _, rfl, rfl, yes rfl ?_⟩
    have hsy := Sync_e h1
    rw [sync_ok rfl] at hsy
    refine CallH.d2 hsy fun F h1 => ⟨_, _, rfl, rfl, ?_⟩
    exact finPure rfl
  · refine yes (by omega) (tt rfl ?_)
    have hsy := Sync_e h.rep
    rw [sync_ok (by rw [h.on]; simp; omega)] at hsy
    refine CallH.d2 hsy fun F h1 => ⟨_, _, rfl, rfl, ?_⟩
    exact finPure rfl

theorem dc_c1 {w0 : World} {p : Option Addr} {ws : List WP} {c : Nat} {D n N : Nat} (hw : WPs w0 p ws) (hwl : ws.length ≤ maxLen) (hn : n ≤ 100) (hN : N ≤ 20) : ∀ (g i : Nat) (B B2 cap : Nat) (d : DS) (F : SHeap) (r : List Value), g + i = 40 →
    DC D n N i d F → min i N ≤ cap → ((ints (min i N)).map (Value.int .i64) ++ r).length = cap * 1 →
    DCut_c1 B B2 n N p ws.length c true (some ⟨D, 0, none⟩) n n (min i N) cap i (bytesL d.vis) ((ints (min i N)).map (Value.int .i64) ++ r) F w0 (RT w0)
  | 0, i, B, B2, cap, d, F, r, hg, h, hc, hr => by
    apply DCut_c1_vc
    exact ⟨fun _ => no (by omega) (dc_c3 hn hN h), fun _ => dc_c3 hn hN h⟩
  | g + 1, i, B, B2, cap, d, F, r, hg, h, hc, hr => by
    apply DCut_c1_vc
    refine ⟨fun hlt => yes (by omega) ?_, fun _ => dc_c3 hn hN h⟩
    have hi : i < ws.length := by omega
    obtain ⟨b, o, cw, rfl, hb, hcl, hcs, hwo⟩ := hw.get hi
    generalize ws[i] = w at hcs hwo
    refine ⟨b, o, rfl, by omega, cw, w.off, w.s, w.sync, hb, by rw [Int.toNat_natCast]; exact ⟨hcs, hcl⟩, ?_⟩
    refine CallH.pure (fits_c hwo (by omega)) ⟨_, _, _, rfl, rfl, fun B8 => ?_⟩
    have hfit := fitS_le w n
    have hpl := h.pend
    have hwr := Write_e h.rep (by omega) (off := (fitO w n : Int)) (s := fitS w n)
    have e1 : IntKind.i64.wrap ((i : Int) + 1) = ((i + 1 : Nat) : Int) := by rw [wi64 (by omega)]; omega
    by_cases hiN : i < N
    · rw [h.wr hiN w] at hwr
      refine CallH.d3 hwr fun F' h' => ⟨_, _, rfl, rfl, yes (by omega) ?_⟩
      obtain ⟨hst, hvs⟩ := h.step hiN h'
      refine CallH.put2 hfit (by omega) h.vis ⟨_, rfl, rfl, fun B9 => ⟨⟨hc, hr⟩, ⟨by omega, by omega⟩, fun B10 cap2 r2 hc2 hr2 => yes rfl ?_⟩⟩
      rintro _ rfl
      have ht : ((ints (min i N)).map (Value.int .i64) ++ r).take (min i N * 1) = (ints (min i N)).map (Value.int .i64) := List.take_left' (by rw [List.length_map, ints_len, Nat.mul_one])
      have hm : min (i + 1) N = min i N + 1 := by omega
      have hm2 : min i N = i := by omega
      have he : (ints (min i N)).map (Value.int .i64) ++ ([.int .i64 (i : Int)] : List Value) = (ints (min (i + 1) N)).map (Value.int .i64) := by rw [hm, hm2, ints_succ, List.map_append]; rfl
      rw [ht, he] at hr2 ⊢
      rw [e1, ← hvs]
      have go := dc_c1 hw hwl hn hN (c := c) g (i + 1) B B10 cap2 _ F' r2 (by omega) hst (by omega) hr2
      rw [hm] at go ⊢
      exact go
    · obtain ⟨hst, hon⟩ := h.off hiN
      rw [off_write hon] at hwr
      refine CallH.d3 hwr fun F' h' => ⟨_, _, rfl, rfl, no (by omega) (no (show ¬ (231 : Int) = 0 by decide) (yes' rfl ?_))⟩
      rintro _ rfl
      have hm : min (i + 1) N = min i N := by omega
      have go := dc_c1 hw hwl hn hN (c := c) g (i + 1) B B2 cap d F' r (by omega) ⟨h', hst.on, hst.cut, hst.vis, hst.pend, hst.app⟩ (by omega) (by rw [hm]; exact hr)
      rw [hm] at go
      rw [e1]
      exact go

theorem dc_c0 {w0 : World} {p : Option Addr} {ws : List WP} {c : Nat} {D n N : Nat} (hw : WPs w0 p ws) (hwl : ws.length ≤ maxLen) (hn : n ≤ 100) (hN : N ≤ 20) : ∀ (g i : Nat) (B : Nat) (d : DS) (F : SHeap), g + i = 40 →
    DC D n N i d F → (i = 0 ∨ N = 0) →
    DCut_c0 B n N p ws.length c true (some ⟨D, 0, none⟩) n n i (bytesL d.vis) F w0 (RT w0)
  | 0, i, B, d, F, hg, h, h0 => by
    apply DCut_c0_vc
    exact ⟨fun _ => no (by omega) (dc_c2 hn hN h h0), fun _ => dc_c2 hn hN h h0⟩
  | g + 1, i, B, d, F, hg, h, h0 => by
    apply DCut_c0_vc
    refine ⟨fun hlt => yes (by omega) ?_, fun _ => dc_c2 hn hN h h0⟩
    have hi : i < ws.length := by omega
    obtain ⟨b, o, cw, rfl, hb, hcl, hcs, hwo⟩ := hw.get hi
    generalize ws[i] = w at hcs hwo
    refine ⟨b, o, rfl, by omega, cw, w.off, w.s, w.sync, hb, by rw [Int.toNat_natCast]; exact ⟨hcs, hcl⟩, ?_⟩
    refine CallH.pure (fits_c hwo (by omega)) ⟨_, _, _, rfl, rfl, fun B8 => ?_⟩
    have hfit := fitS_le w n
    have hpl := h.pend
    have hwr := Write_e h.rep (by omega) (off := (fitO w n : Int)) (s := fitS w n)
    have e1 : IntKind.i64.wrap ((i : Int) + 1) = ((i + 1 : Nat) : Int) := by rw [wi64 (by omega)]; omega
    by_cases hiN : i < N
    · rw [h.wr hiN w] at hwr
      refine CallH.d2 hwr fun F' h' => ⟨_, _, rfl, rfl, yes (by omega) ?_⟩
      obtain ⟨hst, hvs⟩ := h.step hiN h'
      refine CallH.put2 hfit (by omega) h.vis ⟨_, rfl, rfl, fun B9 B10 cap2 r2 hc2 hr2 => yes rfl ?_⟩
      rintro _ rfl
      have hi0 : i = 0 := by omega
      subst hi0
      have hm : min 1 N = 1 := by omega
      have go := dc_c1 hw hwl hn hN (c := c) g 1 B B10 cap2 _ F' r2 (by omega) hst (by omega) (by rw [hm]; exact hr2)
      rw [hm] at go
      rw [e1, ← hvs]
      exact go
    · obtain ⟨hst, hon⟩ := h.off hiN
      rw [off_write hon] at hwr
      refine CallH.d2 hwr fun F' h' => ⟨_, _, rfl, rfl, no (by omega) (no (show ¬ (231 : Int) = 0 by decide) (yes' rfl ?_))⟩
      rintro _ rfl
      rw [e1]
      exact dc_c0 hw hwl hn hN (c := c) g (i + 1) B d F' (by omega) ⟨h', hst.on, hst.cut, hst.vis, hst.pend, hst.app⟩ (by omega)

theorem Cut_c {size nn : Int} (hs : i64 size) (hn : i64 nn) {W : World} {p : Option Addr} {c : Nat} {ws : List WP} (hw : WPs W p ws) (hwl : ws.length ≤ maxLen) :
    Calls Try.prog 9 ⟨[.int .i64 size, .int .i64 nn, .slice p ws.length c]⟩ W fun e W' => e = .returned (.bool true) ∧ Below W.heap.size W W' := by
  refine DCut_vc size nn p ws.length c [] (Mem.start [] W) ?_
  refine CallH.pure sane_c ⟨_, rfl, rfl, ?_⟩
  refine CallH.pure (pick_c hs (by omega)) ⟨_, rfl, rfl, ?_⟩
  rintro _ rfl
  refine CallH.pure (pick_c hn (by omega)) ⟨_, rfl, rfl, ?_⟩
  obtain ⟨N, hN, h1, h2⟩ := size_pick (size := size) 100 (by omega) (by omega)
  rw [show ((100 : Nat) : Int) = 100 from rfl] at hN
  rw [hN]
  have hr := pickI_rng nn (n := 20) (by omega)
  obtain ⟨M, hM⟩ : ∃ M : Nat, pickI nn 20 = M := ⟨(pickI nn 20).toNat, by omega⟩
  rw [hM] at hr ⊢
  refine CallH.new0 (N := N) rfl h1 (by omega) fun D F h => ⟨_, _, _, rfl, rfl, ?_⟩
  refine yes' rfl ?_
  rw [wi64 (by omega)]
  have hc1 := Cut_e h (n := (M : Int) + 5) (by omega)
  have e1 : (DS.new N).cutAt ((M : Int) + 5) = (0, { DS.new N with cut := M + 5 }) := by
    unfold DS.cutAt
    rw [if_neg (by simp [DS.new]), if_neg (by omega), if_neg (by omega)]
    rw [show ((M : Int) + 5).toNat = M + 5 by omega]
  rw [e1] at hc1
  refine CallH.d0 hc1 fun F h => ⟨_, _, rfl, rfl, yes' rfl ?_⟩
  have hc2 := Cut_e h (n := (M : Int)) (by omega)
  have e2 : ({ DS.new N with cut := M + 5 } : DS).cutAt (M : Int) = (0, { DS.new N with on := decide (0 < M), cut := M }) := by
    unfold DS.cutAt
    rw [if_neg (by simp [DS.new]), if_neg (by omega)]
    by_cases h0 : M = 0
    · subst h0; rfl
    · rw [if_neg (by omega), Int.toNat_natCast]
      have : decide (0 < M) = true := by simp; omega
      rw [this]; rfl
  rw [e2] at hc2
  refine CallH.d0 hc2 fun F h => ⟨_, _, rfl, rfl, yes' rfl ⟨by omega, fun B => ?_⟩⟩
  rw [Int.toNat_natCast, bytesL_zero]
  exact dc_c0 hw hwl h2 (by omega) 40 0 B _ F (by omega) ⟨h, rfl, rfl, by simp [DS.new], by simp [DS.new], rfl⟩ (.inl rfl)
end Go.Eng
