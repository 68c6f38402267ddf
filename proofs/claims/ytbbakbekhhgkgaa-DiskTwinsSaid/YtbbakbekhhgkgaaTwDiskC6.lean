/- Contracts and plain laws for the proof; no claim of its own. -/
import Derived.Test.YtbbakbekhhgkgaaTwDiskC5
import Derived.Test.YtbbakbekhhgkgaaTwEngD5
namespace Go.Eng
open Go Go.RowKit Go.Proofs

def wpP (cs : List Value) (w : WP) : Prop := cs = [.int .i64 w.off, .string w.s, .bool w.sync] ∧ i64 w.off
abbrev WPs (w : World) (p : Option Addr) (ws : List WP) : Prop := SlAt (lkW w) 3 wpP p ws

theorem write_ok {d : DS} (hon : d.on = true) (hc : d.cut = 0) {o : Nat} {s : ByteArray} (hb : o + s.size ≤ d.vis.length) : d.write (o : Int) s = (0, d.put o s) := by
  have h : (0 : Int) ≤ (o : Int) ∧ (o : Int) + (s.size : Int) ≤ (d.vis.length : Int) := by omega
  unfold DS.write
  rw [if_neg (by simp [hon]), if_pos h, Int.toNat_natCast]
  have : (d.put o s).spend = d.put o s := by unfold DS.spend; rw [if_pos (by simp [DS.put, hc])]
  rw [this]
theorem sync_ok {d : DS} (hon : d.on = true) : d.sync = (0, { d with dur := d.vis, pend := [] }) := by unfold DS.sync; rw [if_neg (by simp [hon])]
theorem read_all {d : DS} (hon : d.on = true) {n : Nat} (hn : d.vis.length = n) : d.read 0 (n : Int) = (⟨d.vis.toArray⟩, 0) := by
  unfold DS.read
  rw [if_neg (by simp [hon]), if_pos (by omega)]
  simp [← hn]
theorem put_vis (d : DS) (o : Nat) (s : ByteArray) : (d.put o s).vis = ovr d.vis o (bts s) := rfl

theorem Nil_c (off n : Int) (s : ByteArray) (p : Option Addr) (l c : Nat) (hlc : l ≤ c) : PureC Try.prog 4 ⟨[.int .i64 off, .int .i64 n, .string s, .slice p l c]⟩ (.bool true) := by
  intro W
  have w0 : ∀ o s, PureC Try.prog 17 ⟨[.pointer none, .int .i64 o, .string s]⟩ (.int .i64 1) := fun o s W => Write0_vc o s (Mem.start [] W) (finPure rfl)
  have r0 : ∀ o n, PureC Try.prog 13 ⟨[.pointer none, .int .i64 o, .int .i64 n]⟩ (.tuple #[.string ⟨#[]⟩, .int .i64 1]) := fun o s W => Read0_vc o s (Mem.start [] W) (finPure rfl)
  have s0 : PureC Try.prog 19 ⟨[.pointer none]⟩ (.int .i64 1) := fun W => Sync0_vc (Mem.start [] W) (finPure rfl)
  have c0 : ∀ n, PureC Try.prog 20 ⟨[.pointer none, .int .i64 n]⟩ (.int .i64 1) := fun n W => Cut0_vc n (Mem.start [] W) (finPure rfl)
  have k0 : ∀ p l c t, PureC Try.prog 21 ⟨[.pointer none, .slice p l c, .int .i64 t]⟩ (.int .i64 1) := fun p l c t W => Crash0_vc p l c t (Mem.start [] W) (finPure rfl)
  have p0 : PureC Try.prog 16 ⟨[.pointer none]⟩ (.int .i64 0) := fun W => Pending0_vc (Mem.start [] W) (finPure rfl)
  have z0 : PureC Try.prog 15 ⟨[.pointer none]⟩ (.int .i64 0) := fun W => Size0_vc (Mem.start [] W) (finPure rfl)
  refine Nil_vc off n s p l c [] (Mem.start [] W) ?_
  refine CallH.pure sane_c ⟨_, rfl, rfl, ?_⟩
  refine CallH.pure (r0 off n) ⟨_, _, _, rfl, rfl, ?_⟩
  refine tt rfl (yes rfl (yes rfl ?_))
  refine CallH.pure (cut_c s (N := 100) rfl) ⟨_, rfl, rfl, ?_⟩
  refine CallH.pure (w0 _ _) ⟨_, _, rfl, rfl, yes rfl ?_⟩
  refine CallH.pure s0 ⟨_, _, rfl, rfl, yes rfl ?_⟩
  refine CallH.pure (c0 n) ⟨_, _, rfl, rfl, yes rfl ⟨by split <;> omega, ?_⟩⟩
  refine CallH.pure (k0 _ _ _ _) ⟨_, _, rfl, rfl, yes rfl ?_⟩
  refine CallH.pure p0 ⟨_, _, rfl, rfl, yes rfl ?_⟩
  refine CallH.pure z0 ⟨_, _, rfl, rfl, ?_⟩
  exact finPure rfl

theorem NewM_c {size at' : Int} (hs : i64 size) (ha : i64 at') : PureC Try.prog 3 ⟨[.int .i64 size, .int .i64 at']⟩ (.bool true) := by
  intro W
  refine NewM_vc size at' [] (Mem.start [] W) ?_
  refine CallH.pure sane_c ⟨_, rfl, rfl, ?_⟩
  by_cases h1 : size < 1
  · refine CallH.pure (New_bad (.inl h1)) ⟨_, _, _, rfl, rfl, ?_⟩
    exact yes h1 (tt rfl (isNone (finPure rfl)))
  by_cases h2 : 4194304 < size
  · refine CallH.pure (New_bad (.inr h2)) ⟨_, _, _, rfl, rfl, ?_⟩
    exact no h1 (yes h2 (tt rfl (isNone (finPure rfl))))
  obtain ⟨N, rfl⟩ : ∃ N : Nat, size = N := ⟨size.toNat, by omega⟩
  refine CallH.new0 (N := N) rfl (by omega) (by omega) fun D F h => ⟨_, _, _, rfl, rfl, ?_⟩
  refine no h1 (no h2 (isSome (yes' rfl ?_)))
  refine CallH.pure (pick_c ha (by omega)) ⟨_, rfl, rfl, ?_⟩
  have hr := pickI_rng at' (n := (N : Int)) (by omega)
  have hrd : (DS.new N).read (pickI at' N) 1 = (⟨#[0]⟩, 0) := by
    unfold DS.read
    rw [if_neg (by simp [DS.new]), if_pos (by simp [DS.new]; omega)]
    have : ((DS.new N).vis.drop (pickI at' N).toNat).take (1 : Int).toNat = [0] := by
      simp only [DS.new, List.drop_replicate, List.take_replicate]
      rw [show min (1 : Int).toNat (N - (pickI at' N).toNat) = 1 by omega]; rfl
    rw [this]
  have hread := Read_e h (off := pickI at' N) (n := 1) (by omega)
  rw [hrd] at hread
  refine CallH.d0 hread fun F h => ⟨_, _, _, rfl, rfl, tt rfl ?_⟩
  refine CallH.d0 (Size_e h) fun F h => ⟨_, _, rfl, rfl, yes (by simp [DS.new]) ?_⟩
  refine CallH.d0 (Pending_e h) fun F h => ⟨_, _, rfl, rfl, yes rfl (yes rfl ?_)⟩
  exact finPure rfl

theorem rb_loop {w0 : World} {p : Option Addr} {ws : List WP} (hw : WPs w0 p ws) (hwl : ws.length ≤ maxLen) {c : Nat} {B D n : Nat} (hn : n ≤ 300) : ∀ (g i : Nat) (d : DS) (F : SHeap), g + i = 60 → DRep D d F → d.on = true → d.cut = 0 → d.vis.length = n → d.pend.length ≤ i →
    ReadsBack_c0 B n p ws.length c true (some ⟨D, 0, none⟩) n n i (bytesL d.vis) F w0 (fun e W' => e = .returned (.bool true) ∧ Below w0.heap.size w0 W')
  | 0, i, d, F, hg, hd, hon, hc, hv, hp => by
    apply ReadsBack_c0_vc
    exact ⟨fun _ => no (by omega) (finPure rfl), fun _ => finPure rfl⟩
  | g + 1, i, d, F, hg, hd, hon, hc, hv, hp => by
    apply ReadsBack_c0_vc
    refine ⟨fun hlt => yes (by omega) ?_, fun _ => finPure rfl⟩
    have hi : i < ws.length := by omega
    obtain ⟨b, o, cw, rfl, hb, hcl, hcs, hwo⟩ := hw.get hi
    generalize ws[i] = w at hcs hwo
    refine ⟨b, o, rfl, by omega, cw, w.off, w.s, w.sync, hb, by rw [Int.toNat_natCast]; exact ⟨hcs, hcl⟩, ?_⟩
    refine CallH.pure (fits_c hwo (by omega)) ⟨_, _, _, rfl, rfl, fun B2 => ?_⟩
    have hfit := fitS_le w n
    refine CallH.put2 hfit (by omega) (by omega) ⟨_, rfl, rfl, ?_⟩
    have hwr := Write_e hd (by omega) (off := (fitO w n : Int)) (s := fitS w n)
    rw [write_ok hon hc (by omega)] at hwr
    refine CallH.d2 hwr fun F h => ⟨_, _, rfl, rfl, ?_⟩
    have hl : (d.put (fitO w n) (fitS w n)).vis.length = n := by rw [put_vis, ovr_len (by rw [bts_len]; omega), hv]
    have hpl : (d.put (fitO w n) (fitS w n)).pend.length ≤ i + 1 := by simp [DS.put]; exact hp
    have hrd := read_all (d := d.put (fitO w n) (fitS w n)) hon hl
    have hbs : (((bytesL (ovr d.vis (fitO w n) (bts (fitS w n)))).drop 0).take n = bytesL (ovr d.vis (fitO w n) (bts (fitS w n))) ∧ (ovr d.vis (fitO w n) (bts (fitS w n))).length = n) := by
      rw [put_vis] at hl
      exact ⟨by rw [List.drop_zero, List.take_of_length_le (by rw [bytesL_length]; omega)], hl⟩
    refine yes' rfl ⟨fun hs => ?_, fun hs => ?_⟩
    · have hsy := Sync_e h
      rw [sync_ok (d := d.put (fitO w n) (fitS w n)) hon] at hsy
      refine CallH.d2 hsy fun F h => ⟨_, _, rfl, rfl, yes' rfl ?_⟩
      have hre := Read_e h (off := 0) (n := n) (by omega)
      rw [read_all (d := { (d.put (fitO w n) (fitS w n)) with dur := (d.put (fitO w n) (fitS w n)).vis, pend := [] }) hon hl] at hre
      refine CallH.d2 hre fun F h => ⟨_, _, _, rfl, rfl, yes' rfl ⟨_, hbs, ?_⟩⟩
      refine yes' rfl ?_
      rintro _ rfl
      rw [wi64 (by omega), show (i : Int) + 1 = ((i + 1 : Nat) : Int) by omega]
      exact rb_loop hw hwl hn g (i + 1) _ F (by omega) h hon hc hl (Nat.zero_le _)
    · have hre := Read_e h (off := 0) (n := n) (by omega)
      rw [hrd] at hre
      refine CallH.d2 hre fun F h => ⟨_, _, _, rfl, rfl, yes' rfl ⟨_, hbs, ?_⟩⟩
      refine yes' rfl ?_
      rintro _ rfl
      rw [wi64 (by omega), show (i : Int) + 1 = ((i + 1 : Nat) : Int) by omega]
      exact rb_loop hw hwl hn g (i + 1) _ F (by omega) h hon hc hl hpl

theorem size_pick {size : Int} (m : Nat) (hm : 0 < m) (hm2 : m ≤ 4194303) : ∃ N : Nat, IntKind.i64.wrap (1 + pickI size m) = N ∧ 1 ≤ N ∧ N ≤ m := by
  have hr := pickI_rng size (n := (m : Int)) (by omega)
  rw [wi64 (by omega)]
  exact ⟨(1 + pickI size m).toNat, by omega, by omega, by omega⟩

theorem ReadsBack_c {size : Int} (hs : i64 size) {W : World} {p : Option Addr} {c : Nat} {ws : List WP} (hw : WPs W p ws) (hwl : ws.length ≤ maxLen) :
    Calls Try.prog 5 ⟨[.int .i64 size, .slice p ws.length c]⟩ W fun e W' => e = .returned (.bool true) ∧ Below W.heap.size W W' := by
  refine ReadsBack_vc size p ws.length c [] (Mem.start [] W) ?_
  refine CallH.pure sane_c ⟨_, rfl, rfl, ?_⟩
  refine CallH.pure (pick_c hs (by omega)) ⟨_, rfl, rfl, ?_⟩
  rintro _ rfl
  obtain ⟨N, hN, h1, h2⟩ := size_pick (size := size) 300 (by omega) (by omega)
  rw [show ((300 : Nat) : Int) = 300 from rfl] at hN
  rw [hN]
  refine CallH.new0 (N := N) rfl h1 (by omega) fun D F h => ⟨_, _, _, rfl, rfl, ?_⟩
  refine yes' rfl ⟨by omega, fun B => ?_⟩
  rw [Int.toNat_natCast, bytesL_zero]
  exact rb_loop hw hwl h2 60 0 (DS.new N) F (by omega) h rfl rfl (by simp [DS.new]) (Nat.zero_le _)
end Go.Eng
