/- Contracts and plain laws for the proof; no claim of its own. -/
import Derived.Test.YtbbakbekhhgkgaaTwDiskC9
import Derived.Test.YtbbakbekhhgkgaaTwEngD8
namespace Go.Eng
open Go Go.RowKit Go.Proofs
set_option linter.unusedVariables false

/-! ### DiskTwins: three disks side by side, alone ahead of d ahead of c -/
section
variable {P : Program} {g : FuncId} {args : Array Value} {F A B : SHeap} {S : List Nat} {w0 : World} {D : Nat} {v : Value} {d : DS} {K : Value → SHeap → Prop} {x : Nat × Obj}

theorem perm_mid (F A B : SHeap) : (F ++ (A ++ B)).Perm (A ++ (F ++ B)) := by
  rw [← List.append_assoc, ← List.append_assoc]
  exact List.Perm.append_right B List.perm_append_comm
theorem perm_end (F A B : SHeap) : (F ++ (A ++ B)).Perm (A ++ (B ++ F)) := by
  rw [← List.append_assoc A B F]
  exact List.perm_append_comm

theorem CallH.mA (h : EffC P g args F (DRes D v d)) (hK : ∀ F', DRep D d F' → K v (F' ++ B)) : CallH P g args (F ++ B) S w0 K :=
  CallH.eff (L1 := B) h (List.Perm.refl _) fun v' L' hk => ⟨L' ++ B, List.Perm.refl _, by obtain ⟨rfl, hr⟩ := hk; exact hK _ hr⟩
theorem CallH.mC (h : EffC P g args F (DRes D v d)) (hK : ∀ F', DRep D d F' → K v (A ++ (B ++ F'))) : CallH P g args (A ++ (B ++ F)) S w0 K :=
  CallH.eff (L1 := A ++ B) h (perm_end F A B) fun v' L' hk => ⟨A ++ (B ++ L'), perm_end L' A B, by obtain ⟨rfl, hr⟩ := hk; exact hK _ hr⟩
theorem CallH.mA1 (h : EffC P g args F (DRes D v d)) (hK : ∀ F', DRep D d F' → K v (x :: (F' ++ B))) : CallH P g args (x :: (F ++ B)) S w0 K :=
  CallH.eff (L1 := x :: B) h List.perm_middle fun v' L' hk => ⟨x :: (L' ++ B), List.perm_middle, by obtain ⟨rfl, hr⟩ := hk; exact hK _ hr⟩
theorem CallH.mC1 (h : EffC P g args F (DRes D v d)) (hK : ∀ F', DRep D d F' → K v (x :: (A ++ (B ++ F')))) : CallH P g args (x :: (A ++ (B ++ F))) S w0 K :=
  CallH.eff (L1 := x :: (A ++ B)) h (List.perm_middle.trans (List.Perm.cons x (perm_end F A B))) fun v' L' hk => ⟨x :: (A ++ (B ++ L')), List.perm_middle.trans (List.Perm.cons x (perm_end L' A B)), by obtain ⟨rfl, hr⟩ := hk; exact hK _ hr⟩
theorem CallH.mD1 (h : EffC P g args F (DRes D v d)) (hK : ∀ F', DRep D d F' → K v (x :: (A ++ (F' ++ B)))) : CallH P g args (x :: (A ++ (F ++ B))) S w0 K :=
  CallH.eff (L1 := x :: (A ++ B)) h (List.perm_middle.trans (List.Perm.cons x (perm_mid F A B))) fun v' L' hk => ⟨x :: (A ++ (L' ++ B)), List.perm_middle.trans (List.Perm.cons x (perm_mid L' A B)), by obtain ⟨rfl, hr⟩ := hk; exact hK _ hr⟩
theorem CallH.mDp {Pre : World → Prop} (h : EffP P g args F Pre (DRes D v d)) (hp : ∀ W, Pre W) (hK : ∀ F', DRep D d F' → K v (x :: (A ++ (F' ++ B)))) : CallH P g args (x :: (A ++ (F ++ B))) S w0 K :=
  CallH.effP (L1 := x :: (A ++ B)) h (fun W _ => hp W) (List.perm_middle.trans (List.Perm.cons x (perm_mid F A B))) fun v' L' hk => ⟨x :: (A ++ (L' ++ B)), List.perm_middle.trans (List.Perm.cons x (perm_mid L' A B)), by obtain ⟨rfl, hr⟩ := hk; exact hK _ hr⟩
end

structure TwS (n i : Nat) (d : DS) : Prop where
  on : d.on = true
  cut : d.cut = 0
  vis : d.vis.length = n
  pend : d.pend.length ≤ i

theorem TwS.put {n i : Nat} {d : DS} (h : TwS n i d) (w : WP) : TwS n (i + 1) (d.put (fitO w n) (fitS w n)) :=
  ⟨h.on, h.cut, by rw [put_vis, ovr_len (by rw [bts_len, h.vis]; exact fitS_le w n), h.vis], by simp only [DS.put, List.length_append, List.length_cons, List.length_nil]; have := h.pend; omega⟩
theorem TwS.sync {n i : Nat} {d : DS} (h : TwS n i d) : TwS n i { d with dur := d.vis, pend := [] } := ⟨h.on, h.cut, h.vis, Nat.zero_le _⟩
theorem TwS.crash {n i : Nat} {d : DS} (h : TwS n i d) (hd : DOk d) : TwS n i (DS.mk true 0 d.dur d.dur []) := ⟨rfl, rfl, by rw [← h.vis]; exact hd.len, Nat.zero_le _⟩
theorem TwS.up {n i : Nat} {d : DS} (h : TwS n i d) : TwS n (i + 1) d := ⟨h.on, h.cut, h.vis, Nat.le_succ_of_le h.pend⟩

theorem tw_end {w0 : World} {C A n i : Nat} (hn : n ≤ 100) {a : DS} {Fc Fd Fa : SHeap} (hc : DRep C a Fc) (ha : DRep A a Fa) (sa : TwS n i a) :
    Twins_c1 n true (some ⟨C, 0, none⟩) (some ⟨A, 0, none⟩) (Fa ++ (Fd ++ Fc)) w0 (RT w0) := by
  apply Twins_c1_vc
  have h1 := Read_e hc (off := 0) (n := n) (by omega)
  rw [read_all sa.on sa.vis] at h1
  refine CallH.mC h1 fun Fc hc => ⟨_, _, _, rfl, rfl, ?_⟩
  have h2 := Read_e ha (off := 0) (n := n) (by omega)
  rw [read_all sa.on sa.vis] at h2
  refine CallH.mA h2 fun Fa ha => ⟨_, _, _, rfl, rfl, tt rfl (yes rfl (yes rfl (yes rfl ?_)))⟩
  refine CallH.mC (Pending_e hc) fun Fc hc => ⟨_, _, rfl, rfl, ?_⟩
  refine CallH.mA (Pending_e ha) fun Fa ha => ⟨_, _, rfl, rfl, ?_⟩
  exact finPure (by simp)

theorem tw_loop {w0 : World} {p : Option Addr} {ws : List WP} (hw : WPs w0 p ws) (hwl : ws.length ≤ maxLen) {c : Nat} {C D A n : Nat} (hn : n ≤ 100) : ∀ (g i : Nat) (a d : DS) (Fc Fd Fa : SHeap), g + i = 30 → DRep C a Fc → DRep D d Fd → DRep A a Fa → TwS n i a → TwS n i d →
    Twins_c0 n p ws.length c true (some ⟨C, 0, none⟩) (some ⟨D, 0, none⟩) (some ⟨A, 0, none⟩) i (Fa ++ (Fd ++ Fc)) w0 (RT w0)
  | 0, i, a, d, Fc, Fd, Fa, hg, hc, hd, ha, sa, sd => by
    apply Twins_c0_vc
    exact ⟨fun _ => no (by omega) (tw_end hn hc ha sa), fun _ => tw_end hn hc ha sa⟩
  | g + 1, i, a, d, Fc, Fd, Fa, hg, hc, hd, ha, sa, sd => by
    apply Twins_c0_vc
    refine ⟨fun hlt => yes (by omega) ?_, fun _ => tw_end hn hc ha sa⟩
    have hi : i < ws.length := by omega
    obtain ⟨b, o, cw, rfl, hb, hcl, hcs, hwo⟩ := hw.get hi
    generalize ws[i] = w at hcs hwo
    refine ⟨b, o, rfl, by omega, cw, w.off, w.s, w.sync, hb, by rw [Int.toNat_natCast]; exact ⟨hcs, hcl⟩, ?_⟩
    refine CallH.pure (fits_c hwo (by omega)) ⟨_, _, _, rfl, rfl, fun B8 => ?_⟩
    have hfit := fitS_le w n
    have e1 : IntKind.i64.wrap ((i : Int) + 1) = ((i + 1 : Nat) : Int) := by rw [wi64 (by omega)]; omega
    refine ⟨fun hodd => ?_, fun hev => ?_⟩
    · have hwr := Write_e hd (by have := sd.pend; omega) (off := (fitO w n : Int)) (s := fitS w n)
      rw [write_ok sd.on sd.cut (by rw [sd.vis]; omega)] at hwr
      refine CallH.mD1 hwr fun Fd h1 => ⟨_, _, rfl, rfl, yes' rfl ?_⟩
      have s1 := sd.put w
      refine ⟨fun hs => ?_, fun hs => ?_⟩
      · have hsy := Sync_e h1
        rw [sync_ok s1.on] at hsy
        refine CallH.mD1 hsy fun Fd h2 => ⟨_, _, rfl, rfl, yes' rfl ?_⟩
        have s2 := s1.sync
        refine ⟨fun h7 => ?_, fun h7 => ?_⟩
        · have hcr := Crash_e (kp := none) (kc := 0) (ks := []) h2 (Nat.lt_of_le_of_lt s2.pend (by omega)) (by simp) 1
          rw [crash_nil] at hcr
          refine CallH.mDp hcr (fun _ => keep_nil) fun Fd h3 => ⟨_, _, rfl, rfl, yes' rfl ?_⟩
          rintro _ rfl
          rw [e1]
          exact tw_loop hw hwl hn g (i + 1) a _ Fc Fd Fa (by omega) hc h3 ha sa.up (s2.crash h2.1)
        · rintro _ rfl
          rw [e1]
          exact tw_loop hw hwl hn g (i + 1) a _ Fc Fd Fa (by omega) hc h2 ha sa.up s2
      · refine ⟨fun h7 => ?_, fun h7 => ?_⟩
        · have hcr := Crash_e (kp := none) (kc := 0) (ks := []) h1 (Nat.lt_of_le_of_lt s1.pend (by omega)) (by simp) 1
          rw [crash_nil] at hcr
          refine CallH.mDp hcr (fun _ => keep_nil) fun Fd h3 => ⟨_, _, rfl, rfl, yes' rfl ?_⟩
          rintro _ rfl
          rw [e1]
          exact tw_loop hw hwl hn g (i + 1) a _ Fc Fd Fa (by omega) hc h3 ha sa.up (s1.crash h1.1)
        · rintro _ rfl
          rw [e1]
          exact tw_loop hw hwl hn g (i + 1) a _ Fc Fd Fa (by omega) hc h1 ha sa.up s1
    · have hwr := Write_e hc (by have := sa.pend; omega) (off := (fitO w n : Int)) (s := fitS w n)
      rw [write_ok sa.on sa.cut (by rw [sa.vis]; omega)] at hwr
      refine CallH.mC1 hwr fun Fc hc1 => ⟨_, _, rfl, rfl, ?_⟩
      have hwr := Write_e ha (by have := sa.pend; omega) (off := (fitO w n : Int)) (s := fitS w n)
      rw [write_ok sa.on sa.cut (by rw [sa.vis]; omega)] at hwr
      refine CallH.mA1 hwr fun Fa ha1 => ⟨_, _, rfl, rfl, yes' rfl ?_⟩
      have s1 := sa.put w
      refine ⟨fun hs => ?_, fun hs => ?_⟩
      · have hsy := Sync_e hc1
        rw [sync_ok s1.on] at hsy
        refine CallH.mC1 hsy fun Fc hc2 => ⟨_, _, rfl, rfl, ?_⟩
        have hsy := Sync_e ha1
        rw [sync_ok s1.on] at hsy
        refine CallH.mA1 hsy fun Fa ha2 => ⟨_, _, rfl, rfl, yes' rfl ?_⟩
        rintro _ rfl
        rw [e1]
        exact tw_loop hw hwl hn g (i + 1) _ d Fc Fd Fa (by omega) hc2 hd ha2 s1.sync sd.up
      · rintro _ rfl
        rw [e1]
        exact tw_loop hw hwl hn g (i + 1) _ d Fc Fd Fa (by omega) hc1 hd ha1 s1 sd.up

theorem Twins_c {size : Int} (hs : i64 size) {W : World} {p : Option Addr} {c : Nat} {ws : List WP} (hw : WPs W p ws) (hwl : ws.length ≤ maxLen) :
    Calls Try.prog 10 ⟨[.int .i64 size, .slice p ws.length c]⟩ W fun e W' => e = .returned (.bool true) ∧ Below W.heap.size W W' := by
  refine Twins_vc size p ws.length c [] (Mem.start [] W) ?_
  refine CallH.pure sane_c ⟨_, rfl, rfl, ?_⟩
  refine CallH.pure (pick_c hs (by omega)) ⟨_, rfl, rfl, ?_⟩
  rintro _ rfl
  obtain ⟨N, hN, h1, h2⟩ := size_pick (size := size) 100 (by omega) (by omega)
  rw [show ((100 : Nat) : Int) = 100 from rfl] at hN
  rw [hN]
  refine CallH.new0 (N := N) rfl h1 (by omega) fun C Fc hc => ⟨_, _, _, rfl, rfl, ?_⟩
  refine CallH.newF (N := N) rfl h1 (by omega) fun D Fd hd => ⟨_, _, _, rfl, rfl, ?_⟩
  refine CallH.newF (N := N) rfl h1 (by omega) fun A Fa ha => ⟨_, _, _, rfl, rfl, yes' rfl (yes' rfl (yes' rfl ?_))⟩
  have s0 : TwS N 0 (DS.new N) := ⟨rfl, rfl, by simp [DS.new], Nat.zero_le _⟩
  exact tw_loop hw hwl h2 30 0 _ _ Fc Fd Fa (by omega) hc hd ha s0 s0
end Go.Eng
