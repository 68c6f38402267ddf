/- Contracts and plain laws for the proof; no claim of its own. -/
import Derived.Test.YtbbakbekhhgkgaaTwDiskC6
import Derived.Test.YtbbakbekhhgkgaaTwEngD6
namespace Go.Eng
open Go Go.RowKit Go.Proofs
set_option linter.unusedVariables false

/-! ### Plain laws of a crash -/
theorem crashGo_none (last torn : Int) (sv : List Bool) (h : ∀ j, sv.getD j false = false) : ∀ (r : List (Nat × ByteArray)) (i : Nat) (b : List UInt8), crashGo last torn sv i r b = b
  | [], _, _ => rfl
  | (o, s) :: r, i, b => by rw [crashGo, if_neg (by rw [h]; decide), crashGo_none last torn sv h r]
theorem getD_replicate (n j : Nat) : (List.replicate n false).getD j false = false := by
  rw [List.getD_eq_getElem?_getD, List.getElem?_replicate]; split <;> rfl
theorem crash_nil (d : DS) (torn : Int) : d.crash [] torn = { on := true, cut := 0, dur := d.dur, vis := d.dur, pend := [] } := by
  unfold DS.crash DS.crashed
  rw [keepGo, crashGo_none _ _ _ (fun j => getD_replicate _ j)]

def applyP (pend : List (Nat × ByteArray)) (b : List UInt8) : List UInt8 := pend.foldl (fun b q => ovr b q.1 (bts q.2)) b
theorem applyP_snoc (pend : List (Nat × ByteArray)) (o : Nat) (s : ByteArray) (b : List UInt8) : applyP (pend ++ [(o, s)]) b = ovr (applyP pend b) o (bts s) := by simp [applyP]
theorem crashGo_all (last : Int) {torn : Int} (ht : torn < 0) (sv : List Bool) : ∀ (r : List (Nat × ByteArray)) (i : Nat) (b : List UInt8), (∀ j, i ≤ j → j < i + r.length → sv.getD j false = true) → crashGo last torn sv i r b = applyP r b
  | [], _, _, _ => rfl
  | (o, s) :: r, i, b, h => by
    rw [crashGo, if_pos (h i (Nat.le_refl _) (by simp)), crashGo_all last ht sv r (i + 1) _ (fun j h1 h2 => h j (by omega) (by simp; omega)), tornD, if_neg (by omega)]
    rfl
def ints (n : Nat) : List Int := (List.range n).map Int.ofNat
theorem ints_len (n : Nat) : (ints n).length = n := by simp [ints]
theorem ints_get {n i : Nat} (h : i < (ints n).length) : (ints n)[i] = (i : Int) := by simp [ints]
theorem ints_succ (n : Nat) : ints (n + 1) = ints n ++ [(n : Int)] := by simp [ints, List.range_succ]
/-- All that is asked for is marked. -/
theorem keepGo_mem (p : Nat) : ∀ (ks : List Int) (sv : List Bool) (last : Int), sv.length = p → ∀ j : Nat, j < p → ((keepGo p ks sv last).1.getD j false = true ↔ (sv.getD j false = true ∨ (j : Int) ∈ ks))
  | [], sv, last, hs, j, hj => by simp [keepGo]
  | n :: r, sv, last, hs, j, hj => by
    rw [keepGo]
    split
    · next h =>
      rw [keepGo_mem p r _ _ (by rw [List.length_set, hs]) j hj, List.getD_eq_getElem?_getD, List.getElem?_set, List.getD_eq_getElem?_getD]
      by_cases hn : n.toNat = j
      · have : (j : Int) = n := by omega
        rw [if_pos hn, if_pos (by omega)]
        simp [this]
      · have : ¬ (j : Int) = n := by omega
        rw [if_neg hn]
        simp [this]
    · next h =>
      rw [keepGo_mem p r _ _ hs j hj]
      have : ¬ (j : Int) = n := by omega
      simp [this]
theorem crash_all {d : DS} {torn : Int} (ht : torn < 0) (ks : List Int) (hk : ∀ j, j < d.pend.length → (j : Int) ∈ ks) : d.crash ks torn = { on := true, cut := 0, dur := applyP d.pend d.dur, vis := applyP d.pend d.dur, pend := [] } := by
  unfold DS.crash DS.crashed
  rw [crashGo_all _ ht]
  intro j _ h
  exact (keepGo_mem d.pend.length ks _ (-1) (by simp) j (by omega)).2 (.inr (hk j (by omega)))
theorem ints_mem {n j : Nat} (h : j < n) : (j : Int) ∈ ints n := by
  have := List.getElem_mem (l := ints n) (n := j) (by rw [ints_len]; exact h)
  rw [ints_get] at this; exact this

theorem read_cr {v : List UInt8} {n : Nat} (h : v.length = n) : (DS.mk true 0 v v []).read 0 (n : Int) = (⟨v.toArray⟩, 0) := read_all (d := DS.mk true 0 v v []) rfl h

/-! ### DiskSynced -/
theorem sy_end {w0 : World} {D n B : Nat} (hn : n ≤ 4194304) {d : DS} {F : SHeap} (h : DRep D d F) (hl : d.dur.length = n) (hp : d.pend.length ≤ 1000) {torn : Int} {sure : ByteArray} (hs : sure = ⟨d.dur.toArray⟩) {cs : List Value} :
    CallH Try.prog 21 ⟨[.pointer (some ⟨D, 0, none⟩), .slice none 0 0, .int .i64 torn]⟩ ((B, .cells ⟨cs⟩ 5) :: F) [] w0 (fun v L' => ∃ (r81 : Int) (F5 : SHeap), v = (.int .i64 r81) ∧ L' = ((B, .cells ⟨cs⟩ 5) :: F5) ∧
            CallH Try.prog 13 ⟨[.pointer (some ⟨D, 0, none⟩), .int .i64 (0 : Int), .int .i64 (n : Int)]⟩ ((B, .cells ⟨cs⟩ 5) :: F5) [] w0 (fun v L' => ∃ (r91 : ByteArray) (r101 : Int) (F6 : SHeap), v = (.tuple #[.string r91, .int .i64 r101]) ∧ L' = ((B, .cells ⟨cs⟩ 5) :: F6) ∧
              ((true = true) →
                ((r81 = (0 : Int)) →
                  ((r101 = (0 : Int)) →
                    ((r91 = sure) →
                      CallH Try.prog 16 ⟨[.pointer (some ⟨D, 0, none⟩)]⟩ ((B, .cells ⟨cs⟩ 5) :: F6) [] w0 (fun v L' => ∃ (r111 : Int) (F7 : SHeap), v = (.int .i64 r111) ∧ L' = ((B, .cells ⟨cs⟩ 5) :: F7) ∧
                        Fin (fun e W' => e = .returned (.bool true) ∧ Below w0.heap.size w0 W') ((B, .cells ⟨cs⟩ 5) :: F7) [] w0 (.bool (decide (r111 = (0 : Int)))))) ∧
                     ((¬ r91 = sure) →
                      Fin (fun e W' => e = .returned (.bool true) ∧ Below w0.heap.size w0 W') ((B, .cells ⟨cs⟩ 5) :: F6) [] w0 (.bool false))) ∧
                   ((¬ (r101 = (0 : Int))) →
                    Fin (fun e W' => e = .returned (.bool true) ∧ Below w0.heap.size w0 W') ((B, .cells ⟨cs⟩ 5) :: F6) [] w0 (.bool false))) ∧
                 ((¬ (r81 = (0 : Int))) →
                  Fin (fun e W' => e = .returned (.bool true) ∧ Below w0.heap.size w0 W') ((B, .cells ⟨cs⟩ 5) :: F6) [] w0 (.bool false))) ∧
               ((true = false) →
                Fin (fun e W' => e = .returned (.bool true) ∧ Below w0.heap.size w0 W') ((B, .cells ⟨cs⟩ 5) :: F6) [] w0 (.bool false)))) := by
  have hc := Crash_e (kp := none) (kc := 0) (ks := []) h (by omega) (by decide) torn
  rw [crash_nil] at hc
  refine CallH.dp (told := [_]) hc (fun _ _ => keep_nil) fun F h => ⟨_, _, rfl, rfl, ?_⟩
  have hr := Read_e h (off := 0) (n := n) (by omega)
  rw [read_all rfl hl] at hr
  refine CallH.d1 hr fun F h => ⟨_, _, _, rfl, rfl, tt rfl (yes rfl (yes rfl (yes (by rw [hs]) ?_)))⟩
  refine CallH.d1 (Pending_e h) fun F h => ⟨_, _, rfl, rfl, ?_⟩
  exact finPure rfl

theorem sy_loop {w0 : World} {p : Option Addr} {ws : List WP} (hw : WPs w0 p ws) (hwl : ws.length ≤ maxLen) {c : Nat} {B D n : Nat} {torn : Int} (hn : n ≤ 300) : ∀ (g i : Nat) (d : DS) (F : SHeap) (sure : ByteArray), g + i = 60 → DRep D d F → d.on = true → d.cut = 0 → d.vis.length = n → d.dur.length = n → d.pend.length ≤ i → sure = ⟨d.dur.toArray⟩ →
    Synced_c0 B n p ws.length c torn true (some ⟨D, 0, none⟩) n n sure i (bytesL d.vis) F w0 (fun e W' => e = .returned (.bool true) ∧ Below w0.heap.size w0 W')
  | 0, i, d, F, sure, hg, hd, hon, hc, hv, hl, hp, hs => by
    apply Synced_c0_vc
    exact ⟨fun _ => no (by omega) (sy_end (by omega) hd hl (by omega) hs), fun _ => sy_end (by omega) hd hl (by omega) hs⟩
  | g + 1, i, d, F, sure, hg, hd, hon, hc, hv, hl, hp, hs => by
    apply Synced_c0_vc
    refine ⟨fun hlt => yes (by omega) ?_, fun _ => sy_end (by omega) hd hl (by omega) hs⟩
    have hi : i < ws.length := by omega
    obtain ⟨b, o, cw, rfl, hb, hcl, hcs, hwo⟩ := hw.get hi
    generalize ws[i] = w at hcs hwo
    refine ⟨b, o, rfl, by omega, cw, w.off, w.s, w.sync, hb, by rw [Int.toNat_natCast]; exact ⟨hcs, hcl⟩, ?_⟩
    refine CallH.pure (fits_c hwo (by omega)) ⟨_, _, _, rfl, rfl, fun B2 => ?_⟩
    have hfit := fitS_le w n
    refine CallH.put2 hfit (by omega) (by omega) ⟨_, rfl, rfl, ?_⟩
    have hwr := Write_e hd (by omega) (off := (fitO w n : Int)) (s := fitS w n)
    rw [write_ok hon hc (by omega)] at hwr
    refine CallH.d2 hwr fun F h => ⟨_, _, rfl, rfl, ?_⟩
    have hvl : (d.put (fitO w n) (fitS w n)).vis.length = n := by rw [put_vis, ovr_len (by rw [bts_len]; omega), hv]
    have hpl : (d.put (fitO w n) (fitS w n)).pend.length ≤ i + 1 := by simp [DS.put]; exact hp
    refine yes' rfl ⟨fun hs => ?_, fun _ => ?_⟩
    · have hsy := Sync_e h
      rw [sync_ok (d := d.put (fitO w n) (fitS w n)) hon] at hsy
      refine CallH.d2 hsy fun F h => ⟨_, _, rfl, rfl, yes' rfl ?_⟩
      rw [put_vis] at hvl
      refine ⟨ovr d.vis (fitO w n) (bts (fitS w n)), ⟨by rw [List.drop_zero, List.take_of_length_le (by rw [bytesL_length]; omega)], hvl⟩, ?_⟩
      rintro _ rfl _ rfl
      rw [wi64 (by omega), show (i : Int) + 1 = ((i + 1 : Nat) : Int) by omega]
      exact sy_loop hw hwl hn g (i + 1) _ F _ (by omega) h hon hc hvl hvl (Nat.zero_le _) rfl
    · rintro _ rfl
      rw [wi64 (by omega), show (i : Int) + 1 = ((i + 1 : Nat) : Int) by omega]
      exact sy_loop hw hwl hn g (i + 1) _ F _ (by omega) h hon hc hvl hl hpl hs

theorem Synced_c {size torn : Int} (hs : i64 size) {W : World} {p : Option Addr} {c : Nat} {ws : List WP} (hw : WPs W p ws) (hwl : ws.length ≤ maxLen) :
    Calls Try.prog 6 ⟨[.int .i64 size, .slice p ws.length c, .int .i64 torn]⟩ W fun e W' => e = .returned (.bool true) ∧ Below W.heap.size W W' := by
  refine Synced_vc size p ws.length c torn [] (Mem.start [] W) ?_
  refine CallH.pure sane_c ⟨_, rfl, rfl, ?_⟩
  refine CallH.pure (pick_c hs (by omega)) ⟨_, rfl, rfl, ?_⟩
  rintro _ rfl
  obtain ⟨N, hN, h1, h2⟩ := size_pick (size := size) 300 (by omega) (by omega)
  rw [show ((300 : Nat) : Int) = 300 from rfl] at hN
  rw [hN]
  refine CallH.new0 (N := N) rfl h1 (by omega) fun D F h => ⟨_, _, _, rfl, rfl, ?_⟩
  refine yes' rfl ⟨by omega, fun B => ?_⟩
  rw [Int.toNat_natCast, bytesL_zero]
  refine ⟨List.replicate N 0, ⟨by rw [List.drop_zero, List.take_of_length_le (by rw [bytesL_length]; simp)], by simp⟩, ?_⟩
  rintro _ rfl
  exact sy_loop hw hwl h2 60 0 (DS.new N) F _ (by omega) h rfl rfl (by simp [DS.new]) (by simp [DS.new]) (Nat.zero_le _) rfl

/-! ### DiskAllSurvive -/
theorem as_end {d : DS} (hv : d.vis = applyP d.pend d.dur) {ks : List Int} (hk : ∀ j, j < d.pend.length → (j : Int) ∈ ks) : d.crash ks (-1) = { on := true, cut := 0, dur := d.vis, vis := d.vis, pend := [] } := by
  rw [crash_all (by decide) ks hk, hv]

theorem as_loop2 {w0 : World} {D n : Nat} (hn : n ≤ 4194304) {d : DS} (hvl : d.vis.length = n) (hv : d.vis = applyP d.pend d.dur) (hp : d.pend.length ≤ 1000) {s : ByteArray} (hs : s = ⟨d.vis.toArray⟩) : ∀ (g i : Nat) (B cap : Nat) (r : List Value) (F : SHeap), g + i = d.pend.length → DRep D d F → i ≤ cap → ((ints i).map (Value.int .i64) ++ r).length = cap * 1 →
    AllSurvive_c2 B n true (some ⟨D, 0, none⟩) s 0 i cap i ((ints i).map (Value.int .i64) ++ r) F w0 (fun e W' => e = .returned (.bool true) ∧ Below w0.heap.size w0 W')
  | 0, i, B, cap, r, F, hg, hd, hc, hr => by
    apply AllSurvive_c2_vc
    refine CallH.d1 (Pending_e hd) fun F h => ⟨_, _, rfl, rfl, no (by omega) ?_⟩
    have hcr := Crash_e (kp := some ⟨B, 0, none⟩) (kc := cap) (ks := ints i) h (by omega) (by rw [ints_len]; omega) (-1)
    rw [as_end hv (fun j hj => ints_mem (by omega)), ints_len] at hcr
    refine CallH.dp (told := [_]) hcr (fun W hm => keep_own hm (List.Mem.head _) (fun j hj => ?_)) fun F h => ⟨_, _, rfl, rfl, ?_⟩
    · rw [List.getElem?_append_left (by rw [List.length_map]; exact hj), List.getElem?_map, List.getElem?_eq_getElem hj, Option.map_some]
    have hr1 := Read_e h (off := 0) (n := n) (by omega)
    rw [read_cr hvl] at hr1
    refine CallH.d1 hr1 fun F h => ⟨_, _, _, rfl, rfl, ?_⟩
    have hcr := Crash_e (kp := none) (kc := 0) (ks := []) h (by simp) (by simp) 0
    rw [crash_nil] at hcr
    refine CallH.dp (told := [_]) hcr (fun _ _ => keep_nil) fun F h => ⟨_, _, rfl, rfl, ?_⟩
    have hr1 := Read_e h (off := 0) (n := n) (by omega)
    rw [read_cr hvl] at hr1
    refine CallH.d1 hr1 fun F h => ⟨_, _, _, rfl, rfl, tt rfl (yes rfl (yes rfl (yes rfl (yes rfl (yes rfl (yes hs ?_))))))⟩
    exact finPure (by rw [hs, (strEq_iff _ _).2 rfl])
  | g + 1, i, B, cap, r, F, hg, hd, hc, hr => by
    apply AllSurvive_c2_vc
    refine CallH.d1 (Pending_e hd) fun F h => ⟨_, _, rfl, rfl, yes (by omega) fun B4 => ⟨⟨hc, hr⟩, ⟨by omega, by omega⟩, fun B5 cap1 r2 hc1 hr1 => ?_⟩⟩
    rintro _ rfl
    have ht : ((ints i).map (Value.int .i64) ++ r).take (i * 1) = (ints i).map (Value.int .i64) := List.take_left' (by rw [List.length_map, ints_len]; omega)
    rw [ht] at hr1 ⊢
    rw [wi64 (by omega), show (i : Int) + 1 = ((i + 1 : Nat) : Int) by omega]
    have he : (ints i).map (Value.int .i64) ++ ([.int .i64 (i : Int)] : List Value) = (ints (i + 1)).map (Value.int .i64) := by rw [ints_succ, List.map_append]; rfl
    rw [he] at hr1 ⊢
    exact as_loop2 hn hvl hv hp hs g (i + 1) B5 cap1 r2 F (by omega) h hc1 hr1

theorem as_start {w0 : World} {D n : Nat} (hn : n ≤ 4194304) {d : DS} (hvl : d.vis.length = n) (hv : d.vis = applyP d.pend d.dur) (hp : d.pend.length ≤ 1000) {s : ByteArray} (hs : s = ⟨d.vis.toArray⟩) {F : SHeap} (hd : DRep D d F) :
    AllSurvive_c1 n true (some ⟨D, 0, none⟩) s 0 0 F w0 (fun e W' => e = .returned (.bool true) ∧ Below w0.heap.size w0 W') := by
  apply AllSurvive_c1_vc
  refine CallH.d0 (Pending_e hd) fun F h => ⟨_, _, rfl, rfl, ?_⟩
  by_cases h0 : d.pend.length = 0
  · refine no (by omega) ?_
    have hcr := Crash_e (kp := none) (kc := 0) (ks := []) h (by omega) (by simp) (-1)
    rw [as_end hv (fun j hj => by omega)] at hcr
    refine CallH.dp (told := []) hcr (fun _ _ => keep_nil) fun F h => ⟨_, _, rfl, rfl, ?_⟩
    have hr1 := Read_e h (off := 0) (n := n) (by omega)
    rw [read_cr hvl] at hr1
    refine CallH.d0 hr1 fun F h => ⟨_, _, _, rfl, rfl, ?_⟩
    have hcr := Crash_e (kp := none) (kc := 0) (ks := []) h (by simp) (by simp) 0
    rw [crash_nil] at hcr
    refine CallH.dp (told := []) hcr (fun _ _ => keep_nil) fun F h => ⟨_, _, rfl, rfl, ?_⟩
    have hr1 := Read_e h (off := 0) (n := n) (by omega)
    rw [read_cr hvl] at hr1
    refine CallH.d0 hr1 fun F h => ⟨_, _, _, rfl, rfl, tt rfl (yes rfl (yes rfl (yes rfl (yes rfl (yes rfl (yes hs ?_))))))⟩
    exact finPure (by rw [hs, (strEq_iff _ _).2 rfl])
  · refine yes (by omega) fun B1 B2 cap r hc hr => ?_
    rintro _ rfl
    exact as_loop2 hn hvl hv hp hs (d.pend.length - 1) 1 B2 cap r F (by omega) h hc hr

theorem as_loop {w0 : World} {p : Option Addr} {ws : List WP} (hw : WPs w0 p ws) (hwl : ws.length ≤ maxLen) {c : Nat} {D n : Nat} (hn : n ≤ 300) : ∀ (g i : Nat) (d : DS) (F : SHeap), g + i = 60 → DRep D d F → d.on = true → d.cut = 0 → d.vis.length = n → d.vis = applyP d.pend d.dur → d.pend.length ≤ i →
    AllSurvive_c0 n p ws.length c true (some ⟨D, 0, none⟩) i F w0 (fun e W' => e = .returned (.bool true) ∧ Below w0.heap.size w0 W') := by
  have fin : ∀ (i : Nat) (d : DS) (F : SHeap), i ≤ 60 → DRep D d F → d.on = true → d.vis.length = n → d.vis = applyP d.pend d.dur → d.pend.length ≤ i →
      CallH Try.prog 13 ⟨[.pointer (some ⟨D, 0, none⟩), .int .i64 (0 : Int), .int .i64 (n : Int)]⟩ F [] w0 (fun v L' => ∃ (r81 : ByteArray) (r91 : Int) (F5 : SHeap), v = (.tuple #[.string r81, .int .i64 r91]) ∧ L' = (F5) ∧
            AllSurvive_c1 n true (some ⟨D, 0, none⟩) r81 r91 (0 : Int) F5 w0 (fun e W' => e = .returned (.bool true) ∧ Below w0.heap.size w0 W')) := by
    intro i d F hi hd hon hvl hv hp
    have hr1 := Read_e hd (off := 0) (n := n) (by omega)
    rw [read_all hon hvl] at hr1
    exact CallH.d0 hr1 fun F h => ⟨_, _, _, rfl, rfl, as_start (by omega) hvl hv (by omega) rfl h⟩
  intro g
  induction g with
  | zero =>
    intro i d F hg hd hon hc hvl hv hp
    apply AllSurvive_c0_vc
    exact ⟨fun _ => no (by omega) (fin i d F (by omega) hd hon hvl hv hp), fun _ => fin i d F (by omega) hd hon hvl hv hp⟩
  | succ g ih =>
    intro i d F hg hd hon hc hvl hv hp
    apply AllSurvive_c0_vc
    refine ⟨fun hlt => yes (by omega) ?_, fun _ => fin i d F (by omega) hd hon hvl hv hp⟩
    have hi : i < ws.length := by omega
    obtain ⟨b, o, cw, rfl, hb, hcl, hcs, hwo⟩ := hw.get hi
    generalize ws[i] = w at hcs hwo
    refine ⟨b, o, rfl, by omega, cw, w.off, w.s, w.sync, hb, by rw [Int.toNat_natCast]; exact ⟨hcs, hcl⟩, ?_⟩
    refine CallH.pure (fits_c hwo (by omega)) ⟨_, _, _, rfl, rfl, fun B2 => ?_⟩
    have hfit := fitS_le w n
    have hwr := Write_e hd (by omega) (off := (fitO w n : Int)) (s := fitS w n)
    rw [write_ok hon hc (by omega)] at hwr
    refine CallH.d1 hwr fun F h => ⟨_, _, rfl, rfl, ?_⟩
    have hvl2 : (d.put (fitO w n) (fitS w n)).vis.length = n := by rw [put_vis, ovr_len (by rw [bts_len]; omega), hvl]
    have hpl : (d.put (fitO w n) (fitS w n)).pend.length ≤ i + 1 := by simp [DS.put]; exact hp
    have hv2 : (d.put (fitO w n) (fitS w n)).vis = applyP (d.put (fitO w n) (fitS w n)).pend (d.put (fitO w n) (fitS w n)).dur := by
      simp only [DS.put]; rw [applyP_snoc, ← hv]
    refine yes' rfl ⟨fun hs => ?_, fun _ => ?_⟩
    · have hsy := Sync_e h
      rw [sync_ok (d := d.put (fitO w n) (fitS w n)) hon] at hsy
      refine CallH.d1 hsy fun F h => ⟨_, _, rfl, rfl, yes' rfl ?_⟩
      rintro _ rfl
      rw [wi64 (by omega), show (i : Int) + 1 = ((i + 1 : Nat) : Int) by omega]
      exact ih (i + 1) _ F (by omega) h hon hc hvl2 rfl (Nat.zero_le _)
    · rintro _ rfl
      rw [wi64 (by omega), show (i : Int) + 1 = ((i + 1 : Nat) : Int) by omega]
      exact ih (i + 1) _ F (by omega) h hon hc hvl2 hv2 hpl

theorem AllSurvive_c {size : Int} (hs : i64 size) {W : World} {p : Option Addr} {c : Nat} {ws : List WP} (hw : WPs W p ws) (hwl : ws.length ≤ maxLen) :
    Calls Try.prog 8 ⟨[.int .i64 size, .slice p ws.length c]⟩ W fun e W' => e = .returned (.bool true) ∧ Below W.heap.size W W' := by
  refine AllSurvive_vc size p ws.length c [] (Mem.start [] W) ?_
  refine CallH.pure sane_c ⟨_, rfl, rfl, ?_⟩
  refine CallH.pure (pick_c hs (by omega)) ⟨_, rfl, rfl, ?_⟩
  rintro _ rfl
  obtain ⟨N, hN, h1, h2⟩ := size_pick (size := size) 300 (by omega) (by omega)
  rw [show ((300 : Nat) : Int) = 300 from rfl] at hN
  rw [hN]
  refine CallH.new0 (N := N) rfl h1 (by omega) fun D F h => ⟨_, _, _, rfl, rfl, ?_⟩
  refine yes' rfl ?_
  exact as_loop hw hwl h2 60 0 (DS.new N) F (by omega) h rfl rfl (by simp [DS.new]) rfl (Nat.zero_le _)
end Go.Eng
