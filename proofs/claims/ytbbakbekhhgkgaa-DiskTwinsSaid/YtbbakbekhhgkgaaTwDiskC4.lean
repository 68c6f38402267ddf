/- Contracts and plain laws for the proof; no claim of its own. -/
import Derived.Test.YtbbakbekhhgkgaaTwDiskC3
import Derived.Test.YtbbakbekhhgkgaaTwEngD3
import Derived.Test.YtbbakbekhhgkgaaTwEngD4
import Derived.Test.YtbbakbekhhgkgaaTwEngData
namespace Go.Eng
open Go Go.RowKit Go.Proofs

theorem finPure {v u : Value} {W : World} {L : SHeap} (h : v = u) : Fin (fun e W' => e = .returned u ∧ Below W.heap.size W W') L [] W v := fun _ hm => ⟨by rw [h], hm.kept.below⟩
abbrev i64 (n : Int) : Prop := -9223372036854775808 ≤ n ∧ n ≤ 9223372036854775807

def pickI (c n : Int) : Int := (if c < 0 then -(c + 1) else c) % n
theorem pickI_rng (c : Int) {n : Int} (h : 0 < n) : 0 ≤ pickI c n ∧ pickI c n < n := ⟨Int.emod_nonneg _ (by omega), Int.emod_lt_of_pos _ h⟩
theorem pick_neg {c n : Int} (hc : i64 c) (h : c < 0) : (IntKind.i64.wrap (0 - (IntKind.i64.wrap (c + (1 : Int))))).tmod n = pickI c n := by
  rw [wi64 (x := c + 1) (by omega), wi64 (by omega), Int.tmod_eq_emod_of_nonneg (by omega), pickI, if_pos h]
  congr 1; omega
theorem pick_pos {c n : Int} (h : ¬ c < 0) : c.tmod n = pickI c n := by
  rw [Int.tmod_eq_emod_of_nonneg (by omega), pickI, if_neg h]

theorem pick_c {c n : Int} (hc : i64 c) (hn : 0 < n) : PureC Try.prog 14 ⟨[.int .i64 c, .int .i64 n]⟩ (.int .i64 (pickI c n)) := by
  intro W
  refine dpick_vc c n (Mem.start [] W) ?_
  refine ⟨fun h => ?_, fun h => ?_⟩
  · rintro _ rfl
    refine ⟨by omega, ?_⟩
    rintro _ rfl
    exact finPure (by rw [pick_neg hc h])
  · refine ⟨by omega, ?_⟩
    rintro _ rfl
    exact finPure (by rw [pick_pos h])

theorem clip (N : Nat) {M : Int} (hM : M = N) (s : ByteArray) : ∃ m : Nat, (if M < (s.size : Int) then M else (s.size : Int)) = (m : Int) ∧ m = min N s.size := by
  refine ⟨min N s.size, ?_, rfl⟩
  split <;> omega
theorem clip_size {s : ByteArray} {m : Nat} (h : m ≤ s.size) : (s.extract 0 m).size = m := by
  rw [ByteArray.size_extract]; omega

theorem cut_c (s : ByteArray) {n : Int} {N : Nat} (hn : n = N) : PureC Try.prog 18 ⟨[.string s, .int .i64 n]⟩ (.string (s.extract 0 (min N s.size))) := by
  intro W
  refine dcut_vc s n (Mem.start [] W) ?_
  obtain ⟨m, hm, hm2⟩ := clip N hn s
  rw [hm, Int.toNat_natCast]
  refine ⟨by omega, ?_⟩
  rintro _ rfl
  exact finPure (by rw [hm2])

/-- A write that was made to fit. -/
structure WP where
  off : Int
  s : ByteArray
  sync : Bool
def fitO (w : WP) (n : Nat) : Nat := (pickI w.off (n + 1)).toNat
def fitS (w : WP) (n : Nat) : ByteArray := w.s.extract 0 (min (n - fitO w n) w.s.size)
theorem fitO_le (w : WP) (n : Nat) : fitO w n ≤ n := by
  have := pickI_rng w.off (n := (n : Int) + 1) (by omega)
  unfold fitO; omega
theorem fitO_eq (w : WP) (n : Nat) : ((fitO w n : Nat) : Int) = pickI w.off (n + 1) := by
  have := pickI_rng w.off (n := (n : Int) + 1) (by omega)
  unfold fitO; omega
theorem fitS_le (w : WP) (n : Nat) : fitO w n + (fitS w n).size ≤ n := by
  have := fitO_le w n
  rw [fitS, clip_size (by omega)]; omega

theorem fits_c {w : WP} (hw : i64 w.off) {n : Nat} (hn : n ≤ 4194304) :
    PureC Try.prog 22 ⟨[.agg #[.int .i64 w.off, .string w.s, .bool w.sync], .int .i64 n]⟩ (.agg #[.int .i64 (fitO w n), .string (fitS w n), .bool w.sync]) := by
  intro W
  refine fits_vc w.off w.s w.sync n (Mem.start [] W) ?_
  intro B B1
  have e1 : IntKind.i64.wrap ((n : Int) + 1) = (n : Int) + 1 := wi64 (by omega)
  have hr := pickI_rng w.off (n := (n : Int) + 1) (by omega)
  have e2 : IntKind.i64.wrap ((n : Int) - (fitO w n : Int)) = ((n - fitO w n : Nat) : Int) := by
    have := fitO_le w n
    rw [wi64 (by omega)]; omega
  have fin : ∀ t4 : Int, t4 = (fitO w n : Int) → (0 ≤ (0 : Int) ∧ (0 : Int) ≤ (if (IntKind.i64.wrap ((n : Int) - t4)) < (w.s.size : Int) then (IntKind.i64.wrap ((n : Int) - t4)) else (w.s.size : Int)) ∧ (if (IntKind.i64.wrap ((n : Int) - t4)) < (w.s.size : Int) then (IntKind.i64.wrap ((n : Int) - t4)) else (w.s.size : Int)) ≤ w.s.size) ∧
        ∀ t41 : ByteArray, t41 = (w.s.extract 0 (Int.toNat (if (IntKind.i64.wrap ((n : Int) - t4)) < (w.s.size : Int) then (IntKind.i64.wrap ((n : Int) - t4)) else (w.s.size : Int)))) →
        Fin (fun e W' => e = .returned (.agg #[.int .i64 (fitO w n), .string (fitS w n), .bool w.sync]) ∧ Below W.heap.size W W') [(B, .cells #[.int .i64 t4, .string t41, .bool w.sync] 42), (B1, .cells #[.int .i64 t4, .string t41, .bool w.sync] 42)] [] W (.agg #[.int .i64 t4, .string t41, .bool w.sync]) := by
    rintro _ rfl
    rw [e2]
    obtain ⟨m, hm, hm2⟩ := clip (n - fitO w n) rfl w.s
    rw [hm, Int.toNat_natCast]
    refine ⟨by omega, ?_⟩
    rintro _ rfl
    exact finPure (by rw [fitS, hm2])
  rw [e1]
  refine ⟨fun h => ?_, fun h => ?_⟩
  · rintro _ rfl
    refine ⟨by omega, ?_⟩
    rintro _ rfl
    exact fin _ (by rw [pick_neg hw h, fitO_eq])
  · refine ⟨by omega, ?_⟩
    rintro _ rfl
    exact fin _ (by rw [pick_pos h, fitO_eq])

theorem ovr_set {α : Type} {l : List α} {k : Nat} {x : α} {r : List α} (h : k < l.length) : ovr (l.set k x) (k + 1) r = ovr l k (x :: r) := by
  have hk : (l.take k ++ [x]).length = k + 1 := by simp; omega
  have e : l.set k x = (l.take k ++ [x]) ++ l.drop (k + 1) := by rw [List.set_eq_take_append_cons_drop, if_pos h]; simp
  unfold ovr
  rw [e, List.take_left' hk, ← List.drop_drop, List.drop_left' hk, List.drop_drop]
  simp only [List.append_assoc, List.cons_append, List.nil_append, List.length_cons]
  rw [show k + (r.length + 1) = k + 1 + r.length by omega]

theorem put_loop {B n : Nat} {off : Nat} {s : ByteArray} (hb : off + s.size ≤ n) (hn : n ≤ 4194304) {S : List Nat} {w0 : World} {R : Ending → World → Prop} {lF : List UInt8}
    (H : Fin R [(B, .cells ⟨bytesL lF⟩ 5)] S w0 (.tuple #[])) : ∀ (g i : Nat) (l : List UInt8), g + i = s.size → l.length = n → ovr l (off + i) ((bts s).drop i) = lF → put_c0 B n n (off : Int) s (i : Int) (bytesL l) S w0 R
  | 0, i, l, hg, hl, hf => by
    apply put_c0_vc
    refine ⟨fun h => absurd h (by omega), fun _ => ?_⟩
    rw [List.drop_of_length_le (by rw [bts_len]; omega), ovr_nil] at hf
    rw [hf]; exact H
  | g + 1, i, l, hg, hl, hf => by
    apply put_c0_vc
    refine ⟨fun _ => ⟨by omega, ?_⟩, fun h => absurd (by omega) h⟩
    rw [wi64 (by omega), show (off : Int) + (i : Int) = ((off + i : Nat) : Int) by omega, Int.toNat_natCast]
    refine ⟨by omega, by rw [bytesL_length]; omega, ?_⟩
    rintro _ rfl
    have hi : i < (bts s).length := by rw [bts_len]; omega
    rw [wi64 (by omega), show (i : Int) + 1 = ((i + 1 : Nat) : Int) by omega, bat_get hi]
    have hset : (bytesL l).set (off + i) (.int .u8 ((bts s)[i].toNat : Int)) = bytesL (l.set (off + i) (bts s)[i]) := by simp only [bytesL, List.map_set]
    rw [hset]
    refine put_loop hb hn H g (i + 1) _ (by omega) (by rw [List.length_set, hl]) ?_
    rw [← hf, List.drop_eq_getElem_cons hi, ← Nat.add_assoc, ovr_set (by omega)]

theorem put_e {B n : Nat} {off : Nat} {s : ByteArray} (hb : off + s.size ≤ n) (hn : n ≤ 4194304) {l : List UInt8} (hl : l.length = n) :
    EffC Try.prog 23 ⟨[.slice (some ⟨B, 0, none⟩) n n, .int .i64 off, .string s]⟩ [(B, .cells ⟨bytesL l⟩ 5)] (fun v L' => v = .tuple #[] ∧ L' = [(B, .cells ⟨bytesL (ovr l off (bts s))⟩ 5)]) := by
  intro W hm
  refine put_vc B n off s _ hm ?_
  exact put_loop hb hn (DK.fin ⟨rfl, rfl⟩) s.size 0 l (by omega) hl (by simp)
end Go.Eng
