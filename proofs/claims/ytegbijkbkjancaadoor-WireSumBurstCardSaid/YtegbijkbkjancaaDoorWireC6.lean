/- Contracts and plain laws for the proof; no claim of its own. -/
import Derived.Test.YtegbijkbkjancaaDoorWireC5
namespace Go.Eng
open Go Go.RowKit Go.Proofs Wire

theorem bytesL_set (l : List UInt8) (i : Nat) (b : UInt8) : (bytesL l).set i (.int .u8 (b.toNat : Int)) = bytesL (l.set i b) := by
  simp only [bytesL, List.map_set]
theorem bytesL_get {l : List UInt8} {i : Nat} (h : i < l.length) : (bytesL l)[i]? = some (.int .u8 ((l[i]).toNat : Int)) := by
  simp only [bytesL, List.getElem?_map, List.getElem?_eq_getElem h, Option.map_some]
theorem bytesL_zero (n : Nat) : (List.replicate n (.int .u8 0) : List Value) = bytesL (List.replicate n 0) := by
  simp [bytesL]

/-! ### WireSumAffine -/
theorem Affine_loop {a b c : ByteArray} {m : Nat} (ha : m ≤ a.size) (hb : m ≤ b.size) (hc : m ≤ c.size) (hm : m ≤ 200) {w0 : World} (hw : blkW w0 0 = some tabV) (B : Nat) :
    ∀ (g i : Nat) (l : List UInt8), g + i = m → (hl : l.length = m) → (∀ j (hj : j < i) (h1 : j < l.length) (h2 : j < (bts a).length) (h3 : j < (bts b).length) (h4 : j < (bts c).length), l[j].toNat = (bts a)[j].toNat ^^^ (bts b)[j].toNat ^^^ (bts c)[j].toNat) →
    Affine_c0 B a b c true (m : Int) m m (i : Int) (bytesL l) w0 (fun e W' => e = .returned (.bool true) ∧ Below w0.heap.size w0 W')
  | 0, i, l, hg, hl, H => by
    apply Affine_c0_vc
    refine ⟨fun h => absurd h (by omega), fun _ => ⟨fun _ => ?_, fun h => absurd h (by decide)⟩⟩
    rw [Int.toNat_natCast]
    refine ⟨l, ⟨by rw [List.drop_zero, List.take_of_length_le (by rw [bytesL_len]; omega)], hl⟩, ?_⟩
    have sa : (a.extract 0 m).size = m := clip_size ha
    have sb : (b.extract 0 m).size = m := clip_size hb
    have sc : (c.extract 0 m).size = m := clip_size hc
    have sl : (⟨l.toArray⟩ : ByteArray).size = m := by rw [← bts_len, bts_mk, hl]
    refine ⟨_, QCall.ofG (Sum_c _ (by omega)) (by simp) hw, by omega, ?_⟩
    refine ⟨_, QCall.ofG (Sum_c _ (by omega)) (by simp) hw, by omega, ?_⟩
    refine ⟨_, QCall.ofG (Sum_c _ (by omega)) (by simp) hw, by omega, ?_⟩
    refine ⟨_, QCall.ofG (Sum_c _ (by omega)) (by simp) hw, ?_⟩
    have l1 := crc_lt (bts (a.extract 0 m))
    have l2 := crc_lt (bts (b.extract 0 m))
    have l3 := crc_lt (bts (c.extract 0 m))
    have l4 : crc (bts (a.extract 0 m)) ^^^ crc (bts (b.extract 0 m)) < 2 ^ 32 := Nat.xor_lt_two_pow l1 l2
    rw [ixorS (by omega) (by omega), ixorS (by omega) (by omega)]
    have key : crc (bts ⟨l.toArray⟩) = crc (bts (a.extract 0 m)) ^^^ crc (bts (b.extract 0 m)) ^^^ crc (bts (c.extract 0 m)) := by
      rw [bts_mk]
      refine crc_aff (by rw [bts_len]; omega) (by rw [bts_len]; omega) (by rw [bts_len]; omega) (fun j h1 h2 h3 h4 => ?_)
      rw [H j (by omega) h1 (by rw [bts_len]; omega) (by rw [bts_len]; omega) (by rw [bts_len]; omega)]
      simp only [take_bts, List.getElem_take]
    rw [key]
    exact finPure (by simp)
  | g + 1, i, l, hg, hl, H => by
    apply Affine_c0_vc
    have i1 : i < (bts a).length := by rw [bts_len]; omega
    have i2 : i < (bts b).length := by rw [bts_len]; omega
    have i3 : i < (bts c).length := by rw [bts_len]; omega
    rw [Int.toNat_natCast]
    refine ⟨fun _ => ⟨by omega, by omega, by omega, by omega, by rw [bytesL_len]; omega, ?_⟩, fun h => absurd (by omega) h⟩
    rintro k rfl
    have ei : IntKind.i64.wrap ((i : Int) + 1) = ((i + 1 : Nat) : Int) := by rw [wi64 (by omega)]; omega
    have b1 := (bts a)[i].toNat_lt
    have b2 := (bts b)[i].toNat_lt
    have b3 := (bts c)[i].toNat_lt
    have b4 : (bts a)[i].toNat ^^^ (bts b)[i].toNat < 2 ^ 8 := Nat.xor_lt_two_pow b1 b2
    have hv : ixor .u8 (ixor .u8 (bat a i) (bat b i)) (bat c i) = (((bts a)[i] ^^^ (bts b)[i] ^^^ (bts c)[i]).toNat : Int) := by
      rw [bat_get i1, bat_get i2, bat_get i3, ixor8 b1 b2, ixor8 b4 b3, UInt8.toNat_xor, UInt8.toNat_xor]
    rw [ei, hv, bytesL_set]
    refine Affine_loop ha hb hc hm hw B g (i + 1) _ (by omega) (by rw [List.length_set, hl]) (fun j hj h1 h2 h3 h4 => ?_)
    by_cases hji : i = j
    · subst hji
      rw [List.getElem_set_self, UInt8.toNat_xor, UInt8.toNat_xor]
    · rw [List.getElem_set_ne hji]
      exact H j (by omega) (by rw [List.length_set] at h1; exact h1) h2 h3 h4

theorem Affine_c (a b c : ByteArray) : PureG Tryd.prog 9 ⟨[.string a, .string b, .string c]⟩ 0 tabV (.bool true) := by
  intro W hw
  refine Affine_vc a b c (Mem.start [] W) ?_
  refine CallH.pureG sane_c (by simp) hw ⟨_, rfl, rfl, ?_⟩
  rintro n hn
  obtain ⟨m, rfl, h1, h2, h3, h4⟩ : ∃ m : Nat, n = m ∧ m ≤ a.size ∧ m ≤ b.size ∧ m ≤ c.size ∧ m ≤ 200 := by
    refine ⟨n.toNat, ?_, ?_, ?_, ?_, ?_⟩ <;> (repeat' split at hn) <;> omega
  clear hn
  rw [Int.toNat_natCast]
  refine ⟨by omega, fun B => ?_⟩
  rw [bytesL_zero]
  exact Affine_loop h1 h2 h3 h4 hw B m 0 _ (by omega) (by simp) (fun j hj => absurd hj (by omega))

/-! ### WireSumBurst -/
theorem Burst_loop {s t : ByteArray} {n r : Nat} (ht : t = s.extract 0 n) (hn : n ≤ s.size) (hn3 : n ≤ 300) {bits frm : Nat} (hb : bits < 2 ^ 32) (hf : frm < 8 * n) {w0 : World} (hw : blkW w0 0 = some tabV) (B : Nat) :
    ∀ (g i : Nat) (l : List UInt8) (ch : Bool), g + i = 32 → frm + i ≤ 8 * n → l.length = n → crcFrom 4294967295 l = crcFrom 4294967295 (bts t) ^^^ steps (8 * n - frm) (bits % 2 ^ i) → ch = decide (bits % 2 ^ i ≠ 0) →
    Burst_c0 B s (bits : Int) true n (n + r) (frm : Int) ch (i : Int) (n + r) (n + r + 1) (bytesL l ++ List.replicate r (.int .u8 0)) w0 (fun e W' => e = .returned (.bool true) ∧ Below w0.heap.size w0 W') := by
  have st : t.size = n := by rw [ht, clip_size hn]
  have fin : ∀ (i : Nat) (l : List UInt8) (ch : Bool), i ≤ 32 → l.length = n → crcFrom 4294967295 l = crcFrom 4294967295 (bts t) ^^^ steps (8 * n - frm) (bits % 2 ^ i) → ch = decide (bits % 2 ^ i ≠ 0) →
      ((true = true) →
          ∃ bs1 : List UInt8, (((bytesL l ++ List.replicate r (.int .u8 0 : Value)).drop 0).take n = bytesL bs1 ∧ bs1.length = n) ∧
          ∃ (r61 : Int), (QCall Tryd.prog 21 ⟨[.string (⟨bs1.toArray⟩)]⟩ [(B, .cells ⟨bytesL l ++ List.replicate r (.int .u8 0)⟩ 5 (n + r, n + r + 1))] [] w0 (.int .i64 r61)) ∧
          (0 ≤ (0 : Int) ∧ (0 : Int) ≤ (n : Int) ∧ (n : Int) ≤ s.size) ∧
          ∃ (r71 : Int), (QCall Tryd.prog 21 ⟨[.string (s.extract 0 (Int.toNat (n : Int)))]⟩ [(B, .cells ⟨bytesL l ++ List.replicate r (.int .u8 0)⟩ 5 (n + r, n + r + 1))] [] w0 (.int .i64 r71)) ∧
          ((ch = true) →
            ((¬ (r61 = r71)) →
              Fin (fun e W' => e = .returned (.bool true) ∧ Below w0.heap.size w0 W') [(B, .cells ⟨bytesL l ++ List.replicate r (.int .u8 0)⟩ 5 (n + r, n + r + 1))] [] w0 (.bool true)) ∧
             ((r61 = r71) →
              Fin (fun e W' => e = .returned (.bool true) ∧ Below w0.heap.size w0 W') [(B, .cells ⟨bytesL l ++ List.replicate r (.int .u8 0)⟩ 5 (n + r, n + r + 1))] [] w0 (.bool false))) ∧
           ((ch = false) →
            ((¬ (r61 = r71)) →
              Fin (fun e W' => e = .returned (.bool true) ∧ Below w0.heap.size w0 W') [(B, .cells ⟨bytesL l ++ List.replicate r (.int .u8 0)⟩ 5 (n + r, n + r + 1))] [] w0 (.bool false)) ∧
             ((r61 = r71) →
              Fin (fun e W' => e = .returned (.bool true) ∧ Below w0.heap.size w0 W') [(B, .cells ⟨bytesL l ++ List.replicate r (.int .u8 0)⟩ 5 (n + r, n + r + 1))] [] w0 (.bool true)))) ∧
         ((true = false) →
          Fin (fun e W' => e = .returned (.bool true) ∧ Below w0.heap.size w0 W') [(B, .cells ⟨bytesL l ++ List.replicate r (.int .u8 0)⟩ 5 (n + r, n + r + 1))] [] w0 (.bool false)) := by
    intro i l ch hi hl hc hch
    refine ⟨fun _ => ?_, fun h => absurd h (by decide)⟩
    have sl : (⟨l.toArray⟩ : ByteArray).size = n := by rw [← bts_len, bts_mk, hl]
    have hE : bits % 2 ^ i < 2 ^ 32 := Nat.lt_of_le_of_lt (Nat.mod_le _ _) hb
    have hend := burst_end hE hc
    refine ⟨l, ⟨?_, hl⟩, ?_⟩
    · rw [List.drop_zero, List.take_append_of_le_length (by rw [bytesL_len]; omega), List.take_of_length_le (by rw [bytesL_len]; omega)]
    rw [Int.toNat_natCast, ← ht]
    refine ⟨_, QCall.ofG (Sum_c _ (by omega)) (by simp) hw, by omega, ?_⟩
    refine ⟨_, QCall.ofG (Sum_c _ (by omega)) (by simp) hw, ?_⟩
    have hcast : ((crc (bts ⟨l.toArray⟩) : Nat) : Int) = ((crc (bts t) : Nat) : Int) ↔ bits % 2 ^ i = 0 := by
      rw [bts_mk, ← hend]; omega
    rw [hcast, hch]
    refine ⟨fun h => ⟨fun _ => finPure rfl, fun h2 => ?_⟩, fun h => ⟨fun h2 => ?_, fun _ => finPure rfl⟩⟩
    · simp [h2] at h
    · simp [h2] at h
  intro g
  induction g with
  | zero =>
    intro i l ch hg hi hl hc hch
    apply Burst_c0_vc
    refine ⟨fun h => absurd h (by omega), fun _ => fin i l ch (by omega) hl hc hch⟩
  | succ g ih =>
    intro i l ch hg hi hl hc hch
    apply Burst_c0_vc
    have ek : IntKind.i64.wrap ((frm : Int) + (i : Int)) = ((frm + i : Nat) : Int) := by rw [wi64 (by omega)]; omega
    have e8 : IntKind.i64.wrap (8 * (n : Int)) = ((8 * n : Nat) : Int) := by rw [wi64 (by omega)]; omega
    have ei : IntKind.i64.wrap ((i : Int) + 1) = ((i + 1 : Nat) : Int) := by rw [wi64 (by omega)]; omega
    have eb : ((bits : Int).fdiv (2 ^ (min (Int.toNat (i : Int)) 32))).tmod 2 = ((bits / 2 ^ i % 2 : Nat) : Int) := by
      have h1 : min (Int.toNat (i : Int)) 32 = i := by omega
      have h2 : (2 : Int) ^ i = ((2 ^ i : Nat) : Int) := by simp
      rw [h1, h2, fdiv_nat]
      exact tmod_nat _ 2
    rw [ek, e8, ei, eb]
    refine ⟨fun _ => ⟨fun hlt => ⟨by omega, fun hbit => ?_, fun hbit => ?_⟩, fun _ => fin i l ch (by omega) hl hc hch⟩, fun h => absurd (by omega) h⟩
    · rintro k rfl
      obtain ⟨k, hk⟩ : ∃ k, k = frm + i := ⟨_, rfl⟩
      rw [← hk]
      have hk8 : k / 8 < l.length := by omega
      have d8 : ((k : Nat) : Int).tdiv 8 = ((k / 8 : Nat) : Int) := tdiv_nat k 8
      have m8 : ((k : Nat) : Int).tmod 8 = ((k % 8 : Nat) : Int) := tmod_nat k 8
      rw [d8, m8, wi64 (by omega), Int.toNat_natCast]
      refine ⟨by omega, ((l[k / 8]).toNat : Int), ?_, by omega, by omega, ?_, ?_, ?_⟩
      · rw [List.getElem?_append_left (by rw [bytesL_len]; exact hk8), bytesL_get hk8]
      · rw [List.length_append, bytesL_len]; omega
      · omega
      · rintro i1 rfl
        have hp : 2 ^ (k % 8) < 2 ^ 8 := Nat.pow_lt_pow_right (by decide) (Nat.mod_lt _ (by decide))
        have hB := (l[k / 8]).toNat_lt
        have hx : (l[k / 8]).toNat ^^^ 2 ^ (k % 8) < 2 ^ 8 := Nat.xor_lt_two_pow hB hp
        have hsh : IntKind.u8.wrap ((1 : Int) * 2 ^ (min (Int.toNat ((k % 8 : Nat) : Int)) 8)) = ((2 ^ (k % 8) : Nat) : Int) := by
          have h1 : min (Int.toNat ((k % 8 : Nat) : Int)) 8 = k % 8 := by omega
          have h2 : (1 : Int) * 2 ^ (k % 8) = ((2 ^ (k % 8) : Nat) : Int) := by simp
          rw [h1, h2]
          generalize 2 ^ (k % 8) = q at hp
          rw [wu8 (by omega)]
        have hu : (UInt8.ofNat ((l[k / 8]).toNat ^^^ 2 ^ (k % 8))).toNat = (l[k / 8]).toNat ^^^ 2 ^ (k % 8) := by
          rw [UInt8.toNat_ofNat']; exact Nat.mod_eq_of_lt hx
        rw [hsh, ixor8 hB hp, ← hu, List.set_append_left _ _ (by rw [bytesL_len]; exact hk8), bytesL_set]
        have hbo : bits / 2 ^ i % 2 = 1 := by omega
        have hpos : 0 < 2 ^ i := Nat.pow_pos (by decide)
        have hsucc : bits % 2 ^ (i + 1) = bits % 2 ^ i ^^^ 2 ^ i := by rw [mod_pow_succ, if_pos hbo]
        refine ih (i + 1) _ true (by omega) (by omega) (by rw [List.length_set, hl]) ?_ ?_
        · rw [crcFrom_bit l 4294967295 k i (8 * n - frm) _ hk8 (by rw [hl]; omega) (by omega) hu, hc, Nat.xor_assoc, ← steps_xor, hsucc]
        · have hne : bits % 2 ^ (i + 1) ≠ 0 := by
            have h1 : bits % 2 ^ (i + 1) = bits % 2 ^ i + 2 ^ i * (bits / 2 ^ i % 2) := by rw [Nat.pow_succ, Nat.mod_mul]
            rw [h1, hbo]; omega
          simp [hne]
    · rintro i2 rfl
      have hbo : ¬ bits / 2 ^ i % 2 = 1 := by omega
      have hsucc : bits % 2 ^ (i + 1) = bits % 2 ^ i := by rw [mod_pow_succ, if_neg hbo]
      exact ih (i + 1) l ch (by omega) (by omega) hl (by rw [hsucc]; exact hc) (by rw [hsucc]; exact hch)

theorem Burst_c (s : ByteArray) (a bits : Int) (ha : i64 a) (hb : 0 ≤ bits ∧ bits ≤ 4294967295) : PureG Tryd.prog 8 ⟨[.string s, .int .i64 a, .int .u32 bits]⟩ 0 tabV (.bool true) := by
  intro W hw
  refine Burst_vc s a bits (Mem.start [] W) ?_
  refine CallH.pureG sane_c (by simp) hw ⟨_, rfl, rfl, ?_⟩
  obtain ⟨m, hm, hm2⟩ := clip 300 (M := 300) rfl s
  rw [hm, Int.toNat_natCast]
  have sm : (s.extract 0 m).size = m := clip_size (by omega)
  rw [sm]
  refine ⟨by omega, fun B r => ⟨fun _ => finPure rfl, fun h0 => ⟨fun _ => finPure rfl, fun h1 => ?_⟩⟩⟩
  have e8 : IntKind.i64.wrap (8 * (m : Int)) = ((8 * m : Nat) : Int) := by rw [wi64 (by omega)]; omega
  rw [e8]
  refine CallH.pure (pick_c a _ ha (by omega)) ⟨_, rfl, rfl, ?_⟩
  obtain ⟨b, rfl⟩ : ∃ b : Nat, bits = b := ⟨bits.toNat, by omega⟩
  have hf : pickN a % (8 * m) < 8 * m := Nat.mod_lt _ (by omega)
  have hl0 : (bts (s.extract 0 m)).length = m := by rw [bts_len, sm]
  have hc0 : crcFrom 4294967295 (bts (s.extract 0 m)) = crcFrom 4294967295 (bts (s.extract 0 m)) ^^^ steps (8 * m - pickN a % (8 * m)) (b % 2 ^ 0) := by
    rw [Nat.pow_zero, Nat.mod_one, steps_zero, Nat.xor_zero]
  have hd0 : false = decide (b % 2 ^ 0 ≠ 0) := by simp [Nat.mod_one]
  exact Burst_loop (t := s.extract 0 m) rfl (by omega) (by omega) (by omega) hf hw B 32 0 (bts (s.extract 0 m)) false rfl (by omega) hl0 hc0 hd0
end Go.Eng
