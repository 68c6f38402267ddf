/-
  Plain mathematics of package wire: no program in sight.
-/
namespace Wire
/-- The bytes of the groups of z, the least significant first. -/
def leb : Nat → Nat → List Nat
  | 0, z => [z % 256]
  | f + 1, z => if z < 128 then [z] else (z % 128 + 128) :: leb f (z / 128)
def lebI (f z : Nat) : List Int := (leb f z).map Int.ofNat
def zig (n : Int) : Nat := if n < 0 then (-n).toNat * 2 - 1 else n.toNat * 2
def unzig (z : Nat) : Int := if z % 2 = 1 then -((z / 2 : Nat) : Int) - 1 else ((z / 2 : Nat) : Int)
def maxInt : Int := 4611686018427387903
def okInt (n : Int) : Prop := -maxInt ≤ n ∧ n ≤ maxInt
instance (n : Int) : Decidable (okInt n) := inferInstanceAs (Decidable (_ ∧ _))
/-- The encoding of n. -/
def enc (n : Int) : List UInt8 := (leb 9 (zig n)).map UInt8.ofNat
/-- Decoding: the number, and how many bytes it takes. -/
def rdGo : Nat → Nat → Nat → List UInt8 → Option (Int × Nat)
  | 0, _, _, _ => none
  | _ + 1, _, _, [] => none
  | g + 1, i, z, b :: r =>
    if 128 ≤ b.toNat then (rdGo g (i + 1) (z + b.toNat % 128 * 128 ^ i) r).map fun p => (p.1, p.2 + 1)
    else if (b.toNat = 0 ∧ 0 < i) ∨ unzig (z + b.toNat % 128 * 128 ^ i) < -maxInt then none
    else some (unzig (z + b.toNat % 128 * 128 ^ i), 1)
def rdInt (l : List UInt8) : Option (Int × Nat) := rdGo 9 0 0 l

theorem zig_lt {n : Int} (h : okInt n) : zig n < 9223372036854775807 := by
  unfold okInt maxInt at h; unfold zig; split <;> omega
theorem unzig_zig (n : Int) : unzig (zig n) = n := by
  unfold unzig zig
  split <;> split <;> omega
theorem zig_unzig (z : Nat) : zig (unzig z) = z := by
  unfold unzig
  split
  · unfold zig; rw [if_pos (by omega)]; omega
  · unfold zig; rw [if_neg (by omega)]; omega
theorem zig_inj {m n : Int} (h : zig m = zig n) : m = n := by rw [← unzig_zig m, ← unzig_zig n, h]

theorem leb_len : ∀ (f z : Nat), (leb f z).length ≤ f + 1
  | 0, z => by simp [leb]
  | f + 1, z => by
    unfold leb; split
    · simp
    · have := leb_len f (z / 128); simp; omega
theorem leb_pos : ∀ (f z : Nat), 0 < (leb f z).length
  | 0, z => by simp [leb]
  | f + 1, z => by unfold leb; split <;> simp

/-- What is read off the groups of y, z standing already. -/
theorem rdGo_leb : ∀ (g i z y : Nat) (r : List UInt8), y < 128 ^ (g + 1) → (0 < i → 0 < y) → -maxInt ≤ unzig (z + y * 128 ^ i) →
    rdGo (g + 1) i z ((leb g y).map UInt8.ofNat ++ r) = some (unzig (z + y * 128 ^ i), (leb g y).length)
  | 0, i, z, y, r, hy, hi, hm => by
    have hy' : y < 128 := by simpa using hy
    have hb : (UInt8.ofNat (y % 256)).toNat = y := by simp; omega
    simp only [leb, List.map_cons, List.map_nil, List.cons_append, List.nil_append, rdGo, hb]
    rw [if_neg (by omega)]
    have hmod : y % 128 = y := Nat.mod_eq_of_lt hy'
    rw [hmod, if_neg (by intro h; rcases h with h | h; exact absurd (hi h.2) (by omega); omega)]
    rfl
  | g + 1, i, z, y, r, hy, hi, hm => by
    unfold leb
    split
    · next h =>
      have hb : (UInt8.ofNat y).toNat = y := by simp; omega
      simp only [List.map_cons, List.map_nil, List.cons_append, List.nil_append, rdGo, hb]
      rw [if_neg (by omega)]
      have hmod : y % 128 = y := Nat.mod_eq_of_lt h
      rw [hmod, if_neg (by intro h; rcases h with h | h; exact absurd (hi h.2) (by omega); omega)]
      rfl
    · next h =>
      have hb : (UInt8.ofNat (y % 128 + 128)).toNat = y % 128 + 128 := by simp; omega
      simp only [List.map_cons, List.cons_append]
      have hz : z + y * 128 ^ i = (z + y % 128 * 128 ^ i) + y / 128 * 128 ^ (i + 1) := by
        have h1 : y = y % 128 + y / 128 * 128 := by omega
        have h2 : y * 128 ^ i = y % 128 * 128 ^ i + y / 128 * 128 ^ (i + 1) := by
          rw [Nat.pow_succ]
          have h3 : y * 128 ^ i = (y % 128 + y / 128 * 128) * 128 ^ i := by rw [← h1]
          rw [h3, Nat.add_mul, Nat.mul_assoc, Nat.mul_comm 128 (128 ^ i)]
        omega
      have ih := rdGo_leb g (i + 1) (z + y % 128 * 128 ^ i) (y / 128) r (by rw [Nat.div_lt_iff_lt_mul (by omega)]; rw [Nat.pow_succ] at hy; exact hy) (fun _ => by omega) (by rw [← hz]; exact hm)
      conv => lhs; unfold rdGo
      simp only [hb]
      rw [if_pos (by omega)]
      have hmod : (y % 128 + 128) % 128 = y % 128 := by omega
      rw [hmod, ih, ← hz]
      simp

theorem rdInt_enc {n : Int} (h : okInt n) (r : List UInt8) : rdInt (enc n ++ r) = some (n, (enc n).length) := by
  have hz := zig_lt h
  -- nine groups are enough: the last of ten is never reached
  have key : ∀ (f z : Nat), z < 128 ^ (f + 1) → leb (f + 1) z = leb f z := by
    intro f
    induction f with
    | zero => intro z hz; simp at hz; simp [leb, hz]; omega
    | succ f ih =>
      intro z hz
      have : leb (f + 1 + 1) z = if z < 128 then [z] else (z % 128 + 128) :: leb (f + 1) (z / 128) := rfl
      rw [this]
      have h2 : leb (f + 1) z = if z < 128 then [z] else (z % 128 + 128) :: leb f (z / 128) := rfl
      rw [h2]
      split
      · rfl
      · rw [ih (z / 128) (by rw [Nat.div_lt_iff_lt_mul (by omega)]; rw [Nat.pow_succ] at hz; exact hz)]
  unfold rdInt enc
  rw [key 8 (zig n) (by have : (128 : Nat) ^ (8 + 1) = 9223372036854775808 := by decide
                        omega)]
  have := rdGo_leb 8 0 0 (zig n) r (by have : (128 : Nat) ^ (8 + 1) = 9223372036854775808 := by decide
                                       omega) (by omega) (by simp [unzig_zig]; exact h.1)
  simpa [unzig_zig] using this

/-- What is accepted is an encoding. -/
theorem rdGo_inv : ∀ (g i z : Nat) (l : List UInt8) (n : Int) (k : Nat), rdGo (g + 1) i z l = some (n, k) →
    ∃ y, n = unzig (z + y * 128 ^ i) ∧ y < 128 ^ (g + 1) ∧ l.take k = (leb g y).map UInt8.ofNat ∧ k = (leb g y).length ∧ k ≤ l.length ∧ (0 < i → 0 < y) ∧ -maxInt ≤ n
  | 0, i, z, [], n, k, h => by simp [rdGo] at h
  | 0, i, z, b :: r, n, k, h => by
    simp only [rdGo] at h
    split at h
    · simp at h
    · next hb =>
      split at h
      · cases h
      · next hc =>
        simp only [Option.some.injEq, Prod.mk.injEq] at h
        obtain ⟨rfl, rfl⟩ := h
        have hb' : b.toNat < 128 := by omega
        have hmod : b.toNat % 128 = b.toNat := Nat.mod_eq_of_lt hb'
        rw [hmod] at hc ⊢
        refine ⟨b.toNat, rfl, by simpa using hb', ?_, by simp [leb], by simp, fun hi => ?_, ?_⟩
        · have : b.toNat % 256 = b.toNat := by omega
          simp [leb, this]
        · rcases Nat.eq_zero_or_pos b.toNat with h0 | h0
          · exact absurd (Or.inl ⟨h0, hi⟩) hc
          · exact h0
        · rcases Int.lt_or_le (unzig (z + b.toNat * 128 ^ i)) (-maxInt) with h0 | h0
          · exact absurd (Or.inr h0) hc
          · exact h0
  | g + 1, i, z, [], n, k, h => by simp [rdGo] at h
  | g + 1, i, z, b :: r, n, k, h => by
    unfold rdGo at h
    split at h
    · next hb =>
      rw [Option.map_eq_some_iff] at h
      obtain ⟨⟨n', k'⟩, h1, h2⟩ := h
      simp only [Prod.mk.injEq] at h2
      obtain ⟨rfl, rfl⟩ := h2
      obtain ⟨y, hn, hy, ht, hk, hle, hpos, hm⟩ := rdGo_inv g (i + 1) _ r n' k' h1
      have hy0 := hpos (by omega)
      have hbl : b.toNat < 256 := b.toNat_lt
      refine ⟨b.toNat % 128 + y * 128, ?_, ?_, ?_, ?_, ?_, fun _ => by omega, hm⟩
      · rw [hn]
        congr 1
        rw [Nat.add_mul, Nat.mul_assoc, Nat.pow_succ, Nat.mul_comm (128 ^ i) 128]
        omega
      · rw [Nat.pow_succ]
        omega
      · unfold leb
        rw [if_neg (by omega)]
        have h1 : (b.toNat % 128 + y * 128) % 128 = b.toNat % 128 := by omega
        have h2 : (b.toNat % 128 + y * 128) / 128 = y := by omega
        rw [h1, h2]
        have h3 : b.toNat % 128 + 128 = b.toNat := by omega
        rw [h3]
        simp [ht]
      · unfold leb
        rw [if_neg (by omega)]
        have h2 : (b.toNat % 128 + y * 128) / 128 = y := by omega
        rw [h2]
        simp; omega
      · simp; omega
    · next hb =>
      split at h
      · cases h
      · next hc =>
        simp only [Option.some.injEq, Prod.mk.injEq] at h
        obtain ⟨rfl, rfl⟩ := h
        have hb' : b.toNat < 128 := by omega
        have hmod : b.toNat % 128 = b.toNat := Nat.mod_eq_of_lt hb'
        rw [hmod] at hc ⊢
        have hl : leb (g + 1) b.toNat = [b.toNat] := by unfold leb; rw [if_pos hb']
        refine ⟨b.toNat, rfl, ?_, ?_, by rw [hl]; rfl, by simp, fun hi => ?_, ?_⟩
        · have : (128 : Nat) ≤ 128 ^ (g + 1 + 1) := by
            rw [Nat.pow_succ]; exact Nat.le_mul_of_pos_left 128 (Nat.pow_pos (by omega))
          omega
        · rw [hl]; simp
        · rcases Nat.eq_zero_or_pos b.toNat with h0 | h0
          · exact absurd (Or.inl ⟨h0, hi⟩) hc
          · exact h0
        · rcases Int.lt_or_le (unzig (z + b.toNat * 128 ^ i)) (-maxInt) with h0 | h0
          · exact absurd (Or.inr h0) hc
          · exact h0

theorem leb_succ (f z : Nat) : z < 128 ^ (f + 1) → leb (f + 1) z = leb f z := by
  induction f generalizing z with
  | zero => intro hz; simp at hz; simp [leb, hz]; omega
  | succ f ih =>
    intro hz
    have h1 : leb (f + 1 + 1) z = if z < 128 then [z] else (z % 128 + 128) :: leb (f + 1) (z / 128) := rfl
    have h2 : leb (f + 1) z = if z < 128 then [z] else (z % 128 + 128) :: leb f (z / 128) := rfl
    rw [h1, h2]
    split
    · rfl
    · rw [ih (z / 128) (by rw [Nat.div_lt_iff_lt_mul (by omega)]; rw [Nat.pow_succ] at hz; exact hz)]

theorem rdInt_inv {l : List UInt8} {n : Int} {k : Nat} (h : rdInt l = some (n, k)) : okInt n ∧ k ≤ l.length ∧ l.take k = enc n ∧ k = (enc n).length := by
  obtain ⟨y, hn, hy, ht, hk, hle, _, hm⟩ := rdGo_inv 8 0 0 l n k h
  have hp : (128 : Nat) ^ (8 + 1) = 9223372036854775808 := by decide
  have hzy : zig n = y := by rw [hn]; simp [zig_unzig]
  have hl : leb 9 (zig n) = leb 8 y := by rw [hzy]; exact leb_succ 8 y hy
  refine ⟨⟨hm, ?_⟩, hle, by rw [ht, enc, hl], by rw [hk, enc, hl]; simp⟩
  have : n = unzig y := by rw [hn]; simp
  rw [this]
  unfold unzig maxInt
  split <;> omega

theorem enc_pos (n : Int) : 0 < (enc n).length := by unfold enc; simp; exact leb_pos 9 _
theorem enc_len (n : Int) : (enc n).length ≤ 10 := by unfold enc; simp; exact leb_len 9 _

/-- Prefix-free: an encoding with something behind it determines the number. -/
theorem enc_prefix {m n : Int} (hm : okInt m) (hn : okInt n) {r s : List UInt8} (h : enc m ++ r = enc n ++ s) : m = n := by
  have h1 := rdInt_enc hm r
  rw [h, rdInt_enc hn s] at h1
  simp at h1; exact h1.1.symm
theorem enc_inj {m n : Int} (h : enc m = enc n) (hm : okInt m) (hn : okInt n) : m = n := enc_prefix hm hn (r := []) (s := []) (by simp [h])

theorem rdInt_some {l : List UInt8} {n : Int} (hn : okInt n) {r : List UInt8} (h : l = enc n ++ r) : rdInt l = some (n, (enc n).length) := by rw [h]; exact rdInt_enc hn r
theorem rdInt_split {l : List UInt8} {n : Int} {k : Nat} (h : rdInt l = some (n, k)) : l = enc n ++ l.drop k := by
  obtain ⟨_, _, ht, _⟩ := rdInt_inv h
  rw [← ht, List.take_append_drop]

/-- A proper prefix of an encoding is none. -/
theorem rdInt_short {n : Int} (hn : okInt n) {k : Nat} (hk : k < (enc n).length) : rdInt ((enc n).take k) = none := by
  cases h : rdInt ((enc n).take k) with
  | none => rfl
  | some p =>
    obtain ⟨m, j⟩ := p
    obtain ⟨hm, hj, ht, hj2⟩ := rdInt_inv h
    have hs := rdInt_split h
    have h1 : enc n = enc m ++ ((enc n).take k).drop j ++ (enc n).drop k := by
      rw [← hs, List.take_append_drop]
    rw [List.append_assoc] at h1
    have := enc_prefix hn hm (r := []) (by rw [List.append_nil]; exact h1)
    subst this
    simp at hj
    omega

/-! ### Strings -/
def rdStr (l : List UInt8) : Option (List UInt8 × Nat) :=
  match rdInt l with
  | none => none
  | some (n, k) => if 0 ≤ n ∧ n ≤ 65536 ∧ n ≤ ((l.length - k : Nat) : Int) then some ((l.drop k).take n.toNat, k + n.toNat) else none
def encS (t : List UInt8) : List UInt8 := enc t.length ++ t

theorem okLen {n : Nat} (h : n ≤ 65536) : okInt n := by unfold okInt maxInt; omega

theorem rdStr_enc {t : List UInt8} (h : t.length ≤ 65536) (r : List UInt8) : rdStr (encS t ++ r) = some (t, (encS t).length) := by
  unfold rdStr encS
  rw [List.append_assoc, rdInt_enc (okLen h)]
  simp only
  rw [if_pos]
  · simp
  · simp; omega

theorem rdStr_inv {l : List UInt8} {t : List UInt8} {k : Nat} (h : rdStr l = some (t, k)) : t.length ≤ 65536 ∧ k ≤ l.length ∧ l.take k = encS t ∧ k = (encS t).length := by
  unfold rdStr at h
  split at h
  · cases h
  · next n j hj =>
    split at h
    · next hc =>
      simp only [Option.some.injEq, Prod.mk.injEq] at h
      obtain ⟨rfl, rfl⟩ := h
      obtain ⟨_, hjl, ht, hje⟩ := rdInt_inv hj
      have hlen : ((l.drop j).take n.toNat).length = n.toNat := by simp; omega
      have hn : ((n.toNat : Nat) : Int) = n := Int.toNat_of_nonneg hc.1
      refine ⟨by rw [hlen]; omega, by omega, ?_, ?_⟩
      · unfold encS
        rw [hlen, hn, ← ht, List.take_add]
      · unfold encS
        rw [List.length_append, hlen, hn]; omega
    · cases h

theorem rdStr_split {l : List UInt8} {t : List UInt8} {k : Nat} (h : rdStr l = some (t, k)) : l = encS t ++ l.drop k := by
  obtain ⟨_, _, ht, _⟩ := rdStr_inv h
  rw [← ht, List.take_append_drop]

theorem encS_prefix {s t : List UInt8} (hs : s.length ≤ 65536) (ht : t.length ≤ 65536) {a b : List UInt8} (h : encS s ++ a = encS t ++ b) : s = t := by
  have h1 := rdStr_enc hs a
  rw [h, rdStr_enc ht b] at h1
  simp at h1; exact h1.1.symm

theorem encS_pos (t : List UInt8) : 0 < (encS t).length := by unfold encS; simp; have := enc_pos t.length; omega

theorem rdStr_short {t : List UInt8} (h : t.length ≤ 65536) {k : Nat} (hk : k < (encS t).length) : rdStr ((encS t).take k) = none := by
  cases hr : rdStr ((encS t).take k) with
  | none => rfl
  | some p =>
    obtain ⟨s, j⟩ := p
    obtain ⟨hs, hj, ht, hj2⟩ := rdStr_inv hr
    have hsp := rdStr_split hr
    have h1 : encS t = encS s ++ ((encS t).take k).drop j ++ (encS t).drop k := by
      rw [← hsp, List.take_append_drop]
    rw [List.append_assoc] at h1
    have := encS_prefix h hs (a := []) (by rw [List.append_nil]; exact h1)
    subst this
    simp at hj
    omega
end Wire
