/- Contracts and plain laws for the proof; no claim of its own. -/
namespace Wire

/-! ### The checksum -/
def bitStep (r : Nat) : Nat := if r % 2 = 1 then r / 2 ^^^ 2197175160 else r / 2
def steps : Nat → Nat → Nat
  | 0, r => r
  | n + 1, r => steps n (bitStep r)
def crcByte (r b : Nat) : Nat := steps 8 (r ^^^ b)
def crcFrom (r : Nat) (l : List UInt8) : Nat := l.foldl (fun r b => crcByte r b.toNat) r
def crc (l : List UInt8) : Nat := 4294967295 ^^^ crcFrom 4294967295 l

theorem xor_mod2 (a b : Nat) : (a ^^^ b) % 2 = (a % 2 + b % 2) % 2 := by
  have h1 := Nat.mod_two_eq_zero_or_one a
  have h2 := Nat.mod_two_eq_zero_or_one b
  have h3 := Nat.mod_two_eq_zero_or_one (a ^^^ b)
  have h := Nat.testBit_xor a b 0
  simp only [Nat.testBit_zero] at h
  rcases h1 with h1 | h1 <;> rcases h2 with h2 | h2 <;> rcases h3 with h3 | h3 <;> simp_all
theorem xor_div2 (a b : Nat) : (a ^^^ b) / 2 = a / 2 ^^^ b / 2 := by
  apply Nat.eq_of_testBit_eq
  intro j
  rw [← Nat.testBit_add_one, Nat.testBit_xor, Nat.testBit_add_one, Nat.testBit_add_one, Nat.testBit_xor]

theorem bitStep_xor (a b : Nat) : bitStep (a ^^^ b) = bitStep a ^^^ bitStep b := by
  unfold bitStep
  rw [xor_mod2, xor_div2]
  have h1 := Nat.mod_two_eq_zero_or_one a
  have h2 := Nat.mod_two_eq_zero_or_one b
  rcases h1 with h1 | h1 <;> rcases h2 with h2 | h2 <;> simp only [h1, h2, Nat.zero_add, Nat.add_zero, Nat.reduceAdd, Nat.reduceMod, if_true, if_false, Nat.zero_ne_one]
  · rw [Nat.xor_assoc]
  · rw [Nat.xor_assoc, Nat.xor_assoc]; congr 1; exact Nat.xor_comm ..
  · have : ∀ x y p : Nat, x ^^^ y = (x ^^^ p) ^^^ (y ^^^ p) := by
      intro x y p
      rw [Nat.xor_assoc, ← Nat.xor_assoc p, Nat.xor_comm p y, Nat.xor_assoc y, Nat.xor_self, Nat.xor_zero]
    exact this _ _ _
theorem steps_xor : ∀ (n a b : Nat), steps n (a ^^^ b) = steps n a ^^^ steps n b
  | 0, _, _ => rfl
  | n + 1, a, b => by rw [steps, steps, steps, bitStep_xor, steps_xor n]
theorem steps_add : ∀ (m n r : Nat), steps (m + n) r = steps n (steps m r)
  | 0, n, r => by rw [Nat.zero_add]; rfl
  | m + 1, n, r => by rw [Nat.add_right_comm, steps, steps, steps_add m n]
theorem bitStep_even (h : Nat) : bitStep (2 * h) = h := by
  unfold bitStep; rw [if_neg (by omega)]; omega
theorem steps_shift : ∀ (n h : Nat), steps n (2 ^ n * h) = h
  | 0, h => by simp [steps]
  | n + 1, h => by rw [steps, Nat.pow_succ, Nat.mul_comm (2 ^ n) 2, Nat.mul_assoc, bitStep_even, steps_shift n]
theorem bitStep_zero : bitStep 0 = 0 := rfl
theorem steps_zero : ∀ n, steps n 0 = 0
  | 0 => rfl
  | n + 1 => by rw [steps, bitStep_zero, steps_zero n]

theorem bitStep_lt {r : Nat} (h : r < 2 ^ 32) : bitStep r < 2 ^ 32 := by
  unfold bitStep; split
  · exact Nat.xor_lt_two_pow (by omega) (by decide)
  · omega
theorem steps_lt : ∀ (n : Nat) {r : Nat}, r < 2 ^ 32 → steps n r < 2 ^ 32
  | 0, _, h => h
  | n + 1, _, h => steps_lt n (bitStep_lt h)
theorem bitStep_ne {r : Nat} (h : r < 2 ^ 32) (hr : r ≠ 0) : bitStep r ≠ 0 := by
  unfold bitStep; split
  · intro he
    have h2 : r / 2 = 2197175160 := by
      have : (r / 2 ^^^ 2197175160) ^^^ 2197175160 = 0 ^^^ 2197175160 := by rw [he]
      rw [Nat.xor_assoc, Nat.xor_self, Nat.xor_zero, Nat.zero_xor] at this
      exact this
    omega
  · omega
theorem steps_ne : ∀ (n : Nat) {r : Nat}, r < 2 ^ 32 → r ≠ 0 → steps n r ≠ 0
  | 0, _, _, hr => hr
  | n + 1, _, h, hr => steps_ne n (bitStep_lt h) (bitStep_ne h hr)

theorem byte_lt (b : UInt8) : b.toNat < 2 ^ 32 := by have := b.toNat_lt; omega
theorem crcByte_lt {r b : Nat} (h : r < 2 ^ 32) (hb : b < 2 ^ 32) : crcByte r b < 2 ^ 32 := steps_lt 8 (Nat.xor_lt_two_pow h hb)
theorem crcFrom_lt : ∀ (l : List UInt8) {r : Nat}, r < 2 ^ 32 → crcFrom r l < 2 ^ 32
  | [], _, h => h
  | b :: l, _, h => crcFrom_lt l (crcByte_lt h (byte_lt b))
theorem crc_lt (l : List UInt8) : crc l < 2 ^ 32 := Nat.xor_lt_two_pow (by decide) (crcFrom_lt l (by decide))

/-! ### By halves of a byte -/
def shiftTab : List Nat := [0x00000000, 0x105ec76f, 0x20bd8ede, 0x30e349b1, 0x417b1dbc, 0x5125dad3, 0x61c69362, 0x7198540d, 0x82f63b78, 0x92a8fc17, 0xa24bb5a6, 0xb21572c9, 0xc38d26c4, 0xd3d3e1ab, 0xe330a81a, 0xf36e6f75]
theorem tab_steps : ∀ q : Fin 16, steps 4 q.val = shiftTab.getD q.val 0 := by decide
theorem nibble (r : Nat) : steps 4 r = r / 16 ^^^ shiftTab.getD (r % 16) 0 := by
  have h : r = 2 ^ 4 * (r / 16) ^^^ r % 16 := by
    have h2 := Nat.two_pow_add_eq_or_of_lt (i := 4) (b := r % 16) (by omega) (r / 16)
    have h3 : 2 ^ 4 * (r / 16) ^^^ r % 16 = 2 ^ 4 * (r / 16) ||| r % 16 := by
      apply Nat.eq_of_testBit_eq
      intro j
      rw [Nat.testBit_xor, Nat.testBit_or, Nat.testBit_two_pow_mul]
      by_cases hj : j < 4
      · simp [show ¬ 4 ≤ j by omega]
      · have : (r % 16).testBit j = false := Nat.testBit_lt_two_pow (Nat.lt_of_lt_of_le (Nat.mod_lt _ (by decide)) (Nat.pow_le_pow_right (n := 2) (i := 4) (by decide) (by omega)))
        simp [this]
    rw [h3, ← h2]; omega
  conv => lhs; rw [h]
  rw [steps_xor, steps_shift, tab_steps ⟨r % 16, Nat.mod_lt _ (by decide)⟩]
theorem crcByte_nib (r b : Nat) : crcByte r b = steps 4 (steps 4 (r ^^^ b)) := steps_add 4 4 _

/-! ### Affine -/
theorem xor3 (a b c d e f : Nat) : (a ^^^ b ^^^ c) ^^^ (d ^^^ e ^^^ f) = (a ^^^ d) ^^^ (b ^^^ e) ^^^ (c ^^^ f) := by ac_rfl
theorem crcFrom_aff (x : List UInt8) : ∀ (a b c : List UInt8) (ra rb rc : Nat), x.length = a.length → x.length = b.length → x.length = c.length →
    (∀ i (h : i < x.length) (ha : i < a.length) (hb : i < b.length) (hc : i < c.length), x[i].toNat = a[i].toNat ^^^ b[i].toNat ^^^ c[i].toNat) →
    crcFrom (ra ^^^ rb ^^^ rc) x = crcFrom ra a ^^^ crcFrom rb b ^^^ crcFrom rc c := by
  induction x with
  | nil =>
    intro a b c ra rb rc h1 h2 h3 _
    have e1 : a = [] := List.length_eq_zero_iff.1 h1.symm
    have e2 : b = [] := List.length_eq_zero_iff.1 h2.symm
    have e3 : c = [] := List.length_eq_zero_iff.1 h3.symm
    subst e1 e2 e3; rfl
  | cons x xs ih =>
    intro a b c ra rb rc h1 h2 h3 h
    obtain ⟨a, as, rfl⟩ := List.exists_cons_of_length_eq_add_one h1.symm
    obtain ⟨b, bs, rfl⟩ := List.exists_cons_of_length_eq_add_one h2.symm
    obtain ⟨c, cs, rfl⟩ := List.exists_cons_of_length_eq_add_one h3.symm
    have h0 := h 0 (by simp) (by simp) (by simp) (by simp)
    simp only [List.getElem_cons_zero] at h0
    have e : crcByte (ra ^^^ rb ^^^ rc) x.toNat = crcByte ra a.toNat ^^^ crcByte rb b.toNat ^^^ crcByte rc c.toNat := by
      unfold crcByte
      rw [h0, xor3, steps_xor, steps_xor]
    show crcFrom (crcByte (ra ^^^ rb ^^^ rc) x.toNat) xs = _
    rw [e]
    refine ih as bs cs _ _ _ (by simpa using h1) (by simpa using h2) (by simpa using h3) (fun i hx ha hb hc => ?_)
    have := h (i + 1) (by simpa using hx) (by simpa using ha) (by simpa using hb) (by simpa using hc)
    simpa only [List.getElem_cons_succ] using this
theorem crc_aff {x a b c : List UInt8} (h1 : x.length = a.length) (h2 : x.length = b.length) (h3 : x.length = c.length)
    (h : ∀ i (h : i < x.length) (ha : i < a.length) (hb : i < b.length) (hc : i < c.length), x[i].toNat = a[i].toNat ^^^ b[i].toNat ^^^ c[i].toNat) :
    crc x = crc a ^^^ crc b ^^^ crc c := by
  unfold crc
  have hh := crcFrom_aff x a b c 4294967295 4294967295 4294967295 h1 h2 h3 h
  generalize crcFrom 4294967295 a = u at *
  generalize crcFrom 4294967295 b = v at *
  generalize crcFrom 4294967295 c = w at *
  have e : (4294967295 ^^^ 4294967295 ^^^ 4294967295 : Nat) = 4294967295 := by decide
  rw [e] at hh
  rw [hh]
  generalize hf : (4294967295 : Nat) = f
  rw [hf] at e
  have : (f ^^^ u) ^^^ (f ^^^ v) ^^^ (f ^^^ w) = (f ^^^ f ^^^ f) ^^^ (u ^^^ v ^^^ w) := by ac_rfl
  rw [this, e]

/-! ### Bursts -/
theorem crcFrom_reg (l : List UInt8) : ∀ (r d : Nat), crcFrom (r ^^^ d) l = crcFrom r l ^^^ steps (8 * l.length) d := by
  induction l with
  | nil => exact fun r d => rfl
  | cons b l ih =>
    intro r d
    have e : crcByte (r ^^^ d) b.toNat = crcByte r b.toNat ^^^ steps 8 d := by
      unfold crcByte
      rw [← steps_xor]; congr 1; ac_rfl
    have e2 : 8 * (b :: l).length = 8 + 8 * l.length := by rw [List.length_cons]; omega
    rw [e2, steps_add]
    show crcFrom (crcByte (r ^^^ d) b.toNat) l = crcFrom (crcByte r b.toNat) l ^^^ _
    rw [e, ih]
theorem crcFrom_flip (b : UInt8) (m : Nat) : ∀ (l : List UInt8) (r j : Nat) (h : j < l.length), b.toNat = l[j].toNat ^^^ 2 ^ m →
    crcFrom r (l.set j b) = crcFrom r l ^^^ steps (8 * (l.length - j)) (2 ^ m) := by
  intro l
  induction l with
  | nil => intro r j h; exact absurd h (by simp)
  | cons a l ih =>
    intro r j h hb
    cases j with
    | zero =>
      simp only [List.getElem_cons_zero] at hb
      have e : crcByte r b.toNat = crcByte r a.toNat ^^^ steps 8 (2 ^ m) := by
        unfold crcByte
        rw [← steps_xor, hb, Nat.xor_assoc]
      have e2 : 8 * ((a :: l).length - 0) = 8 + 8 * l.length := by rw [List.length_cons]; omega
      rw [e2, steps_add, List.set_cons_zero]
      show crcFrom (crcByte r b.toNat) l = crcFrom (crcByte r a.toNat) l ^^^ _
      rw [e, crcFrom_reg]
    | succ j =>
      have e2 : 8 * ((a :: l).length - (j + 1)) = 8 * (l.length - j) := by rw [List.length_cons]; omega
      rw [e2, List.set_cons_succ]
      show crcFrom (crcByte r a.toNat) _ = crcFrom (crcByte r a.toNat) l ^^^ _
      exact ih _ j (by simpa using h) (by simpa using hb)
theorem steps_pow {N i : Nat} (h : i ≤ N) : steps N (2 ^ i) = steps (N - i) 1 := by
  have : N = i + (N - i) := by omega
  rw [this, steps_add]
  have := steps_shift i 1
  rw [Nat.mul_one] at this
  rw [this]; congr 1; omega
/-- One bit of the stream. -/
theorem crcFrom_bit (l : List UInt8) (r k i N : Nat) (b : UInt8) (h : k / 8 < l.length) (hN : N = 8 * l.length - (k - i)) (hik : i ≤ k) (hb : b.toNat = l[k / 8].toNat ^^^ 2 ^ (k % 8)) :
    crcFrom r (l.set (k / 8) b) = crcFrom r l ^^^ steps N (2 ^ i) := by
  rw [crcFrom_flip b (k % 8) l r (k / 8) h hb, steps_pow (by omega), steps_pow (by omega)]
  congr 2; omega
theorem mod_pow_succ (x i : Nat) : x % 2 ^ (i + 1) = if x / 2 ^ i % 2 = 1 then x % 2 ^ i ^^^ 2 ^ i else x % 2 ^ i := by
  have h1 : x % 2 ^ (i + 1) = x % 2 ^ i + 2 ^ i * (x / 2 ^ i % 2) := by rw [Nat.pow_succ, Nat.mod_mul]
  have hl : x % 2 ^ i < 2 ^ i := Nat.mod_lt _ (Nat.pow_pos (by decide))
  split
  · next h =>
    rw [h1, h, Nat.mul_one]
    have h2 := Nat.two_pow_add_eq_or_of_lt hl 1
    have h3 : x % 2 ^ i ^^^ 2 ^ i = 2 ^ i * 1 ||| x % 2 ^ i := by
      apply Nat.eq_of_testBit_eq
      intro j
      rw [Nat.testBit_xor, Nat.testBit_or, Nat.mul_one, Nat.testBit_two_pow]
      by_cases hj : i = j
      · subst hj; simp [Nat.testBit_lt_two_pow hl]
      · simp [hj]
    rw [h3, ← h2]; omega
  · next h => rw [h1, show x / 2 ^ i % 2 = 0 by omega]; omega
theorem burst_end {N E : Nat} {l l' : List UInt8} (hE : E < 2 ^ 32) (h : crcFrom 4294967295 l' = crcFrom 4294967295 l ^^^ steps N E) : crc l' = crc l ↔ E = 0 := by
  unfold crc
  rw [h]
  constructor
  · intro he
    by_cases h0 : E = 0
    · exact h0
    refine absurd ?_ (steps_ne N hE h0)
    have : ∀ a b d : Nat, a ^^^ (b ^^^ d) = a ^^^ b → d = 0 := by
      intro a b d hh
      have h1 : (a ^^^ b) ^^^ ((a ^^^ b) ^^^ d) = (a ^^^ b) ^^^ (a ^^^ b) := by rw [Nat.xor_assoc a b d, hh]
      rw [← Nat.xor_assoc, Nat.xor_self, Nat.zero_xor] at h1
      exact h1
    exact this _ _ _ he
  · intro h0; rw [h0, steps_zero, Nat.xor_zero]
end Wire
