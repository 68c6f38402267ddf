/- Contracts and plain laws for the proof; no claim of its own. -/
import Derived.Test.YtgplckfjbdnedaaDoorMsgC7
import Derived.Test.YtgplckfjbdnedaaDoorEngM9
namespace Go.Eng
open Go Go.RowKit Go.Proofs Wire
set_option linter.unusedVariables false

/-! ### Bytes changed -/
theorem crcFrom_xor (b : UInt8) (x : Nat) : ∀ (l : List UInt8) (r j : Nat) (h : j < l.length), b.toNat = l[j].toNat ^^^ x →
    crcFrom r (l.set j b) = crcFrom r l ^^^ steps (8 * (l.length - j)) x := by
  intro l
  induction l with
  | nil => intro r j h; exact absurd h (by simp)
  | cons a l ih =>
    intro r j h hb
    cases j with
    | zero =>
      simp only [List.getElem_cons_zero] at hb
      have e : crcByte r b.toNat = crcByte r a.toNat ^^^ steps 8 x := by
        unfold crcByte
        rw [← steps_xor, hb, Nat.xor_assoc]
      have e2 : 8 * ((a :: l).length - 0) = 8 + 8 * l.length := by rw [List.length_cons]; omega
      rw [e2, steps_add, List.set_cons_zero]
      show crcFrom (crcByte r b.toNat) l = crcFrom (crcByte r a.toNat) l ^^^ _
      rw [e, crcFrom_reg]
    | succ j =>
      have e2 : 8 * ((a :: l).length - (j + 1)) = 8 * (l.length - j) := by rw [List.length_cons]; omega
      rw [e2, List.set_cons_succ]
      show crcFrom (crcByte r a.toNat) _ = crcFrom (crcByte r a.toNat) l ^^^ _
      exact ih _ j (by simpa using h) (by simpa using hb)
theorem steps_at {n k i x : Nat} (h : k + i ≤ n) : steps (8 * (n - (k + i))) x = steps (8 * (n - k)) (2 ^ (8 * i) * x) := by
  have e : 8 * (n - k) = 8 * i + 8 * (n - (k + i)) := by omega
  rw [e, steps_add, steps_shift]

structure ChS (body b : List UInt8) (k i E : Nat) (ch : Bool) : Prop where
  len : b.length = body.length
  lt : E < 2 ^ (8 * i)
  reg : crcFrom 4294967295 b = crcFrom 4294967295 body ^^^ steps (8 * (body.length - k)) E
  yes : ch = true → E ≠ 0
  no : ch = false → E = 0 ∧ b = body

theorem ChS.step {body b : List UInt8} {k i E : Nat} {ch : Bool} (h : ChS body b k i E ch) (hb : k + i < b.length) (x : UInt8) :
    ChS body (b.set (k + i) (b[k + i] ^^^ x)) k (i + 1) (E ^^^ 2 ^ (8 * i) * x.toNat) (ch || decide (x.toNat ≠ 0)) := by
  have hx := x.toNat_lt
  have hp : 2 ^ (8 * (i + 1)) = 2 ^ (8 * i) * 256 := by rw [show 8 * (i + 1) = 8 * i + 8 by omega, Nat.pow_add]
  have hpos : 0 < 2 ^ (8 * i) := Nat.pow_pos (by decide)
  have hlt := h.lt
  have hb2 : 2 ^ (8 * i) * x.toNat < 2 ^ (8 * (i + 1)) := by rw [hp]; exact Nat.mul_lt_mul_of_pos_left hx hpos
  have hb1 : E < 2 ^ (8 * (i + 1)) := by rw [hp]; exact Nat.lt_of_lt_of_le hlt (Nat.le_mul_of_pos_right _ (by decide))
  have hz : E ^^^ 2 ^ (8 * i) * x.toNat = 0 → E = 0 ∧ x.toNat = 0 := by
    intro h0
    have he : E = 2 ^ (8 * i) * x.toNat := by
      have h1 := congrArg (fun z => z ^^^ 2 ^ (8 * i) * x.toNat) h0
      simp only [Nat.xor_assoc, Nat.xor_self, Nat.xor_zero, Nat.zero_xor] at h1
      exact h1
    have hx0 : x.toNat = 0 := by
      rcases Nat.eq_zero_or_pos x.toNat with h1 | h1
      · exact h1
      · have := Nat.le_mul_of_pos_right (2 ^ (8 * i)) h1
        omega
    exact ⟨by rw [he, hx0, Nat.mul_zero], hx0⟩
  refine ⟨by rw [List.length_set, h.len], Nat.xor_lt_two_pow hb1 hb2, ?_, fun hc h0 => ?_, fun hc => ?_⟩
  · rw [crcFrom_xor _ x.toNat b 4294967295 (k + i) hb (by rw [UInt8.toNat_xor]), h.reg, h.len, steps_at (by rw [← h.len]; omega), Nat.xor_assoc, ← steps_xor]
  · obtain ⟨h1, h2⟩ := hz h0
    rw [h2] at hc
    simp only [ne_eq, not_true, decide_false, Bool.or_false] at hc
    exact h.yes hc h1
  · simp only [Bool.or_eq_false_iff, decide_eq_false_iff_not, ne_eq, Decidable.not_not] at hc
    obtain ⟨h1, h2⟩ := h.no hc.1
    have hx0 : x = 0 := UInt8.toNat_inj.1 hc.2
    refine ⟨by rw [h1, hc.2]; simp, ?_⟩
    subst hx0
    rw [UInt8.xor_zero, List.set_getElem_self]
    exact h2

theorem bL_len (l : List UInt8) : (bytesL l).length = l.length := by simp [bytesL]
theorem bL_get {l : List UInt8} {j : Nat} (h : j < l.length) : (bytesL l)[j]? = some (.int .u8 (l[j].toNat : Int)) := by
  simp [bytesL, h]
theorem bL_set (l : List UInt8) (j : Nat) (b : UInt8) : (bytesL l).set j (.int .u8 (b.toNat : Int)) = bytesL (l.set j b) := by
  simp only [bytesL, List.map_set]

/-- What Decode says of a changed body. -/
theorem decode_changed {m : MS} (hm : m.Ok) {b : List UInt8} {k i E : Nat} {ch : Bool} (h : ChS m.body b k i E ch) (hi : i ≤ 4) : decode (enc (crc m.body : Int) ++ b) = if ch = true then .error 200 else .ok m := by
  cases ch with
  | false =>
    rw [(h.no rfl).2]
    exact decode_ok hm
  | true =>
    have hE : E < 2 ^ 32 := Nat.lt_of_lt_of_le h.lt (Nat.pow_le_pow_right (by decide) (by omega))
    have hne := h.yes rfl
    have hcrc : ¬ crc b = crc m.body := fun e => hne ((burst_end hE h.reg).1 e)
    unfold decode
    obtain ⟨e0, d0⟩ := fld_enc (l := enc (crc m.body : Int) ++ b) (a := 0) (r := b) (K := fun sum a => if sum = (crc ((enc (crc m.body : Int) ++ b).drop a) : Int) then fields (enc (crc m.body : Int) ++ b) a else .error 200) (okCrc m.body) rfl
    rw [e0, d0, if_neg (by omega)]
    rfl

theorem ch_end {w0 : World} (hg : MsgG w0) {m : MS} (hm : m.Ok) {B N r : Nat} (hN : N = (enc (crc m.body : Int)).length + m.body.length) {b : List UInt8} {k i E : Nat} {ch : Bool} (h : ChS m.body b k i E ch) (hi : i ≤ 4) :
    LChanged_c1 B true N (N + r) ch (N + r) (N + r + 1) (bytesL (enc (crc m.body : Int) ++ b) ++ List.replicate r (.int .u8 0)) w0 (fun e W' => e = .returned (.bool true) ∧ Below w0.heap.size w0 W') := by
  apply LChanged_c1_vc
  have hl : (enc (crc m.body : Int) ++ b).length = N := by rw [List.length_append, h.len, hN]
  have hbl := body_len m
  have hds := hm.ints.2.2.2.2.2.2
  have hcl := enc_len (crc m.body : Int)
  have hrow : ((bytesL (enc (crc m.body : Int) ++ b) ++ List.replicate r (.int .u8 0 : Value)).drop 0).take N = bytesL (enc (crc m.body : Int) ++ b) := by
    rw [List.drop_zero, List.take_append_of_le_length (by rw [bL_len]; omega), List.take_of_length_le (by rw [bL_len]; omega)]
  refine ⟨enc (crc m.body : Int) ++ b, ⟨hrow, hl⟩, ?_⟩
  have e := dec_M (s := ba (enc (crc m.body : Int) ++ b)) (by rw [ba_size, hl]; omega)
  rw [bts_mk, decode_changed hm h hi] at e
  cases ch with
  | true =>
    exact CallH.pureM e (by simp) (by simp) hg ⟨_, _, _, _, _, _, _, _, rfl, rfl, fun B2 => tt rfl (tt rfl (yes rfl (finPure rfl)))⟩
  | false =>
    exact CallH.pureM e (by simp) (by simp) hg ⟨_, _, _, _, _, _, _, _, rfl, rfl, fun B2 => tt rfl (ff rfl (finPure rfl))⟩

theorem ch_loop {w0 : World} (hg : MsgG w0) {m : MS} (hm : m.Ok) {x : ByteArray} {B N r fr k : Nat} (hfr : fr = (enc (crc m.body : Int)).length) (hN : N = fr + m.body.length) (hk : k < m.body.length) : ∀ (g i : Nat) (b : List UInt8) (E : Nat) (ch : Bool), g + i = 4 → ChS m.body b k i E ch →
    LChanged_c0 B x true N (N + r) ((fr + k : Nat) : Int) ch i (N + r) (N + r + 1) (bytesL (enc (crc m.body : Int) ++ b) ++ List.replicate r (.int .u8 0)) w0 (fun e W' => e = .returned (.bool true) ∧ Below w0.heap.size w0 W')
  | 0, i, b, E, ch, hgi, h => by
    have fin := ch_end hg hm (B := B) (N := N) (r := r) (by rw [← hfr]; exact hN) h (by omega)
    apply LChanged_c0_vc
    exact ⟨fun _ => no (by omega) fin, fun _ => fin⟩
  | g + 1, i, b, E, ch, hgi, h => by
    have fin := ch_end hg hm (B := B) (N := N) (r := r) (by rw [← hfr]; exact hN) h (by omega)
    apply LChanged_c0_vc
    refine ⟨fun hix => yes (by omega) ⟨fun hlt => ?_, fun _ => fin⟩, fun _ => fin⟩
    have hbl := body_len m
    have hds := hm.ints.2.2.2.2.2.2
    have hcl := enc_len (crc m.body : Int)
    have hw : ∀ k : Nat, k + i < m.body.length + 5 → IntKind.i64.wrap (((fr + k : Nat) : Int) + (i : Int)) = ((fr + (k + i) : Nat) : Int) := fun k _ => by rw [wi64 (by omega)]; omega
    have hkb : k + i < m.body.length := by
      rw [wi64 (by omega)] at hlt; omega
    rw [hw k (by omega)] at hlt ⊢
    rw [Int.toNat_natCast]
    have hl : (enc (crc m.body : Int) ++ b).length = N := by rw [List.length_append, h.len, hN, hfr]
    have hbi : k + i < b.length := by rw [h.len]; exact hkb
    have hj : fr + (k + i) < (enc (crc m.body : Int) ++ b).length := by rw [hl, hN]; omega
    have hge : (enc (crc m.body : Int) ++ b)[fr + (k + i)] = b[k + i] := by
      rw [List.getElem_append_right (by omega)]
      congr 1; omega
    have hxi : i < x.data.toList.length := by have : x.size = x.data.size := rfl; simp; omega
    have hB := (b[k + i]).toNat_lt
    have hX := (x.data.toList[i]).toNat_lt
    have hst := h.step hbi (x.data.toList[i])
    have hset : (bytesL (enc (crc m.body : Int) ++ b) ++ List.replicate r (.int .u8 0 : Value)).set (fr + (k + i)) (.int .u8 (ixor .u8 ((b[k + i]).toNat : Int) (bat x (i : Int)))) = bytesL (enc (crc m.body : Int) ++ b.set (k + i) (b[k + i] ^^^ x.data.toList[i])) ++ List.replicate r (.int .u8 0) := by
      rw [bat_get hxi, ixor8 hB hX, ← UInt8.toNat_xor, List.set_append_left _ _ (by rw [bL_len]; exact hj), bL_set, List.set_append_right _ _ (by omega)]
      congr 3
      congr 1; omega
    refine ⟨by omega, ((b[k + i]).toNat : Int), ?_, by omega, by omega, ?_, ?_, ?_⟩
    · rw [List.getElem?_append_left (by rw [bL_len]; exact hj), bL_get hj, hge]
    · rw [List.length_append, bL_len]; omega
    · omega
    rw [hset, wi64 (by omega), show (i : Int) + 1 = ((i + 1 : Nat) : Int) by omega]
    refine ⟨fun hc => ?_, fun hc => ⟨by omega, ?_⟩⟩
    · rintro _ rfl
      subst hc
      exact ch_loop hg hm hfr hN hk g (i + 1) _ _ true (by omega) hst
    · rintro _ rfl
      subst hc
      have hd : (!decide (bat x (i : Int) = 0)) = (false || decide ((x.data.toList[i]).toNat ≠ 0)) := by
        rw [bat_get hxi]
        by_cases h0 : (x.data.toList[i]).toNat = 0 <;> simp
      rw [hd]
      exact ch_loop hg hm hfr hN hk g (i + 1) _ _ _ (by omega) hst

theorem LChanged_c (m : MS) {at' : Int} (ha : i64 at') (x : ByteArray) : PureM 8 ⟨[m.val, .int .i64 at', .string x]⟩ (.bool true) := by
  intro W hg
  refine LChanged_vc m.k m.p m.q m.t m.b m.v m.d at' x (Mem.start [] W) fun B => ?_
  refine CallH.pureM sane_c (by simp) (by simp) hg ⟨_, rfl, rfl, ?_⟩
  refine CallH.pure (short_c m) ⟨_, _, _, _, _, _, _, rfl, rfl, ?_⟩
  generalize m.short = m
  refine CallH.pureM (enc_M m) (by simp) (by simp) hg ⟨_, _, rfl, rfl, ?_⟩
  by_cases hm : m.Ok
  · rw [encR_ok hm]
    dsimp only
    refine yes' rfl ?_
    have hcs := ok_size hm
    have hrd : rdInt ((bts m.code).drop 0) = some ((crc m.body : Int), (enc (crc m.body : Int)).length) := by rw [bts_code, List.drop_zero]; exact rdInt_enc (okCrc _) _
    have e1 := int_yes (a := 0) hcs (by omega) hrd
    rw [Nat.zero_add] at e1
    refine CallH.pure e1 ⟨_, _, _, rfl, rfl, yes' rfl ?_⟩
    have hsz : m.code.size = (enc (crc m.body : Int)).length + m.body.length := by rw [← bts_len, bts_code, sealL, List.length_append]
    have hbp : 0 < m.body.length := by
      unfold MS.body
      rw [List.length_append]
      have := enc_pos m.k
      omega
    refine no (by omega) fun B1 r => ?_
    have hw : IntKind.i64.wrap ((m.code.size : Int) - ((enc (crc m.body : Int)).length : Int)) = (m.body.length : Int) := by rw [wi64 (by omega)]; omega
    rw [hw]
    refine CallH.pure (pick_c at' m.body.length ha (by omega)) ⟨_, rfl, rfl, ?_⟩
    have hp : pickN at' % m.body.length < m.body.length := Nat.mod_lt _ hbp
    rintro kv hkv
    rw [wi64 (by omega)] at hkv
    have hkv' : kv = ((((enc (crc m.body : Int)).length + pickN at' % m.body.length) : Nat) : Int) := by rw [hkv]; omega
    subst hkv'
    have hcode : m.code.data.toList = enc (crc m.body : Int) ++ m.body := bts_code m
    rw [hcode]
    refine ch_loop hg hm rfl hsz hp 4 0 m.body 0 false (by omega) ⟨rfl, by decide, ?_, (fun h => by cases h), fun _ => ⟨rfl, rfl⟩⟩
    rw [steps_zero, Nat.xor_zero]
  · rw [encR_no hm]
    exact no' (show ¬ (200 : Int) = 0 by decide) (finPure rfl)
end Go.Eng
