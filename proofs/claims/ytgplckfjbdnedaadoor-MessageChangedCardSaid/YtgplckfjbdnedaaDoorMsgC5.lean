/- Contracts and plain laws for the proof; no claim of its own. -/
import Derived.Test.YtgplckfjbdnedaaDoorMsgC4
namespace Go.Eng
open Go Go.RowKit Go.Proofs Wire
set_option linter.unusedVariables false

/-! ### The reference's Decode -/
theorem qDecode_c {s : ByteArray} (hs : s.size < 4611686018427387904) : PureC Tryd.prog 17 ⟨[.string s]⟩ (decV (decode (bts s))) := by
  intro W
  have hsz : (bts s).length = s.size := bts_len s
  generalize hD : decode (bts s) = D
  refine qDecode_vc s (Mem.start [] W) fun B => ?_
  unfold decode at hD
  have n10 : ¬ (10 : Int) = 0 := by decide
  cases h0 : rdInt ((bts s).drop 0) with
  | none =>
    rw [fld_none h0] at hD
    exact CallH.pure (rint_no (a := 0) hs (by omega) h0) ⟨_, _, _, rfl, rfl, no' n10 (finPure (by rw [← hD]; rfl))⟩
  | some r =>
  obtain ⟨sum, a⟩ := r
  rw [fld_some h0, Nat.zero_add] at hD
  have l0 := rd_le (by omega) h0
  rw [Nat.zero_add] at l0
  have c0 := rint_yes (a := 0) hs (by omega) h0
  rw [Nat.zero_add] at c0
  refine CallH.pure c0 ⟨_, _, _, rfl, rfl, yes' rfl ⟨by omega, ?_⟩⟩
  rw [Int.toNat_natCast]
  have hx : bts (s.extract a s.size) = (bts s).drop a := by rw [bts_extract, List.take_of_length_le (by rw [List.length_drop]; omega)]
  have hxs : (s.extract a s.size).size < 4611686018427387904 := by rw [← bts_len, hx, List.length_drop]; omega
  have c1 := rSum_c (s.extract a s.size) hxs
  rw [hx] at c1
  refine CallH.pure c1 ⟨_, rfl, rfl, ?_⟩
  by_cases hsum : (crc ((bts s).drop a) : Int) = sum
  case neg =>
    rw [if_neg (fun h => hsum h.symm)] at hD
    exact no' hsum (finPure (by rw [← hD]; rfl))
  rw [if_pos hsum.symm] at hD
  unfold fields at hD
  refine yes' hsum ?_
  cases h1 : rdInt ((bts s).drop a) with
  | none =>
    rw [fld_none h1] at hD
    exact CallH.pure (rint_no hs (by omega) h1) ⟨_, _, _, rfl, rfl, no' n10 (finPure (by rw [← hD]; rfl))⟩
  | some r =>
  obtain ⟨k, k1⟩ := r
  rw [fld_some h1] at hD
  have l1 := rd_le (by omega) h1
  refine CallH.pure (rint_yes hs (by omega) h1) ⟨_, _, _, rfl, rfl, yes' rfl fun B1 B2 cap1 r1 hc1 hl1 => ?_⟩
  generalize a + k1 = a1 at *
  cases h2 : rdInt ((bts s).drop a1) with
  | none =>
    rw [fld_none h2] at hD
    exact CallH.pure (rint_no hs (by omega) h2) ⟨_, _, _, rfl, rfl, no' n10 (finPure (by rw [← hD]; rfl))⟩
  | some r =>
  obtain ⟨p, k2⟩ := r
  rw [fld_some h2] at hD
  have l2 := rd_le (by omega) h2
  refine CallH.pure (rint_yes hs (by omega) h2) ⟨_, _, _, rfl, rfl, yes' rfl fun C2 => ⟨⟨hc1, hl1⟩, ⟨by omega, by omega⟩, fun D2 cap2 r2 hc2 hl2 => ?_⟩⟩
  generalize a1 + k2 = a2 at *
  cases h3 : rdInt ((bts s).drop a2) with
  | none =>
    rw [fld_none h3] at hD
    exact CallH.pure (rint_no hs (by omega) h3) ⟨_, _, _, rfl, rfl, no' n10 (finPure (by rw [← hD]; rfl))⟩
  | some r =>
  obtain ⟨q, k3⟩ := r
  rw [fld_some h3] at hD
  have l3 := rd_le (by omega) h3
  refine CallH.pure (rint_yes hs (by omega) h3) ⟨_, _, _, rfl, rfl, yes' rfl fun C3 => ⟨⟨hc2, hl2⟩, ⟨by omega, by omega⟩, fun D3 cap3 r3 hc3 hl3 => ?_⟩⟩
  generalize a2 + k3 = a3 at *
  cases h4 : rdInt ((bts s).drop a3) with
  | none =>
    rw [fld_none h4] at hD
    exact CallH.pure (rint_no hs (by omega) h4) ⟨_, _, _, rfl, rfl, no' n10 (finPure (by rw [← hD]; rfl))⟩
  | some r =>
  obtain ⟨t, k4⟩ := r
  rw [fld_some h4] at hD
  have l4 := rd_le (by omega) h4
  refine CallH.pure (rint_yes hs (by omega) h4) ⟨_, _, _, rfl, rfl, yes' rfl fun C4 => ⟨⟨hc3, hl3⟩, ⟨by omega, by omega⟩, fun D4 cap4 r4 hc4 hl4 => ?_⟩⟩
  generalize a3 + k4 = a4 at *
  cases h5 : rdInt ((bts s).drop a4) with
  | none =>
    rw [fld_none h5] at hD
    exact CallH.pure (rint_no hs (by omega) h5) ⟨_, _, _, rfl, rfl, no' n10 (finPure (by rw [← hD]; rfl))⟩
  | some r =>
  obtain ⟨b, k5⟩ := r
  rw [fld_some h5] at hD
  have l5 := rd_le (by omega) h5
  refine CallH.pure (rint_yes hs (by omega) h5) ⟨_, _, _, rfl, rfl, yes' rfl fun C5 => ⟨⟨hc4, hl4⟩, ⟨by omega, by omega⟩, fun D5 cap5 r5 hc5 hl5 => ?_⟩⟩
  generalize a4 + k5 = a5 at *
  cases h6 : rdInt ((bts s).drop a5) with
  | none =>
    rw [fld_none h6] at hD
    exact CallH.pure (rint_no hs (by omega) h6) ⟨_, _, _, rfl, rfl, no' n10 (finPure (by rw [← hD]; rfl))⟩
  | some r =>
  obtain ⟨v, k6⟩ := r
  rw [fld_some h6] at hD
  have l6 := rd_le (by omega) h6
  refine CallH.pure (rint_yes hs (by omega) h6) ⟨_, _, _, rfl, rfl, yes' rfl fun C6 => ⟨⟨hc5, hl5⟩, ⟨by omega, by omega⟩, fun D6 cap6 r6 hc6 hl6 => ?_⟩⟩
  generalize a5 + k6 = a6 at *
  unfold fin6 at hD
  cases h7 : rdStr ((bts s).drop a6) with
  | none =>
    rw [h7] at hD
    exact CallH.pure (rstr_no hs (by omega) h7) ⟨_, _, _, rfl, rfl, no' n10 (finPure (by rw [← hD]; rfl))⟩
  | some r =>
  obtain ⟨d, k7⟩ := r
  rw [h7] at hD
  simp only at hD
  have l7 := rs_le (by omega) h7
  refine CallH.pure (rstr_yes hs (by omega) h7) ⟨_, _, _, rfl, rfl, yes' rfl ?_⟩
  by_cases hlt : a6 + k7 < s.size
  · rw [if_pos (by rw [hsz]; exact hlt)] at hD
    exact no' (by omega) (finPure (by rw [← hD]; rfl))
  · rw [if_neg (by rw [hsz]; exact hlt)] at hD
    refine yes' (by omega) ⟨by omega, k, rfl, by omega, p, rfl, by omega, q, rfl, by omega, t, rfl, by omega, b, rfl, by omega, v, rfl, fun B13 => ?_⟩
    refine CallH.pure (qValid_c ⟨k, p, q, t, b, v, ba d⟩) ⟨_, rfl, rfl, fun hv => ?_, fun hv => ?_⟩
    · rw [if_pos (of_decide_eq_true hv)] at hD
      exact finPure (by rw [← hD]; rfl)
    · rw [if_neg (of_decide_eq_false hv)] at hD
      exact finPure (by rw [← hD]; rfl)
end Go.Eng
