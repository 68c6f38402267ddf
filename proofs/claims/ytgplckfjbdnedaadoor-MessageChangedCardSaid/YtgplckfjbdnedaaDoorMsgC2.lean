/- Contracts and plain laws for the proof; no claim of its own. -/
import Derived.Test.YtgplckfjbdnedaaDoorMsgC1
import Derived.Test.YtgplckfjbdnedaaDoorEngM2
namespace Go.Eng
open Go Go.RowKit Go.Proofs Wire
set_option linter.unusedVariables false

theorem putI {n : Int} (h : okInt n) : PureC Tryd.prog 18 ⟨[.int .i64 n]⟩ (.tuple #[.string (ba (enc n)), .int .i64 0]) := by
  have := PutInt_c n
  rw [putAns, if_pos h] at this
  exact this
theorem rputI {n : Int} (h : okInt n) : PureC Tryd.prog 24 ⟨[.int .i64 n]⟩ (.tuple #[.string (ba (enc n)), .int .i64 0]) := by
  have := rPutInt_c n
  rw [putAns, if_pos h] at this
  exact this
theorem encSB_ba (s : ByteArray) : encSB s = ba (encS (bts s)) := bts_inj (by rw [encSB, bts_append, bts_mk, encS, bts_len]; rfl)
theorem putS {s : ByteArray} (h : s.size ≤ 65536) : PureC Tryd.prog 22 ⟨[.string s]⟩ (.tuple #[.string (ba (encS (bts s))), .int .i64 0]) := by
  have := PutString_c s
  rw [putSAns, if_pos h, encSB_ba] at this
  exact this
theorem rputS {s : ByteArray} (h : s.size ≤ 65536) : PureC Tryd.prog 34 ⟨[.string s]⟩ (.tuple #[.string (ba (encS (bts s))), .int .i64 0]) := by
  have := rPutString_c s
  rw [putSAns, if_pos h, encSB_ba] at this
  exact this

theorem mEncode_c (m : MS) : PureG Tryd.prog 12 ⟨[m.val]⟩ 0 tabV m.encAns := by
  intro W hw
  refine mEncode_vc m.k m.p m.q m.t m.b m.v m.d (Mem.start [] W) fun B => ?_
  refine CallH.pure (mValid_c m) ⟨_, rfl, rfl, fun h => ?_, fun h => ?_⟩
  · have hok : m.Ok := of_decide_eq_true h
    obtain ⟨h1, h2, h3, h4, h5, h6, h7⟩ := hok.ints
    have l1 := enc_len m.k
    have l2 := enc_len m.p
    have l3 := enc_len m.q
    have l4 := enc_len m.t
    have l5 := enc_len m.b
    have l6 := enc_len m.v
    have l7 := encS_len (bts m.d)
    rw [bts_len] at l7
    refine CallH.pure (putI h1) ⟨_, _, rfl, rfl, by show 0 + (ba (enc m.k)).size ≤ _; rw [ba_size]; omega, ?_⟩
    rintro _ rfl
    rw [nil_ba]
    refine CallH.pure (putI h2) ⟨_, _, rfl, rfl, by simp only [ba_size]; omega, ?_⟩
    rintro _ rfl
    rw [ba_append]
    refine CallH.pure (putI h3) ⟨_, _, rfl, rfl, by simp only [ba_size, List.length_append]; omega, ?_⟩
    rintro _ rfl
    rw [ba_append]
    refine CallH.pure (putI h4) ⟨_, _, rfl, rfl, by simp only [ba_size, List.length_append]; omega, ?_⟩
    rintro _ rfl
    rw [ba_append]
    refine CallH.pure (putI h5) ⟨_, _, rfl, rfl, by simp only [ba_size, List.length_append]; omega, ?_⟩
    rintro _ rfl
    rw [ba_append]
    refine CallH.pure (putI h6) ⟨_, _, rfl, rfl, by simp only [ba_size, List.length_append]; omega, ?_⟩
    rintro _ rfl
    rw [ba_append]
    refine CallH.pure (putS h7) ⟨_, _, rfl, rfl, by simp only [ba_size, List.length_append]; omega, ?_⟩
    rintro _ rfl
    rw [ba_append]
    have hb : enc m.k ++ enc m.p ++ enc m.q ++ enc m.t ++ enc m.b ++ enc m.v ++ encS (bts m.d) = m.body := by simp [MS.body]
    rw [hb]
    have hl := body_len m
    refine CallH.pureG (Sum_c (ba m.body) (by rw [ba_size]; omega)) (by simp) hw ⟨_, rfl, rfl, ?_⟩
    rw [bts_mk]
    have hc := enc_len (crc m.body : Int)
    refine CallH.pure (putI (okCrc _)) ⟨_, _, rfl, rfl, by simp only [ba_size]; omega, ?_⟩
    rintro _ rfl
    rw [ba_append]
    exact finPure (by rw [MS.encAns, if_pos hok]; rfl)
  · have hok : ¬ m.Ok := of_decide_eq_false h
    exact finPure (by rw [MS.encAns, if_neg hok])

theorem qBody_c {m : MS} (hok : m.Ok) : PureC Tryd.prog 23 ⟨[m.val]⟩ (.string (ba m.body)) := by
  intro W
  refine qBody_vc m.k m.p m.q m.t m.b m.v m.d (Mem.start [] W) fun B B1 => ?_
  obtain ⟨h1, h2, h3, h4, h5, h6, h7⟩ := hok.ints
  have step : ∀ (i : Nat) (x : Int) (out : List UInt8), i < 6 → ([.int .i64 m.k, .int .i64 m.p, .int .i64 m.q, .int .i64 m.t, .int .i64 m.b, .int .i64 m.v] : List Value)[i]? = some (.int .i64 x) → okInt x → out.length ≤ 100 →
      qBody_c0 B B1 6 6 (ba (out ++ enc x)) ((i + 1 : Nat) : Int) [.int .i64 m.k, .int .i64 m.p, .int .i64 m.q, .int .i64 m.t, .int .i64 m.b, .int .i64 m.v, .string m.d] m.k m.p m.q m.t m.b m.v W (fun e W' => e = .returned (.string (ba m.body)) ∧ Below W.heap.size W W') →
      qBody_c0 B B1 6 6 (ba out) (i : Int) [.int .i64 m.k, .int .i64 m.p, .int .i64 m.q, .int .i64 m.t, .int .i64 m.b, .int .i64 m.v, .string m.d] m.k m.p m.q m.t m.b m.v W (fun e W' => e = .returned (.string (ba m.body)) ∧ Below W.heap.size W W') := by
    intro i x out hi hx hox hout h
    apply qBody_c0_vc
    have hl := enc_len x
    refine yes (by omega) ⟨by omega, x, by rw [Int.toNat_natCast]; exact hx, ?_⟩
    refine CallH.pure (rputI hox) ⟨_, _, rfl, rfl, by simp only [ba_size]; omega, ?_⟩
    rintro _ rfl
    rintro _ rfl
    rw [ba_append, wi64 (by omega), show (i : Int) + 1 = ((i + 1 : Nat) : Int) by omega]
    exact h
  have l1 := enc_len m.k
  have l2 := enc_len m.p
  have l3 := enc_len m.q
  have l4 := enc_len m.t
  have l5 := enc_len m.b
  have l6 := enc_len m.v
  have l7 := encS_len (bts m.d)
  rw [bts_len] at l7
  refine step 0 m.k [] (by omega) rfl h1 (by simp) ?_
  refine step 1 m.p _ (by omega) rfl h2 (by simp only [List.length_append, List.length_nil]; omega) ?_
  refine step 2 m.q _ (by omega) rfl h3 (by simp only [List.length_append, List.length_nil]; omega) ?_
  refine step 3 m.t _ (by omega) rfl h4 (by simp only [List.length_append, List.length_nil]; omega) ?_
  refine step 4 m.b _ (by omega) rfl h5 (by simp only [List.length_append, List.length_nil]; omega) ?_
  refine step 5 m.v _ (by omega) rfl h6 (by simp only [List.length_append, List.length_nil]; omega) ?_
  apply qBody_c0_vc
  refine no (by omega) ⟨m.d, rfl, ?_⟩
  refine CallH.pure (rputS h7) ⟨_, _, rfl, rfl, by simp only [ba_size, List.length_append, List.length_nil]; omega, ?_⟩
  rintro _ rfl
  rw [ba_append]
  exact finPure (by simp [MS.body])

theorem qEncode_c (m : MS) : PureC Tryd.prog 13 ⟨[m.val]⟩ m.encAns := by
  intro W
  refine qEncode_vc m.k m.p m.q m.t m.b m.v m.d (Mem.start [] W) fun B => ?_
  refine CallH.pure (qValid_c m) ⟨_, rfl, rfl, fun h => ?_, fun h => ?_⟩
  · have hok : m.Ok := of_decide_eq_true h
    have hl := body_len m
    have hds : m.d.size ≤ 65536 := hok.ints.2.2.2.2.2.2
    refine CallH.pure (qBody_c hok) ⟨_, rfl, rfl, ?_⟩
    refine CallH.pure (rSum_c (ba m.body) (by rw [ba_size]; omega)) ⟨_, rfl, rfl, ?_⟩
    rw [bts_mk]
    have hc := enc_len (crc m.body : Int)
    refine CallH.pure (rputI (okCrc _)) ⟨_, _, rfl, rfl, by simp only [ba_size]; omega, ?_⟩
    rintro _ rfl
    rw [ba_append]
    exact finPure (by rw [MS.encAns, if_pos hok]; rfl)
  · have hok : ¬ m.Ok := of_decide_eq_false h
    exact finPure (by rw [MS.encAns, if_neg hok])
end Go.Eng
