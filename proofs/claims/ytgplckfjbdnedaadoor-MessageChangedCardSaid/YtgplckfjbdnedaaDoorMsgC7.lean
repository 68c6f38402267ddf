/- Contracts and plain laws for the proof; no claim of its own. -/
import Derived.Test.YtgplckfjbdnedaaDoorMsgC6
import Derived.Test.YtgplckfjbdnedaaDoorEngM7
import Derived.Test.YtgplckfjbdnedaaDoorEngM8
namespace Go.Eng
open Go Go.RowKit Go.Proofs Wire
set_option linter.unusedVariables false

theorem code_inj {m n : MS} (hm : m.Ok) (hn : n.Ok) : m.code = n.code ↔ m = n := by
  constructor
  · intro h
    have h1 := dec_code hm
    rw [h, dec_code hn] at h1
    simpa using h1.symm
  · rintro rfl; rfl
theorem ok_size {m : MS} (h : m.Ok) : m.code.size < 4611686018427387904 := by
  have := code_size (m := m)
  have := h.ints.2.2.2.2.2.2
  omega
theorem cells_ne {m n : MS} (h : ¬ m = n) : eqCells m.cells n.cells = false := by
  cases hb : eqCells m.cells n.cells with
  | false => rfl
  | true => exact absurd (cells_eq.1 hb) h

theorem LRound_c (m n : MS) : PureM 6 ⟨[m.val, n.val]⟩ (.bool true) := by
  intro W hg
  refine LRound_vc m.k m.p m.q m.t m.b m.v m.d n.k n.p n.q n.t n.b n.v n.d (Mem.start [] W) fun B B1 => ?_
  refine CallH.pureM sane_c (by simp) (by simp) hg ⟨_, rfl, rfl, ?_⟩
  refine ⟨_, _, _, _, _, _, _, QCall.of (short_c m), _, _, _, _, _, _, _, QCall.of (short_c n), ?_⟩
  generalize m.short = m
  generalize n.short = n
  refine CallH.pureM (enc_M m) (by simp) (by simp) hg ⟨_, _, rfl, rfl, ?_⟩
  refine CallH.pureM (enc_M n) (by simp) (by simp) hg ⟨_, _, rfl, rfl, ?_⟩
  refine CallH.pure (mValid_c m) ⟨_, rfl, rfl, ?_⟩
  by_cases hm : m.Ok
  · have hv : m.valid = true := decide_eq_true hm
    rw [encR_ok hm]
    refine yes rfl (tt hv ?_)
    have e := dec_M (ok_size hm)
    rw [dec_code hm] at e
    refine CallH.pureM e (by simp) (by simp) hg ⟨_, _, _, _, _, _, _, _, rfl, rfl, fun B2 => tt rfl (tt (cells_self m) (yes rfl ?_))⟩
    by_cases hn : n.Ok
    · rw [encR_ok hn]
      refine yes' rfl ?_
      by_cases e : m = n
      · exact yes ((code_inj hm hn).2 e) (tt (cells_eq.2 e) (finPure rfl))
      · exact no (fun h => e ((code_inj hm hn).1 h)) (ff (cells_ne e) (finPure rfl))
    · rw [encR_no hn]
      exact no' (show ¬ (200 : Int) = 0 by decide) (finPure rfl)
  · have hv : m.valid = false := decide_eq_false hm
    rw [encR_no hm]
    exact no (show ¬ (200 : Int) = 0 by decide) (ff hv (yes' rfl (yes' rfl (finPure rfl))))

theorem LAgain_c (s : ByteArray) : PureM 7 ⟨[.string s]⟩ (.bool true) := by
  intro W hg
  refine LAgain_vc s (Mem.start [] W) ?_
  refine CallH.pureM sane_c (by simp) (by simp) hg ⟨_, rfl, rfl, by split <;> omega, ?_⟩
  rintro s1 hs1
  have hs : s1.size < 4611686018427387904 := by have := cut_size s; rw [← hs1] at this; omega
  have e := dec_M hs
  cases hD : decode (bts s1) with
  | error c =>
    rw [hD] at e
    have hc := decode_err hD
    refine CallH.pureM e (by simp) (by simp) hg ⟨_, _, _, _, _, _, _, _, rfl, rfl, fun B => no' (show ¬ c = 0 by omega) (tt rfl (tt (cells_self MS.zero) ⟨fun _ => finPure rfl, fun h => finPure ?_⟩))⟩
    have : c = 200 := by
      have h' : ¬ c = 10 := h
      omega
    subst this
    rfl
  | ok m =>
    rw [hD] at e
    obtain ⟨hok, hl⟩ := decode_inv hD
    have hse : s1 = m.code := bts_inj (by rw [hl, MS.code, bts_mk])
    refine CallH.pureM e (by simp) (by simp) hg ⟨_, _, _, _, _, _, _, _, rfl, rfl, fun B => yes' rfl ?_⟩
    have e2 := enc_M m
    rw [encR_ok hok] at e2
    refine CallH.pureM e2 (by simp) (by simp) hg ⟨_, _, rfl, rfl, tt rfl (yes hse (yes rfl ?_))⟩
    refine CallH.pure (mValid_c m) ⟨_, rfl, rfl, ?_⟩
    exact finPure (by rw [MS.valid, decide_eq_true hok])

theorem code_pos {m : MS} : 8 ≤ m.code.size := by
  rw [MS.code, ba_size, sealL, List.length_append]
  unfold MS.body
  simp only [List.length_append]
  have := enc_pos (crc (enc m.k ++ (enc m.p ++ (enc m.q ++ (enc m.t ++ (enc m.b ++ (enc m.v ++ encS (bts m.d))))))) : Int)
  have := enc_pos m.k
  have := enc_pos m.p
  have := enc_pos m.q
  have := enc_pos m.t
  have := enc_pos m.b
  have := enc_pos m.v
  have := encS_pos (bts m.d)
  omega
theorem bts_code (m : MS) : bts m.code = sealL m.body := by rw [MS.code, bts_mk]
theorem dec_more {m : MS} (hm : m.Ok) {t : ByteArray} (ht : ¬ t = ⟨#[]⟩) : ∃ c, decode (bts (m.code ++ t)) = .error c ∧ ¬ c = 0 := by
  cases hD : decode (bts (m.code ++ t)) with
  | error c => exact ⟨c, rfl, by have := decode_err hD; omega⟩
  | ok x =>
    obtain ⟨hx, hl⟩ := decode_inv hD
    rw [bts_append, bts_code] at hl
    have := (seal_split hm hx (r := bts t) (s := []) (by rw [hl, List.append_nil])).2
    exact absurd (bts_inj (by rw [this])) ht
theorem dec_less {m : MS} (hm : m.Ok) {k : Nat} (hk : k < m.code.size) : ∃ c, decode (bts (m.code.extract 0 k)) = .error c ∧ ¬ c = 0 := by
  cases hD : decode (bts (m.code.extract 0 k)) with
  | error c => exact ⟨c, rfl, by have := decode_err hD; omega⟩
  | ok x =>
    obtain ⟨hx, hl⟩ := decode_inv hD
    rw [bts_extract, bts_code, List.drop_zero, Nat.sub_zero] at hl
    have := (seal_split hm hx (r := []) (s := (sealL m.body).drop k) (by rw [← hl, List.take_append_drop, List.append_nil])).2
    have hl2 := congrArg List.length this
    rw [List.length_drop, List.length_nil] at hl2
    have : m.code.size = (sealL m.body).length := by rw [← bts_len, bts_code]
    omega

theorem LLength_c (m : MS) {n : Int} (hn : i64 n) (more : ByteArray) : PureM 9 ⟨[m.val, .int .i64 n, .string more]⟩ (.bool true) := by
  intro W hg
  refine LLength_vc m.k m.p m.q m.t m.b m.v m.d n more (Mem.start [] W) fun B => ?_
  refine CallH.pureM sane_c (by simp) (by simp) hg ⟨_, rfl, rfl, ?_⟩
  refine CallH.pure (short_c m) ⟨_, _, _, _, _, _, _, rfl, rfl, ?_⟩
  generalize m.short = m
  refine CallH.pureM (enc_M m) (by simp) (by simp) hg ⟨_, _, rfl, rfl, ?_⟩
  by_cases hm : m.Ok
  · rw [encR_ok hm]
    dsimp only
    refine yes' rfl ⟨by split <;> omega, ?_⟩
    rintro more1 hmore
    have hms : more1.size ≤ 20 := by
      rw [hmore, ← bts_len, bts_extract, List.length_take]
      split <;> omega
    have hcs := code_size (m := m)
    have hds := hm.ints.2.2.2.2.2.2
    have hcp := code_pos (m := m)
    refine ⟨by omega, ?_⟩
    have e1 := dec_M (s := m.code ++ more1) (by rw [size_append]; omega)
    refine CallH.pureM e1 (by simp) (by simp) hg ⟨_, _, _, _, _, _, _, _, rfl, rfl, fun B1 => ?_⟩
    refine CallH.pure (pick_c n 4 hn (by decide)) ⟨_, rfl, rfl, ?_⟩
    have hp : pickN n % 4 < 4 := Nat.mod_lt _ (by decide)
    rintro kv hkv
    rw [wi64 (x := (m.code.size : Int) - 1) (by omega), wi64 (by omega)] at hkv
    refine no (by omega) ⟨by omega, ?_⟩
    obtain ⟨k, rfl⟩ : ∃ k : Nat, kv = k := ⟨kv.toNat, by omega⟩
    rw [Int.toNat_natCast]
    have hks : (m.code.extract 0 k).size < 4611686018427387904 := by rw [← bts_len, bts_extract, List.length_take]; omega
    have e2 := dec_M hks
    obtain ⟨c, hc, hc0⟩ := dec_less hm (k := k) (by omega)
    rw [hc] at e2
    refine CallH.pureM e2 (by simp) (by simp) hg ⟨_, _, _, _, _, _, _, _, rfl, rfl, fun B2 => tt rfl ?_⟩
    have hfin : (Value.bool (!decide ((resM (.error c)).2 = (0 : Int)))) = .bool true := by
      have : ¬ (resM (.error c)).2 = 0 := hc0
      rw [decide_eq_false this]; rfl
    by_cases ht : more1 = ⟨#[]⟩
    · have hd : decode (bts (m.code ++ more1)) = .ok m := by rw [bts_append, ht, bts_nil, List.append_nil, dec_code hm]
      rw [hd]
      exact yes rfl (yes ht (finPure hfin))
    · obtain ⟨c', hc', hc0'⟩ := dec_more hm ht
      rw [hc']
      exact no hc0' (no ht (finPure hfin))
  · rw [encR_no hm]
    exact no' (show ¬ (200 : Int) = 0 by decide) (finPure rfl)
end Go.Eng
