/- Contracts and plain laws for the proof; no claim of its own. -/
import Derived.Test.YtgplckfjbdnedaaDoorMsgC5
import Derived.Test.YtgplckfjbdnedaaDoorEngM5
import Derived.Test.YtgplckfjbdnedaaDoorEngM6
namespace Go.Eng
open Go Go.RowKit Go.Proofs Wire
set_option linter.unusedVariables false

/-! ### Plain laws -/
theorem body_split {m n : MS} (hm : m.Ok) (hn : n.Ok) {r s : List UInt8} (h : m.body ++ r = n.body ++ s) : m = n ∧ r = s := by
  obtain ⟨a1, a2, a3, a4, a5, a6, a7⟩ := hm.ints
  obtain ⟨b1, b2, b3, b4, b5, b6, b7⟩ := hn.ints
  obtain ⟨k, p, q, t, b, v, d⟩ := m
  obtain ⟨k', p', q', t', b', v', d'⟩ := n
  simp only [MS.body, List.append_assoc] at *
  have e := enc_prefix a1 b1 h
  subst e
  have h := List.append_cancel_left h
  have e := enc_prefix a2 b2 h
  subst e
  have h := List.append_cancel_left h
  have e := enc_prefix a3 b3 h
  subst e
  have h := List.append_cancel_left h
  have e := enc_prefix a4 b4 h
  subst e
  have h := List.append_cancel_left h
  have e := enc_prefix a5 b5 h
  subst e
  have h := List.append_cancel_left h
  have e := enc_prefix a6 b6 h
  subst e
  have h := List.append_cancel_left h
  have e := encS_prefix (by rw [bts_len]; exact a7) (by rw [bts_len]; exact b7) h
  rw [e] at h
  exact ⟨by rw [bts_inj e], List.append_cancel_left h⟩
theorem seal_split {m n : MS} (hm : m.Ok) (hn : n.Ok) {r s : List UInt8} (h : sealL m.body ++ r = sealL n.body ++ s) : m = n ∧ r = s := by
  unfold sealL at h
  rw [List.append_assoc, List.append_assoc] at h
  have e := enc_prefix (okCrc _) (okCrc _) h
  rw [e] at h
  exact body_split hm hn (List.append_cancel_left h)

theorem fld_enc {l r : List UInt8} {a : Nat} {n : Int} {K : Int → Nat → Except Int MS} (hn : okInt n) (h : l.drop a = enc n ++ r) : fld l a K = K n (a + (enc n).length) ∧ l.drop (a + (enc n).length) = r := by
  refine ⟨fld_some (rdInt_some hn h), ?_⟩
  rw [← List.drop_drop, h, List.drop_left]
theorem fld_ok {l : List UInt8} {a : Nat} {K : Int → Nat → Except Int MS} {m : MS} (h : fld l a K = .ok m) : ∃ n k, l.drop a = enc n ++ l.drop k ∧ okInt n ∧ K n k = .ok m := by
  unfold fld at h
  split at h
  · cases h
  · next n k hr =>
    refine ⟨n, a + k, ?_, (rdInt_inv hr).1, h⟩
    have := rdInt_split hr
    rw [List.drop_drop] at this
    exact this
theorem decode_ok {m : MS} (hm : m.Ok) : decode (sealL m.body) = .ok m := by
  obtain ⟨a1, a2, a3, a4, a5, a6, a7⟩ := hm.ints
  unfold decode
  obtain ⟨e0, d0⟩ := fld_enc (l := sealL m.body) (a := 0) (r := m.body) (K := fun sum a => if sum = (crc ((sealL m.body).drop a) : Int) then fields (sealL m.body) a else .error 200) (okCrc m.body) rfl
  rw [e0, d0, if_pos rfl]
  unfold fields
  generalize sealL m.body = l at *
  generalize 0 + (enc (crc m.body : Int)).length = a at *
  unfold MS.body at d0
  obtain ⟨e1, d1⟩ := fld_enc (K := fun k a => fld l a fun p a => fld l a fun q a => fld l a fun t a => fld l a fun b a => fld l a fun v a => fin6 l k p q t b v a) a1 d0
  rw [e1]
  obtain ⟨e2, d2⟩ := fld_enc (K := fun p a => fld l a fun q a => fld l a fun t a => fld l a fun b a => fld l a fun v a => fin6 l m.k p q t b v a) a2 d1
  rw [e2]
  obtain ⟨e3, d3⟩ := fld_enc (K := fun q a => fld l a fun t a => fld l a fun b a => fld l a fun v a => fin6 l m.k m.p q t b v a) a3 d2
  rw [e3]
  obtain ⟨e4, d4⟩ := fld_enc (K := fun t a => fld l a fun b a => fld l a fun v a => fin6 l m.k m.p m.q t b v a) a4 d3
  rw [e4]
  obtain ⟨e5, d5⟩ := fld_enc (K := fun b a => fld l a fun v a => fin6 l m.k m.p m.q m.t b v a) a5 d4
  rw [e5]
  obtain ⟨e6, d6⟩ := fld_enc (K := fun v a => fin6 l m.k m.p m.q m.t m.b v a) a6 d5
  rw [e6]
  have hb : ba (bts m.d) = m.d := mk_bts m.d
  have hs := rdStr_enc (t := bts m.d) (by rw [bts_len]; exact a7) []
  rw [List.append_nil, ← d6] at hs
  unfold fin6
  rw [hs]
  simp only
  rw [hb, if_neg, if_pos hm]
  rw [List.length_drop]
  omega
theorem decode_inv {l : List UInt8} {m : MS} (h : decode l = .ok m) : m.Ok ∧ l = sealL m.body := by
  unfold decode at h
  obtain ⟨n0, a, d0, o0, h⟩ := fld_ok h
  split at h
  · next hs =>
    unfold fields at h
    obtain ⟨k, a1, d1, o1, h⟩ := fld_ok h
    obtain ⟨p, a2, d2, o2, h⟩ := fld_ok h
    obtain ⟨q, a3, d3, o3, h⟩ := fld_ok h
    obtain ⟨t, a4, d4, o4, h⟩ := fld_ok h
    obtain ⟨b, a5, d5, o5, h⟩ := fld_ok h
    obtain ⟨v, a6, d6, o6, h⟩ := fld_ok h
    unfold fin6 at h
    split at h
    · cases h
    · next d n hr =>
      split at h
      · cases h
      · next hlt =>
        split at h
        · next hok =>
          simp only [Except.ok.injEq] at h
          subst h
          refine ⟨hok, ?_⟩
          have h7 := rdStr_split hr
          have hz : (l.drop a6).drop n = [] := by rw [List.drop_drop]; exact List.drop_of_length_le (by omega)
          rw [hz, List.append_nil] at h7
          have hb : (MS.mk k p q t b v (ba d)).body = l.drop a := by
            simp only [MS.body]
            rw [bts_mk, ← h7, ← d6, ← d5, ← d4, ← d3, ← d2, ← d1]
          rw [sealL, hb, ← hs, ← d0, List.drop_zero]
        · cases h
  · cases h
theorem decode_err {l : List UInt8} {c : Int} (h : decode l = .error c) : c = 10 ∨ c = 200 := by
  have fe : ∀ {a : Nat} {K : Int → Nat → Except Int MS} {c : Int}, fld l a K = .error c → c = 10 ∨ ∃ n k, K n k = .error c := by
    intro a K c h
    unfold fld at h
    split at h
    · simp only [Except.error.injEq] at h; exact .inl h.symm
    · exact .inr ⟨_, _, h⟩
  unfold decode at h
  rcases fe h with h | ⟨_, _, h⟩
  · exact .inl h
  split at h
  · unfold fields at h
    rcases fe h with h | ⟨_, _, h⟩
    · exact .inl h
    rcases fe h with h | ⟨_, _, h⟩
    · exact .inl h
    rcases fe h with h | ⟨_, _, h⟩
    · exact .inl h
    rcases fe h with h | ⟨_, _, h⟩
    · exact .inl h
    rcases fe h with h | ⟨_, _, h⟩
    · exact .inl h
    rcases fe h with h | ⟨_, _, h⟩
    · exact .inl h
    unfold fin6 at h
    split at h
    · simp only [Except.error.injEq] at h; exact .inl h.symm
    · split at h
      · simp only [Except.error.injEq] at h; exact .inl h.symm
      · split at h
        · cases h
        · simp only [Except.error.injEq] at h; exact .inr h.symm
  · simp only [Except.error.injEq] at h; exact .inr h.symm

/-! ### The values, by their parts -/
def resM : Except Int MS → MS × Int
  | .error c => (MS.zero, c)
  | .ok m => (m, 0)
theorem decV_eq (D : Except Int MS) : decV D = .tuple #[(resM D).1.val, .int .i64 (resM D).2] := by cases D <;> rfl
def encR (m : MS) : ByteArray × Int := if m.Ok then (m.code, 0) else (⟨#[]⟩, 200)
theorem encAns_eq (m : MS) : m.encAns = .tuple #[.string (encR m).1, .int .i64 (encR m).2] := by
  rw [MS.encAns, encR]; split <;> rfl
abbrev MS.cells (m : MS) : List Value := [.int .i64 m.k, .int .i64 m.p, .int .i64 m.q, .int .i64 m.t, .int .i64 m.b, .int .i64 m.v, .string m.d]
theorem cells_self (m : MS) : eqCells m.cells m.cells = true := by
  have : (m.d.toList == m.d.toList) = true := (strEq_iff _ _).2 rfl
  simp [eqCells, eq1]
theorem cells_eq {m n : MS} : eqCells m.cells n.cells = true ↔ m = n := by
  constructor
  · intro h
    have := eqCells_spec h
    obtain ⟨k, p, q, t, b, v, d⟩ := m
    obtain ⟨k', p', q', t', b', v', d'⟩ := n
    simp only [List.cons.injEq, Value.int.injEq, Value.string.injEq, true_and, and_true] at this
    obtain ⟨rfl, rfl, rfl, rfl, rfl, rfl, rfl⟩ := this
    rfl
  · rintro rfl; exact cells_self m
theorem enc_M (m : MS) : PureM 12 ⟨[m.val]⟩ (.tuple #[.string (encR m).1, .int .i64 (encR m).2]) := by
  have := PureM.ofG (mEncode_c m)
  rw [encAns_eq] at this
  exact this
theorem qenc_M (m : MS) : PureC Tryd.prog 13 ⟨[m.val]⟩ (.tuple #[.string (encR m).1, .int .i64 (encR m).2]) := by
  have := qEncode_c m
  rw [encAns_eq] at this
  exact this
theorem dec_M {s : ByteArray} (hs : s.size < 4611686018427387904) : PureM 16 ⟨[.string s]⟩ (.tuple #[(resM (decode (bts s))).1.val, .int .i64 (resM (decode (bts s))).2]) := by
  have := mDecode_c hs
  rw [decV_eq] at this
  exact this
theorem qdec_M {s : ByteArray} (hs : s.size < 4611686018427387904) : PureC Tryd.prog 17 ⟨[.string s]⟩ (.tuple #[(resM (decode (bts s))).1.val, .int .i64 (resM (decode (bts s))).2]) := by
  have := qDecode_c hs
  rw [decV_eq] at this
  exact this
theorem encR_ok {m : MS} (h : m.Ok) : encR m = (m.code, 0) := by rw [encR, if_pos h]
theorem encR_no {m : MS} (h : ¬ m.Ok) : encR m = (⟨#[]⟩, 200) := by rw [encR, if_neg h]
theorem dec_code {m : MS} (h : m.Ok) : decode (bts m.code) = .ok m := by rw [MS.code, bts_mk]; exact decode_ok h
theorem code_size {m : MS} : m.code.size ≤ m.d.size + 80 := by
  rw [MS.code, ba_size, sealL, List.length_append]
  have := body_len m
  have := enc_len (crc m.body : Int)
  omega

/-! ### sane -/
def exM : MS := ⟨3, 1, 1, 1, 0, 7, ⟨#[]⟩⟩
def exN : MS := ⟨3, 1, 0, 1, 0, 7, ⟨#[]⟩⟩
theorem exM_ok : exM.Ok := by decide
theorem exN_no : ¬ exN.Ok := by decide
theorem sane_c : PureM 10 ⟨[]⟩ (.bool true) := by
  intro W hg
  refine msane_vc (Mem.start [] W) fun B => ?_
  have e1 := enc_M exM
  rw [encR_ok exM_ok] at e1
  refine CallH.pureM e1 (by simp) (by simp) hg ⟨_, _, rfl, rfl, ?_⟩
  have hsz := code_size (m := exM)
  have e2 := dec_M (s := exM.code) (by have : exM.d.size = 0 := rfl; omega)
  rw [dec_code exM_ok] at e2
  refine CallH.pureM e2 (by simp) (by simp) hg ⟨_, _, _, _, _, _, _, _, rfl, rfl, fun B1 => ?_⟩
  have e3 := enc_M exN
  rw [encR_no exN_no] at e3
  refine CallH.pureM e3 (by simp) (by simp) hg ⟨_, _, rfl, rfl, ?_⟩
  have e4 := dec_M (s := ⟨#[]⟩) (by decide)
  have d4 : decode (bts ⟨#[]⟩) = .error 10 := by rfl
  rw [d4] at e4
  refine CallH.pureM e4 (by simp) (by simp) hg ⟨_, _, _, _, _, _, _, _, rfl, rfl, fun B2 => ?_⟩
  refine yes rfl (yes rfl (yes rfl (yes rfl (yes rfl (yes rfl ?_)))))
  refine CallH.pure (mValid_c exM) ⟨_, rfl, rfl, tt (decide_eq_true exM_ok) ?_⟩
  refine CallH.pure (mValid_c exN) ⟨_, rfl, rfl, ff (decide_eq_false exN_no) ?_⟩
  exact finPure rfl

/-! ### The laws that compare with the reference -/
theorem LEnc_c (m : MS) : PureM 3 ⟨[m.val]⟩ (.bool true) := by
  intro W hg
  refine LEnc_vc m.k m.p m.q m.t m.b m.v m.d (Mem.start [] W) fun B => ?_
  refine CallH.pureM sane_c (by simp) (by simp) hg ⟨_, rfl, rfl, ?_⟩
  refine CallH.pure (short_c m) ⟨_, _, _, _, _, _, _, rfl, rfl, ?_⟩
  refine CallH.pureM (enc_M m.short) (by simp) (by simp) hg ⟨_, _, rfl, rfl, ?_⟩
  refine CallH.pure (qenc_M m.short) ⟨_, _, rfl, rfl, tt rfl (yes rfl (yes rfl ?_))⟩
  refine ⟨_, QCall.of (mValid_c m.short), _, QCall.of (qValid_c m.short), ?_⟩
  exact ⟨fun h => ⟨fun _ => finPure rfl, fun h' => (by rw [h] at h'; cases h')⟩, fun h => ⟨fun h' => (by rw [h] at h'; cases h'), fun _ => finPure rfl⟩⟩

theorem cut_size (s : ByteArray) : (s.extract 0 (Int.toNat (if (20000 : Int) < (s.size : Int) then (20000 : Int) else (s.size : Int)))).size ≤ 20000 := by
  rw [← bts_len, bts_extract, List.length_take]
  split <;> omega
theorem LDec_c (s : ByteArray) : PureM 4 ⟨[.string s]⟩ (.bool true) := by
  intro W hg
  refine LDec_vc s (Mem.start [] W) ?_
  refine CallH.pureM sane_c (by simp) (by simp) hg ⟨_, rfl, rfl, by split <;> omega, ?_⟩
  rintro s1 hs1
  have hs : s1.size < 4611686018427387904 := by have := cut_size s; rw [← hs1] at this; omega
  refine CallH.pureM (dec_M hs) (by simp) (by simp) hg ⟨_, _, _, _, _, _, _, _, rfl, rfl, fun B => ?_⟩
  refine CallH.pure (qdec_M hs) ⟨_, _, _, _, _, _, _, _, rfl, rfl, fun B1 => tt rfl (tt (cells_self _) ?_)⟩
  exact finPure (by simp)
theorem LSealed_c (s : ByteArray) : PureM 5 ⟨[.string s]⟩ (.bool true) := by
  intro W hg
  refine LSealed_vc s (Mem.start [] W) ?_
  refine CallH.pureM sane_c (by simp) (by simp) hg ⟨_, rfl, rfl, by split <;> omega, ?_⟩
  rintro s1 hs1
  have hs : s1.size ≤ 20000 := by have := cut_size s; rw [← hs1] at this; omega
  refine CallH.pureG (Sum_c s1 (by omega)) (by simp) hg.1 ⟨_, rfl, rfl, ?_⟩
  have hl := enc_len (crc (bts s1) : Int)
  refine CallH.pure (putI (okCrc (bts s1))) ⟨_, _, rfl, rfl, by rw [ba_size]; omega, ?_⟩
  have hz : (ba (enc (crc (bts s1) : Int)) ++ s1).size < 4611686018427387904 := by rw [size_append, ba_size]; omega
  refine CallH.pureM (dec_M hz) (by simp) (by simp) hg ⟨_, _, _, _, _, _, _, _, rfl, rfl, fun B => ⟨by rw [ba_size]; omega, ?_⟩⟩
  refine CallH.pure (qdec_M hz) ⟨_, _, _, _, _, _, _, _, rfl, rfl, fun B1 => tt rfl (tt (cells_self _) ?_)⟩
  exact finPure (by simp)
end Go.Eng
