/- Contracts and plain laws for the proof; no claim of its own. -/
import Derived.Test.YtgplckfjbdnedaaDoorMsgC3
import Derived.Test.YtgplckfjbdnedaaDoorEngM3
namespace Go.Eng
open Go Go.RowKit Go.Proofs Wire
set_option linter.unusedVariables false

/-! ### What Decode answers -/
def fld (l : List UInt8) (a : Nat) (K : Int → Nat → Except Int MS) : Except Int MS := match rdInt (l.drop a) with
  | none => .error 10
  | some (n, k) => K n (a + k)
def fin6 (l : List UInt8) (k p q t b v : Int) (a : Nat) : Except Int MS := match rdStr (l.drop a) with
  | none => .error 10
  | some (d, n) => if a + n < l.length then .error 10 else if (MS.mk k p q t b v (ba d)).Ok then .ok (MS.mk k p q t b v (ba d)) else .error 200
def fields (l : List UInt8) (a : Nat) : Except Int MS :=
  fld l a fun k a => fld l a fun p a => fld l a fun q a => fld l a fun t a => fld l a fun b a => fld l a fun v a => fin6 l k p q t b v a
def decode (l : List UInt8) : Except Int MS := fld l 0 fun sum a => if sum = (crc (l.drop a) : Int) then fields l a else .error 200
def decV : Except Int MS → Value
  | .error c => .tuple #[MS.zero.val, .int .i64 c]
  | .ok m => .tuple #[m.val, .int .i64 0]

theorem fld_none {l : List UInt8} {a : Nat} {K : Int → Nat → Except Int MS} (h : rdInt (l.drop a) = none) : fld l a K = .error 10 := by rw [fld, h]
theorem fld_some {l : List UInt8} {a : Nat} {K : Int → Nat → Except Int MS} {n : Int} {k : Nat} (h : rdInt (l.drop a) = some (n, k)) : fld l a K = K n (a + k) := by rw [fld, h]

/-! ### The readers, by cases -/
theorem rd_le {l : List UInt8} {a : Nat} (ha : a ≤ l.length) {n : Int} {k : Nat} (h : rdInt (l.drop a) = some (n, k)) : a + k ≤ l.length := by
  have := (rdInt_inv h).2.1
  rw [List.length_drop] at this; omega
theorem rs_le {l : List UInt8} {a : Nat} (ha : a ≤ l.length) {t : List UInt8} {k : Nat} (h : rdStr (l.drop a) = some (t, k)) : a + k ≤ l.length := by
  have := (rdStr_inv h).2.1
  rw [List.length_drop] at this; omega
theorem intAns_eq {s : ByteArray} {a : Nat} (ha : a ≤ s.size) : intAns s (a : Int) = intRes (rdInt ((bts s).drop a)) a := by
  rw [intAns, if_neg (by omega), Int.toNat_natCast]
theorem strAns_eq {s : ByteArray} {a : Nat} (ha : a ≤ s.size) : strAns s (a : Int) = strRes (rdStr ((bts s).drop a)) a := by
  rw [strAns, if_neg (by omega), Int.toNat_natCast]

section
variable {s : ByteArray} {a : Nat}
theorem int_no (hs : s.size < 4611686018427387904) (ha : a ≤ s.size) (h : rdInt ((bts s).drop a) = none) : PureC Tryd.prog 20 ⟨[.string s, .int .i64 (a : Int)]⟩ (.tuple #[.int .i64 0, .int .i64 0, .int .i64 10]) := by
  have := Int_c s a hs
  rw [intAns_eq ha, h] at this
  exact this
theorem int_yes (hs : s.size < 4611686018427387904) (ha : a ≤ s.size) {n : Int} {k : Nat} (h : rdInt ((bts s).drop a) = some (n, k)) : PureC Tryd.prog 20 ⟨[.string s, .int .i64 (a : Int)]⟩ (.tuple #[.int .i64 n, .int .i64 ((a + k : Nat) : Int), .int .i64 0]) := by
  have := Int_c s a hs
  rw [intAns_eq ha, h] at this
  exact this
theorem rint_no (hs : s.size < 4611686018427387904) (ha : a ≤ s.size) (h : rdInt ((bts s).drop a) = none) : PureC Tryd.prog 31 ⟨[.string s, .int .i64 (a : Int)]⟩ (.tuple #[.int .i64 0, .int .i64 0, .int .i64 10]) := by
  have := rInt_c s a hs
  rw [intAns_eq ha, h] at this
  exact this
theorem rint_yes (hs : s.size < 4611686018427387904) (ha : a ≤ s.size) {n : Int} {k : Nat} (h : rdInt ((bts s).drop a) = some (n, k)) : PureC Tryd.prog 31 ⟨[.string s, .int .i64 (a : Int)]⟩ (.tuple #[.int .i64 n, .int .i64 ((a + k : Nat) : Int), .int .i64 0]) := by
  have := rInt_c s a hs
  rw [intAns_eq ha, h] at this
  exact this
theorem str_no (hs : s.size < 4611686018427387904) (ha : a ≤ s.size) (h : rdStr ((bts s).drop a) = none) : PureC Tryd.prog 30 ⟨[.string s, .int .i64 (a : Int)]⟩ (.tuple #[.string ⟨#[]⟩, .int .i64 0, .int .i64 10]) := by
  have := String_c s a hs
  rw [strAns_eq ha, h] at this
  exact this
theorem str_yes (hs : s.size < 4611686018427387904) (ha : a ≤ s.size) {t : List UInt8} {k : Nat} (h : rdStr ((bts s).drop a) = some (t, k)) : PureC Tryd.prog 30 ⟨[.string s, .int .i64 (a : Int)]⟩ (.tuple #[.string (ba t), .int .i64 ((a + k : Nat) : Int), .int .i64 0]) := by
  have := String_c s a hs
  rw [strAns_eq ha, h] at this
  exact this
theorem rstr_no (hs : s.size < 4611686018427387904) (ha : a ≤ s.size) (h : rdStr ((bts s).drop a) = none) : PureC Tryd.prog 32 ⟨[.string s, .int .i64 (a : Int)]⟩ (.tuple #[.string ⟨#[]⟩, .int .i64 0, .int .i64 10]) := by
  have := rString_c s a hs
  rw [strAns_eq ha, h] at this
  exact this
theorem rstr_yes (hs : s.size < 4611686018427387904) (ha : a ≤ s.size) {t : List UInt8} {k : Nat} (h : rdStr ((bts s).drop a) = some (t, k)) : PureC Tryd.prog 32 ⟨[.string s, .int .i64 (a : Int)]⟩ (.tuple #[.string (ba t), .int .i64 ((a + k : Nat) : Int), .int .i64 0]) := by
  have := rString_c s a hs
  rw [strAns_eq ha, h] at this
  exact this
end

/-! ### Decode -/
def MsgG (W : World) : Prop := blkW W 0 = some tabV ∧ blkW W 1 = some [errT]
def PureM (g : FuncId) (args : Array Value) (v : Value) : Prop := ∀ W, MsgG W → Calls Tryd.prog g args W fun e W' => e = .returned v ∧ Below W.heap.size W W'
theorem PureM.of {g : FuncId} {args : Array Value} {v : Value} (h : PureC Tryd.prog g args v) : PureM g args v := fun W _ => h W
theorem PureM.ofG {g : FuncId} {args : Array Value} {v : Value} (h : PureG Tryd.prog g args 0 tabV v) : PureM g args v := fun W hg => h W hg.1
theorem CallH.pureM {L : SHeap} {S : List Nat} {w0 : World} {g : FuncId} {args : Array Value} {v : Value} {K : Value → SHeap → Prop} (h : PureM g args v) (h0 : 0 ∉ S) (h1 : 1 ∉ S) (hg : MsgG w0) (hK : K v L) : CallH Tryd.prog g args L S w0 K :=
  fun W hm => (h W ⟨blkW_kept hm.kept h0 hg.1, blkW_kept hm.kept h1 hg.2⟩).mono fun _ _ hh => ⟨v, L, hh.1, hm.after hh.2, hK⟩

theorem DCall.err {B C : Nat} {m : MS} {c x : Int} {L1 : SHeap} {w0 : World} (hg : MsgG w0) {K : FrameMode → SHeap → Prop} (hK : K (thrown x true) ([mB B MS.zero, cB C x] ++ L1)) :
    DCall Tryd.prog 27 ⟨[.pointer (some ⟨B, 0, none⟩), .pointer (some ⟨C, 0, none⟩)]⟩ ([mB B m, cB C c] ++ L1) [] w0 (thrown x false) K :=
  DCall.eff (decP_e B C m c x) (fun W hm => blkW_kept hm.kept (by simp) hg.2) (List.Perm.refl _) fun u' L' hk => ⟨_, List.Perm.refl _, by obtain ⟨rfl, rfl⟩ := hk; exact hK⟩
theorem DCall.ret {B C : Nat} {m : MS} {c : Int} {L1 : SHeap} {w0 : World} {K : FrameMode → SHeap → Prop} (hK : K .returning ([mB B m, cB C c] ++ L1)) :
    DCall Tryd.prog 27 ⟨[.pointer (some ⟨B, 0, none⟩), .pointer (some ⟨C, 0, none⟩)]⟩ ([mB B m, cB C c] ++ L1) [] w0 .returning K :=
  DCall.eff (decR_e B C m c) (fun _ _ => trivial) (List.Perm.refl _) fun u' L' hk => ⟨_, List.Perm.refl _, by obtain ⟨rfl, rfl⟩ := hk; exact hK⟩

theorem mDecode_c {s : ByteArray} (hs : s.size < 4611686018427387904) : PureM 16 ⟨[.string s]⟩ (decV (decode (bts s))) := by
  intro W hg
  have hsz : (bts s).length = s.size := bts_len s
  generalize hD : decode (bts s) = D
  refine mDecode_vc s (Mem.start [] W) fun B B1 => ?_
  have hE : ∀ {L1 : SHeap} {m : MS} {c x : Int}, D = .error x → DCall Tryd.prog 27 ⟨[.pointer (some ⟨B, 0, none⟩), .pointer (some ⟨B1, 0, none⟩)]⟩ ([mB B m, cB B1 c] ++ L1) [] W (thrown x false)
      (fun u' L' => u' = thrown x true ∧ L' = [mB B MS.zero, cB B1 x] ++ L1 ∧ Fin (fun e W' => e = .returned (decV D) ∧ Below W.heap.size W W') ([mB B MS.zero, cB B1 x] ++ L1) [] W (.tuple #[MS.zero.val, .int .i64 x])) := by
    rintro L1 m c x rfl
    exact DCall.err hg ⟨rfl, rfl, finPure rfl⟩
  unfold decode at hD
  cases h0 : rdInt ((bts s).drop 0) with
  | none =>
    rw [fld_none h0] at hD
    exact CallH.pure (int_no (a := 0) hs (by omega) h0) ⟨_, _, _, rfl, rfl, no' (show ¬ (10 : Int) = 0 by decide) (hE (L1 := []) (m := MS.zero) hD.symm)⟩
  | some r =>
    obtain ⟨sum, a⟩ := r
    rw [fld_some h0, Nat.zero_add] at hD
    have l0 := rd_le (by omega) h0
    rw [Nat.zero_add] at l0
    have c0 := int_yes (a := 0) hs (by omega) h0
    rw [Nat.zero_add] at c0
    refine CallH.pure c0 ⟨_, _, _, rfl, rfl, yes' rfl ⟨by omega, ?_⟩⟩
    rw [Int.toNat_natCast]
    have hx : bts (s.extract a s.size) = (bts s).drop a := by rw [bts_extract, List.take_of_length_le (by rw [List.length_drop]; omega)]
    have hxs : (s.extract a s.size).size < 4611686018427387904 := by rw [← bts_len, hx, List.length_drop]; omega
    have c1 := Sum_c (s.extract a s.size) hxs
    rw [hx] at c1
    refine CallH.pureG c1 (by simp) hg.1 ⟨_, rfl, rfl, ?_⟩
    by_cases hsum : sum = (crc ((bts s).drop a) : Int)
    · rw [if_pos hsum] at hD
      unfold fields at hD
      refine yes' hsum fun B2 => ?_
      cases h1 : rdInt ((bts s).drop a) with
      | none =>
        rw [fld_none h1] at hD
        exact CallH.pure (int_no hs (by omega) h1) ⟨_, _, _, rfl, rfl, no' (show ¬ (10 : Int) = 0 by decide) (hE (L1 := [_]) (m := MS.zero) hD.symm)⟩
      | some r =>
      obtain ⟨k, k1⟩ := r
      rw [fld_some h1] at hD
      have l1 := rd_le (by omega) h1
      refine CallH.pure (int_yes hs (by omega) h1) ⟨_, _, _, rfl, rfl, yes' rfl ?_⟩
      generalize a + k1 = a1 at *
      cases h2 : rdInt ((bts s).drop a1) with
      | none =>
        rw [fld_none h2] at hD
        exact CallH.pure (int_no hs (by omega) h2) ⟨_, _, _, rfl, rfl, no' (show ¬ (10 : Int) = 0 by decide) (hE (L1 := [_]) (m := MS.zero) hD.symm)⟩
      | some r =>
      obtain ⟨p, k2⟩ := r
      rw [fld_some h2] at hD
      have l2 := rd_le (by omega) h2
      refine CallH.pure (int_yes hs (by omega) h2) ⟨_, _, _, rfl, rfl, yes' rfl ?_⟩
      generalize a1 + k2 = a2 at *
      cases h3 : rdInt ((bts s).drop a2) with
      | none =>
        rw [fld_none h3] at hD
        exact CallH.pure (int_no hs (by omega) h3) ⟨_, _, _, rfl, rfl, no' (show ¬ (10 : Int) = 0 by decide) (hE (L1 := [_]) (m := MS.zero) hD.symm)⟩
      | some r =>
      obtain ⟨q, k3⟩ := r
      rw [fld_some h3] at hD
      have l3 := rd_le (by omega) h3
      refine CallH.pure (int_yes hs (by omega) h3) ⟨_, _, _, rfl, rfl, yes' rfl ?_⟩
      generalize a2 + k3 = a3 at *
      cases h4 : rdInt ((bts s).drop a3) with
      | none =>
        rw [fld_none h4] at hD
        exact CallH.pure (int_no hs (by omega) h4) ⟨_, _, _, rfl, rfl, no' (show ¬ (10 : Int) = 0 by decide) (hE (L1 := [_]) (m := MS.zero) hD.symm)⟩
      | some r =>
      obtain ⟨t, k4⟩ := r
      rw [fld_some h4] at hD
      have l4 := rd_le (by omega) h4
      refine CallH.pure (int_yes hs (by omega) h4) ⟨_, _, _, rfl, rfl, yes' rfl ?_⟩
      generalize a3 + k4 = a4 at *
      cases h5 : rdInt ((bts s).drop a4) with
      | none =>
        rw [fld_none h5] at hD
        exact CallH.pure (int_no hs (by omega) h5) ⟨_, _, _, rfl, rfl, no' (show ¬ (10 : Int) = 0 by decide) (hE (L1 := [_]) (m := MS.zero) hD.symm)⟩
      | some r =>
      obtain ⟨b, k5⟩ := r
      rw [fld_some h5] at hD
      have l5 := rd_le (by omega) h5
      refine CallH.pure (int_yes hs (by omega) h5) ⟨_, _, _, rfl, rfl, yes' rfl ?_⟩
      generalize a4 + k5 = a5 at *
      cases h6 : rdInt ((bts s).drop a5) with
      | none =>
        rw [fld_none h6] at hD
        exact CallH.pure (int_no hs (by omega) h6) ⟨_, _, _, rfl, rfl, no' (show ¬ (10 : Int) = 0 by decide) (hE (L1 := [_]) (m := MS.zero) hD.symm)⟩
      | some r =>
      obtain ⟨v, k6⟩ := r
      rw [fld_some h6] at hD
      have l6 := rd_le (by omega) h6
      refine CallH.pure (int_yes hs (by omega) h6) ⟨_, _, _, rfl, rfl, yes' rfl ?_⟩
      generalize a5 + k6 = a6 at *
      unfold fin6 at hD
      cases h7 : rdStr ((bts s).drop a6) with
      | none =>
        rw [h7] at hD
        exact CallH.pure (str_no hs (by omega) h7) ⟨_, _, _, rfl, rfl, no' (show ¬ (10 : Int) = 0 by decide) (hE (L1 := [_]) (m := MS.zero) hD.symm)⟩
      | some r =>
      obtain ⟨d, k7⟩ := r
      rw [h7] at hD
      simp only at hD
      have l7 := rs_le (by omega) h7
      refine CallH.pure (str_yes hs (by omega) h7) ⟨_, _, _, rfl, rfl, yes' rfl ?_⟩
      by_cases hlt : a6 + k7 < s.size
      · rw [if_pos (by rw [hsz]; exact hlt)] at hD
        exact yes (by omega) (hE (L1 := [_]) (m := MS.zero) hD.symm)
      · rw [if_neg (by rw [hsz]; exact hlt)] at hD
        refine no (by omega) ?_
        refine CallH.pure (mValid_c ⟨k, p, q, t, b, v, ba d⟩) ⟨_, rfl, rfl, fun hv => ?_, fun hv => ?_⟩
        · rw [if_pos (of_decide_eq_true hv)] at hD
          subst hD
          exact DCall.ret (L1 := [_]) (m := ⟨k, p, q, t, b, v, ba d⟩) ⟨rfl, rfl, finPure rfl⟩
        · rw [if_neg (of_decide_eq_false hv)] at hD
          exact hE (L1 := [_]) (m := ⟨k, p, q, t, b, v, ba d⟩) hD.symm
    · rw [if_neg hsum] at hD
      exact no' hsum (hE (L1 := []) (m := MS.zero) hD.symm)
end Go.Eng
