/- Contracts and plain laws for the proof; no claim of its own. -/
import Derived.Test.YtegbijkbkjancaaDoorWireC4
import Derived.Test.YtegbijkbkjancaaDoorEngV3
namespace Go.Eng
open Go Go.RowKit Go.Proofs Wire

theorem clip (N : Nat) {M : Int} (hM : M = N) (s : ByteArray) : ∃ m : Nat, (if M < (s.size : Int) then M else (s.size : Int)) = (m : Int) ∧ m = min N s.size := by
  refine ⟨min N s.size, ?_, rfl⟩
  split <;> omega
theorem clip_size {s : ByteArray} {m : Nat} (h : m ≤ s.size) : (s.extract 0 m).size = m := by
  rw [← bts_len, bts_extract, List.length_take, List.length_drop, bts_len]; omega
theorem take_bts {s : ByteArray} {m : Nat} : bts (s.extract 0 m) = (bts s).take m := by rw [bts_extract]; simp

theorem intAns_enc {p q : ByteArray} {n : Int} (hn : okInt n) : intAns (p ++ encB n ++ q) p.size = .tuple #[.int .i64 n, .int .i64 ((p.size + (encB n).size : Nat) : Int), .int .i64 0] := by
  unfold intAns
  have h1 : (p ++ encB n ++ q).size = p.size + (encB n).size + q.size := by rw [size_append, size_append]
  rw [if_neg (by omega), Int.toNat_natCast, bts_append, bts_append, List.append_assoc, ← bts_len p, List.drop_left, encB_bts, rdInt_enc hn, encB_size]
  rfl
theorem strAns_enc {p q t : ByteArray} (ht : t.size ≤ 65536) : strAns (p ++ encSB t ++ q) p.size = .tuple #[.string t, .int .i64 ((p.size + (encSB t).size : Nat) : Int), .int .i64 0] := by
  unfold strAns
  have h1 : (p ++ encSB t ++ q).size = p.size + (encSB t).size + q.size := by rw [size_append, size_append]
  rw [if_neg (by omega), Int.toNat_natCast, bts_append, bts_append, List.append_assoc, ← bts_len p, List.drop_left, encSB_bts, rdStr_enc (by rw [bts_len]; exact ht), ← encSB_bts, bts_len]
  simp only [strRes, mk_bts]
theorem encB_le (n : Int) : (encB n).size ≤ 10 := by rw [encB_size]; exact enc_len n
theorem encSB_le (t : ByteArray) : (encSB t).size ≤ t.size + 10 := by have := encB_le t.size; rw [encSB, size_append]; omega

/-! ### WireRoundTrip -/
theorem RoundTrip_c (c : Int) (text p q : ByteArray) (hc : i64 c) : PureG Tryd.prog 4 ⟨[.int .i64 c, .string text, .agg #[.string p, .string q]]⟩ 0 tabV (.bool true) := by
  intro W hw
  refine RoundTrip_vc c text p q (Mem.start [] W) fun B => ?_
  refine CallH.pureG sane_c (by simp) hw ⟨_, rfl, rfl, ?_⟩
  refine CallH.pure (NumberFrom_c c hc) ⟨_, rfl, rfl, ?_⟩
  obtain ⟨m, hm, hm2⟩ := clip 200 (M := 200) rfl p
  obtain ⟨k, hk, hk2⟩ := clip 200 (M := 200) rfl q
  obtain ⟨l, hl, hl2⟩ := clip 200 (M := 200) rfl text
  rw [hm, hk, hl, Int.toNat_natCast, Int.toNat_natCast, Int.toNat_natCast]
  refine ⟨by omega, ?_⟩
  rintro p' hp
  refine ⟨by omega, ?_⟩
  rintro q' hq
  refine ⟨by omega, ?_⟩
  rintro t ht
  have sp : p'.size = m := by rw [hp, clip_size (by omega)]
  have sq : q'.size = k := by rw [hq, clip_size (by omega)]
  have st : t.size = l := by rw [ht, clip_size (by omega)]
  have hn := nf_ok c
  have e1 := encB_le (nf c)
  have e2 := encSB_le t
  refine CallH.pure (PutInt_c _) ⟨_, _, putAns_ok hn, rfl, ?_⟩
  refine CallH.pure (PutString_c _) ⟨_, _, if_pos (by omega), rfl, ?_⟩
  have z1 : (p' ++ encB (nf c)).size = p'.size + (encB (nf c)).size := size_append ..
  have z2 : (p' ++ encSB t).size = p'.size + (encSB t).size := size_append ..
  have z3 : (p' ++ encB (nf c) ++ q').size = p'.size + (encB (nf c)).size + q'.size := by rw [size_append, z1]
  have z4 : (p' ++ encSB t ++ q').size = p'.size + (encSB t).size + q'.size := by rw [size_append, z2]
  refine ⟨by omega, by omega, ?_⟩
  refine CallH.pure (Int_c _ _ (by omega)) ⟨_, _, _, intAns_enc hn, rfl, ?_⟩
  refine ⟨by omega, by omega, ?_⟩
  refine CallH.pure (String_c _ _ (by omega)) ⟨_, _, _, strAns_enc (by omega), rfl, ?_⟩
  have w1 : IntKind.i64.wrap ((p'.size : Int) + ((encB (nf c)).size : Int)) = ((p'.size + (encB (nf c)).size : Nat) : Int) := by rw [wi64 (by omega)]; omega
  have w2 : IntKind.i64.wrap ((p'.size : Int) + ((encSB t).size : Int)) = ((p'.size + (encSB t).size : Nat) : Int) := by rw [wi64 (by omega)]; omega
  rw [w1, w2]
  refine ⟨fun _ => ?_, fun h => absurd h (by decide)⟩
  iterate 7 (refine ⟨fun _ => ?_, fun h => absurd rfl h⟩)
  exact finPure (by simp)

/-! ### WireTruncated -/
theorem Truncated_c (c d : Int) (text : ByteArray) (a : Int) (hc : i64 c) (hd : i64 d) (ha : i64 a) : PureG Tryd.prog 7 ⟨[.int .i64 c, .int .i64 d, .string text, .int .i64 a]⟩ 0 tabV (.bool true) := by
  intro W hw
  refine Truncated_vc c d text a (Mem.start [] W) ?_
  have hn := nf_ok c
  have hm := nf_ok d
  refine CallH.pureG sane_c (by simp) hw ⟨_, rfl, rfl, ?_⟩
  refine CallH.pure (NumberFrom_c c hc) ⟨_, rfl, rfl, ?_⟩
  refine CallH.pure (PutInt_c _) ⟨_, _, putAns_ok hn, rfl, ?_⟩
  refine CallH.pure (NumberFrom_c d hd) ⟨_, rfl, rfl, ?_⟩
  refine CallH.pure (PutInt_c _) ⟨_, _, putAns_ok hm, rfl, ?_⟩
  obtain ⟨l, hl, hl2⟩ := clip 200 (M := 200) rfl text
  rw [hl, Int.toNat_natCast]
  refine ⟨by omega, ?_⟩
  obtain ⟨t, ht⟩ : ∃ t, t = text.extract 0 l := ⟨_, rfl⟩
  rw [← ht]
  have st : t.size = l := by rw [ht, clip_size (by omega)]
  refine CallH.pure (PutString_c _) ⟨_, _, if_pos (by omega), rfl, ?_⟩
  have b1 := encB_le (nf c)
  have b2 := encSB_le t
  have p1 : 0 < (encB (nf c)).size := by rw [encB_size]; exact enc_pos _
  have p2 : 0 < (encSB t).size := by rw [← bts_len, encSB_bts]; exact encS_pos _
  refine ⟨fun h => absurd rfl h, fun _ => ⟨fun h => absurd rfl h, fun _ => ⟨fun h => absurd rfl h, fun _ => ⟨fun h => by omega, fun _ => ⟨fun h => by omega, fun _ => ?_⟩⟩⟩⟩⟩
  refine CallH.pure (pick_c a _ ha (by omega)) ⟨_, rfl, rfl, ?_⟩
  have q1 : pickN a % (encB (nf c)).size < (encB (nf c)).size := Nat.mod_lt _ p1
  have q2 : pickN a % (encSB t).size < (encSB t).size := Nat.mod_lt _ p2
  rw [Int.toNat_natCast]
  refine ⟨by omega, ?_⟩
  have s1 : ((encB (nf c)).extract 0 (pickN a % (encB (nf c)).size)).size = pickN a % (encB (nf c)).size := clip_size (by omega)
  have s2 : ((encSB t).extract 0 (pickN a % (encSB t).size)).size = pickN a % (encSB t).size := clip_size (by omega)
  have i1 : intAns ((encB (nf c)).extract 0 (pickN a % (encB (nf c)).size)) 0 = .tuple #[.int .i64 0, .int .i64 0, .int .i64 10] := by
    unfold intAns
    rw [if_neg (by omega)]
    show intRes (rdInt (bts _)) 0 = _
    rw [take_bts, encB_bts, rdInt_short hn (by rw [← encB_size]; exact q1)]; rfl
  have i2 : strAns ((encSB t).extract 0 (pickN a % (encSB t).size)) 0 = .tuple #[.string ⟨#[]⟩, .int .i64 0, .int .i64 10] := by
    unfold strAns
    rw [if_neg (by omega)]
    show strRes (rdStr (bts _)) 0 = _
    rw [take_bts, encSB_bts, rdStr_short (by rw [bts_len]; omega) (by rw [← encSB_bts, bts_len]; exact q2)]; rfl
  refine CallH.pure (Int_c _ _ (by omega)) ⟨_, _, _, i1, rfl, ?_⟩
  refine CallH.pure (pick_c a _ ha (by omega)) ⟨_, rfl, rfl, ?_⟩
  rw [Int.toNat_natCast]
  refine ⟨by omega, ?_⟩
  refine CallH.pure (String_c _ _ (by omega)) ⟨_, _, _, i2, rfl, ?_⟩
  have same : nf c = nf d → encB (nf c) = encB (nf d) := fun h => by rw [h]
  refine ⟨fun h => ⟨by omega, ⟨fun _ => ?_, fun h => absurd h (by decide)⟩⟩, fun h => ⟨fun _ => ?_, fun h => absurd h (by decide)⟩⟩
  · iterate 2 (refine ⟨fun _ => ?_, fun h => absurd rfl h⟩)
    refine CallH.pure (NumberFrom_c c hc) ⟨_, rfl, rfl, ?_⟩
    refine CallH.pure (NumberFrom_c d hd) ⟨_, rfl, rfl, ?_⟩
    rw [Int.toNat_natCast]
    refine ⟨fun h => ⟨fun _ => finPure rfl, fun h2 => absurd ?_ h2⟩, fun h => ⟨fun h2 => absurd ?_ h, fun _ => finPure rfl⟩⟩
    · have hb := congrArg bts h
      rw [take_bts, encB_bts, encB_bts] at hb
      refine enc_prefix hn hm (r := (enc (nf d)).drop (encB (nf c)).size) (s := []) ?_
      rw [← hb, List.take_append_drop, List.append_nil]
    · rw [same h2]
      apply bts_inj; rw [take_bts, ← bts_len, List.take_length]
  · iterate 2 (refine ⟨fun _ => ?_, fun h => absurd rfl h⟩)
    refine CallH.pure (NumberFrom_c c hc) ⟨_, rfl, rfl, ?_⟩
    refine CallH.pure (NumberFrom_c d hd) ⟨_, rfl, rfl, ?_⟩
    refine ⟨fun h2 => ?_, fun _ => finPure rfl⟩
    have := same h2
    rw [this] at h
    omega

/-! ### WireMatchesReference -/
theorem Matches_c (n : Int) (s : ByteArray) (a : Int) (hn : i64 n) (ha : i64 a) : PureG Tryd.prog 3 ⟨[.int .i64 n, .string s, .int .i64 a]⟩ 0 tabV (.bool true) := by
  intro W hw
  refine Matches_vc n s a (Mem.start [] W) ?_
  refine CallH.pureG sane_c (by simp) hw ⟨_, rfl, rfl, ?_⟩
  obtain ⟨l, hl, hl2⟩ := clip 300 (M := 300) rfl s
  rw [hl, Int.toNat_natCast]
  refine ⟨by omega, ?_⟩
  rintro few hfew
  have sf : few.size = l := by rw [hfew, clip_size (by omega)]
  refine CallH.pure (NumberFrom_c n hn) ⟨_, rfl, rfl, fun B => ?_⟩
  -- the second loop
  have step1 : ∀ (g t : Nat) (B : Nat) (x y : Int), g + t = 2 → Matches_c1 B true few 2 2 2 (t : Int) x y W (fun e W' => e = .returned (.bool true) ∧ Below W.heap.size W W') := by
    intro g
    induction g with
    | zero =>
      intro t B x y hg
      apply Matches_c1_vc
      refine ⟨fun h => absurd h (by omega), fun _ => ?_⟩
      have q : putSAns few = .tuple #[.string (encSB few), .int .i64 0] := if_pos (by omega)
      refine CallH.pure (PutString_c _) ⟨_, _, q, rfl, ?_⟩
      refine CallH.pure (rPutString_c _) ⟨_, _, q, rfl, ?_⟩
      refine ⟨fun _ => ⟨fun _ => ⟨fun _ => ?_, fun h => absurd rfl h⟩, fun h => absurd rfl h⟩, fun h => absurd h (by decide)⟩
      refine CallH.pureG (Sum_c _ (by omega)) (by simp) hw ⟨_, rfl, rfl, ?_⟩
      refine CallH.pure (rSum_c _ (by omega)) ⟨_, rfl, rfl, ?_⟩
      exact finPure (by simp)
    | succ g ih =>
      intro t B x y hg
      apply Matches_c1_vc
      have et : IntKind.i64.wrap ((t : Int) + 1) = ((t + 1 : Nat) : Int) := by rw [wi64 (by omega)]; omega
      rw [et, Int.toNat_natCast]
      refine ⟨fun _ => ⟨by omega, ?_⟩, fun h => absurd (by omega) h⟩
      have hx : ∃ z : Int, ([.int .i64 x, .int .i64 y] : List Value)[t]? = some (.int .i64 z) := by
        have : t = 0 ∨ t = 1 := by omega
        rcases this with rfl | rfl
        · exact ⟨x, rfl⟩
        · exact ⟨y, rfl⟩
      obtain ⟨z, hz⟩ := hx
      refine ⟨z, hz, ?_⟩
      obtain ⟨u1, u2, u3, hu⟩ : ∃ u1 u2 u3, intAns few z = .tuple #[.int .i64 u1, .int .i64 u2, .int .i64 u3] := by
        unfold intAns intRes
        split
        · exact ⟨_, _, _, rfl⟩
        · split <;> exact ⟨_, _, _, rfl⟩
      obtain ⟨v1, v2, v3, hv⟩ : ∃ v1 v2 v3, strAns few z = .tuple #[.string v1, .int .i64 v2, .int .i64 v3] := by
        unfold strAns strRes
        split
        · exact ⟨_, _, _, rfl⟩
        · split <;> exact ⟨_, _, _, rfl⟩
      refine CallH.pure (Int_c _ _ (by omega)) ⟨_, _, _, hu, rfl, ?_⟩
      refine CallH.pure (rInt_c _ _ (by omega)) ⟨_, _, _, hu, rfl, ?_⟩
      refine CallH.pure (String_c _ _ (by omega)) ⟨_, _, _, hv, rfl, ?_⟩
      refine CallH.pure (rString_c _ _ (by omega)) ⟨_, _, _, hv, rfl, ?_⟩
      iterate 6 (refine ⟨fun h => absurd rfl h, fun _ => ?_⟩)
      exact ih (t + 1) B x y (by omega)
  have step0 : ∀ (g t : Nat) (B : Nat) (x y : Int), g + t = 2 → Matches_c0 B a true few 2 2 2 (t : Int) x y W (fun e W' => e = .returned (.bool true) ∧ Below W.heap.size W W') := by
    intro g
    induction g with
    | zero =>
      intro t B x y hg
      apply Matches_c0_vc
      refine ⟨fun h => absurd h (by omega), fun _ => ?_⟩
      have ew : IntKind.i64.wrap ((few.size : Int) + 2) = ((few.size + 2 : Nat) : Int) := by rw [wi64 (by omega)]; omega
      rw [ew]
      exact CallH.pure (pick_c a _ ha (by omega)) ⟨_, rfl, rfl, fun B2 => step1 2 0 B2 _ _ rfl⟩
    | succ g ih =>
      intro t B x y hg
      apply Matches_c0_vc
      have et : IntKind.i64.wrap ((t : Int) + 1) = ((t + 1 : Nat) : Int) := by rw [wi64 (by omega)]; omega
      rw [et, Int.toNat_natCast]
      refine ⟨fun _ => ⟨by omega, ?_⟩, fun h => absurd (by omega) h⟩
      have hx : ∃ z : Int, ([.int .i64 x, .int .i64 y] : List Value)[t]? = some (.int .i64 z) := by
        have : t = 0 ∨ t = 1 := by omega
        rcases this with rfl | rfl
        · exact ⟨x, rfl⟩
        · exact ⟨y, rfl⟩
      obtain ⟨z, hz⟩ := hx
      refine ⟨z, hz, ?_⟩
      obtain ⟨u1, u2, hu⟩ : ∃ u1 u2, putAns z = .tuple #[.string u1, .int .i64 u2] := by
        unfold putAns
        split <;> exact ⟨_, _, rfl⟩
      refine CallH.pure (PutInt_c _) ⟨_, _, hu, rfl, ?_⟩
      refine CallH.pure (rPutInt_c _) ⟨_, _, hu, rfl, ?_⟩
      iterate 2 (refine ⟨fun h => absurd rfl h, fun _ => ?_⟩)
      exact ih (t + 1) B x y (by omega)
  exact step0 2 0 B n (nf n) rfl
end Go.Eng
