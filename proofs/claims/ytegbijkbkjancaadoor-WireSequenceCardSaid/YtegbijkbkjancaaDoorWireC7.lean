/- Contracts and plain laws for the proof; no claim of its own. -/
import Derived.Test.YtegbijkbkjancaaDoorWireC5
import Derived.Test.YtegbijkbkjancaaDoorEngV4
namespace Go.Eng
open Go Go.RowKit Go.Proofs Wire

theorem intAns_at {t : ByteArray} {k : Nat} (h : k ≤ t.size) : intAns t (k : Int) = intRes (rdInt ((bts t).drop k)) k := by
  unfold intAns; rw [if_neg (by omega), Int.toNat_natCast]
theorem strAns_at {t : ByteArray} {k : Nat} (h : k ≤ t.size) : strAns t (k : Int) = strRes (rdStr ((bts t).drop k)) k := by
  unfold strAns; rw [if_neg (by omega), Int.toNat_natCast]

/-! ### WireUnique -/
theorem Unique_loop {t : ByteArray} (ht : t.size ≤ 400) {w0 : World} (B : Nat) {p : Nat} (hp : p ≤ t.size) : ∀ (g q : Nat), g + q = 2 →
    Unique_c0 B true t 2 2 2 (q : Int) 0 (p : Int) w0 (fun e W' => e = .returned (.bool true) ∧ Below w0.heap.size w0 W')
  | 0, q, hg => by
    apply Unique_c0_vc
    exact ⟨fun h => absurd h (by omega), fun _ => finPure rfl⟩
  | g + 1, q, hg => by
    apply Unique_c0_vc
    have hk : ∃ k : Nat, ([.int .i64 0, .int .i64 (p : Int)] : List Value)[q]? = some (.int .i64 (k : Int)) ∧ k ≤ t.size := by
      have : q = 0 ∨ q = 1 := by omega
      rcases this with rfl | rfl
      · exact ⟨0, rfl, Nat.zero_le _⟩
      · exact ⟨p, rfl, hp⟩
    obtain ⟨k, hk, hle⟩ := hk
    rw [Int.toNat_natCast]
    refine ⟨fun _ => ⟨by omega, (k : Int), hk, ?_⟩, fun h => absurd (by omega) h⟩
    have eq : IntKind.i64.wrap ((q : Int) + 1) = ((q + 1 : Nat) : Int) := by rw [wi64 (by omega)]; omega
    have next : Unique_c1 B true t (k : Int) 2 2 2 (q : Int) 0 (p : Int) w0 (fun e W' => e = .returned (.bool true) ∧ Below w0.heap.size w0 W') := by
      apply Unique_c1_vc
      have step : Unique_c2 B true t 2 2 2 (q : Int) 0 (p : Int) w0 (fun e W' => e = .returned (.bool true) ∧ Below w0.heap.size w0 W') := by
        apply Unique_c2_vc
        rw [eq]
        exact Unique_loop ht B hp g (q + 1) (by omega)
      cases hr : rdStr ((bts t).drop k) with
      | none =>
        have ha : strAns t (k : Int) = .tuple #[.string ⟨#[]⟩, .int .i64 0, .int .i64 10] := by rw [strAns_at hle, hr]; rfl
        have hp0 : putSAns ⟨#[]⟩ = .tuple #[.string (encSB ⟨#[]⟩), .int .i64 0] := if_pos (by decide)
        refine CallH.pure (String_c _ _ (by omega)) ⟨_, _, _, ha, rfl, ?_⟩
        refine CallH.pure (PutString_c _) ⟨_, _, hp0, rfl, ?_⟩
        refine ⟨fun h => absurd h (by decide), fun _ => ⟨fun h => absurd rfl h, fun _ => ⟨fun h => absurd rfl h, fun _ => ⟨fun h => absurd rfl h, fun _ => step⟩⟩⟩⟩
      | some x =>
        obtain ⟨u, j⟩ := x
        obtain ⟨h1, h2, h3, h4⟩ := rdStr_inv hr
        rw [List.length_drop, bts_len] at h2
        have ha : strAns t (k : Int) = .tuple #[.string ⟨u.toArray⟩, .int .i64 ((k + j : Nat) : Int), .int .i64 0] := by rw [strAns_at hle, hr]; rfl
        have hu : (⟨u.toArray⟩ : ByteArray).size = u.length := by rw [← bts_len, bts_mk]
        have hp0 : putSAns ⟨u.toArray⟩ = .tuple #[.string (encSB ⟨u.toArray⟩), .int .i64 0] := if_pos (by omega)
        refine CallH.pure (String_c _ _ (by omega)) ⟨_, _, _, ha, rfl, ?_⟩
        refine CallH.pure (PutString_c _) ⟨_, _, hp0, rfl, ?_⟩
        rw [Int.toNat_natCast, Int.toNat_natCast]
        have hx : t.extract k (k + j) = encSB ⟨u.toArray⟩ := by
          apply bts_inj
          rw [bts_extract, encSB_bts, bts_mk, ← h3]
          congr 1; omega
        exact ⟨fun _ => ⟨fun h => absurd rfl h, fun _ => ⟨fun h => by omega, fun _ => ⟨fun h => by omega, fun _ => ⟨by omega, ⟨fun h => absurd hx h, fun _ => step⟩⟩⟩⟩⟩, fun h => absurd rfl h⟩
    cases hr : rdInt ((bts t).drop k) with
    | none =>
      have ha : intAns t (k : Int) = .tuple #[.int .i64 0, .int .i64 0, .int .i64 10] := by rw [intAns_at hle, hr]; rfl
      refine CallH.pure (Int_c _ _ (by omega)) ⟨_, _, _, ha, rfl, ?_⟩
      refine CallH.pure (PutInt_c _) ⟨_, _, putAns_ok (by decide), rfl, ?_⟩
      exact ⟨fun h => absurd h (by decide), fun _ => ⟨fun h => absurd rfl h, fun _ => ⟨fun h => absurd rfl h, fun _ => ⟨fun h => absurd rfl h, fun _ => next⟩⟩⟩⟩
    | some x =>
      obtain ⟨n, j⟩ := x
      obtain ⟨h1, h2, h3, h4⟩ := rdInt_inv hr
      rw [List.length_drop, bts_len] at h2
      have ha : intAns t (k : Int) = .tuple #[.int .i64 n, .int .i64 ((k + j : Nat) : Int), .int .i64 0] := by rw [intAns_at hle, hr]; rfl
      refine CallH.pure (Int_c _ _ (by omega)) ⟨_, _, _, ha, rfl, ?_⟩
      refine CallH.pure (PutInt_c _) ⟨_, _, putAns_ok h1, rfl, ?_⟩
      rw [Int.toNat_natCast, Int.toNat_natCast]
      have hx : t.extract k (k + j) = encB n := by
        apply bts_inj
        rw [bts_extract, encB_bts, ← h3]
        congr 1; omega
      exact ⟨fun _ => ⟨fun h => absurd rfl h, fun _ => ⟨fun h => by omega, fun _ => ⟨fun h => by omega, fun _ => ⟨by omega, ⟨fun h => absurd hx h, fun _ => next⟩⟩⟩⟩⟩, fun h => absurd rfl h⟩

theorem Unique_c (s : ByteArray) (a first : Int) (ha : i64 a) (hf : 0 ≤ first ∧ first ≤ 255) : PureG Tryd.prog 5 ⟨[.string s, .int .i64 a, .int .u8 first]⟩ 0 tabV (.bool true) := by
  intro W hw
  refine Unique_vc s a first (Mem.start [] W) ?_
  refine CallH.pureG sane_c (by simp) hw ⟨_, rfl, rfl, ?_⟩
  obtain ⟨m, hm, hm2⟩ := clip 300 (M := 300) rfl s
  rw [hm, Int.toNat_natCast]
  have sm : (s.extract 0 m).size = m := clip_size (by omega)
  obtain ⟨b, hb⟩ : ∃ b : ByteArray, b = ⟨#[UInt8.ofNat (Int.toNat first)]⟩ := ⟨_, rfl⟩
  rw [← hb]
  have sb : b.size = 1 := by rw [hb]; rfl
  obtain ⟨t, ht⟩ : ∃ t, t = b ++ s.extract 0 m := ⟨_, rfl⟩
  have st : t.size = 1 + m := by rw [ht, size_append, sb, sm]
  rw [← ht]
  refine ⟨by omega, fun B => ⟨by omega, by omega, ?_⟩⟩
  have e : IntKind.i64.wrap ((t.size : Int) + 1) = ((t.size + 1 : Nat) : Int) := by rw [wi64 (by omega)]; omega
  rw [e]
  refine CallH.pure (pick_c a _ ha (by omega)) ⟨_, rfl, rfl, fun B1 => ?_⟩
  have hp : pickN a % (t.size + 1) < t.size + 1 := Nat.mod_lt _ (by omega)
  exact Unique_loop (by omega) B1 (by omega) 2 0 rfl
end Go.Eng
