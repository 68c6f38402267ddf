/- Contracts and plain laws for the proof; no claim of its own. -/
import Derived.Test.YtgplckfjbdnedaaDoorWireC1
import Derived.Test.YtgplckfjbdnedaaDoorEngV2
import Derived.Test.YtgplckfjbdnedaaDoorWirePi
namespace Go.Eng
open Go Go.RowKit Go.Proofs Wire

theorem finPure {v u : Value} {W : World} {L : SHeap} (h : v = u) : Fin (fun e W' => e = .returned u ∧ Below W.heap.size W W') L [] W v := fun _ hm => ⟨by rw [h], hm.kept.below⟩

/-! ### pick, NumberFrom -/
def pickN (c : Int) : Nat := if c < 0 then (-(c + 1)).toNat else c.toNat
def i64 (c : Int) : Prop := -9223372036854775808 ≤ c ∧ c ≤ 9223372036854775807

theorem pick_c (c : Int) (n : Nat) (hc : i64 c) (hn : n ≠ 0) : PureC Tryd.prog 21 ⟨[.int .i64 c, .int .i64 n]⟩ (.int .i64 ((pickN c % n : Nat) : Int)) := by
  unfold i64 at hc
  refine fun W => pick_vc c n (Mem.start [] W) ⟨fun h => ?_, fun h => ⟨by omega, ?_⟩⟩
  · rintro c1 rfl
    refine ⟨by omega, ?_⟩
    rintro t rfl
    refine finPure ?_
    have e : IntKind.i64.wrap (0 - IntKind.i64.wrap (c + 1)) = ((pickN c : Nat) : Int) := by
      rw [wi64 (x := c + 1) (by omega), wi64 (by omega), pickN, if_pos h]; omega
    rw [e, tmod_nat]
  · rintro t rfl
    refine finPure ?_
    have e : c = ((pickN c : Nat) : Int) := by rw [pickN, if_neg h]; omega
    rw [e, tmod_nat, ← e]

/-! ### PutInt -/
def encB (n : Int) : ByteArray := ⟨(enc n).toArray⟩
theorem encB_bts (n : Int) : bts (encB n) = enc n := by simp [bts, encB]
theorem encB_size (n : Int) : (encB n).size = (enc n).length := by rw [← bts_len, encB_bts]
def putAns (n : Int) : Value := if okInt n then .tuple #[.string (encB n), .int .i64 0] else .tuple #[.string ⟨#[]⟩, .int .i64 10]

theorem rzigzag_c (n : Int) (h : okInt n) : PureC Tryd.prog 35 ⟨[.int .i64 n]⟩ (.int .u64 (zig n : Int)) := by
  unfold okInt maxInt at h
  refine fun W => rzigzag_vc n (Mem.start [] W) ⟨fun hn => ?_, fun hn => ?_⟩
  · rintro t rfl
    refine finPure ?_
    rw [wi64 (by omega), wu64 (x := 0 - n) (by omega), wu64 (x := (0 - n) * 2) (by omega), wu64 (by omega), zig, if_pos hn]
    congr 1; omega
  · rintro t rfl
    refine finPure ?_
    rw [wu64 (x := n) (by omega), wu64 (by omega), zig, if_neg hn]
    congr 1; omega

def lebV (f z : Nat) : List UInt8 := (leb f z).map UInt8.ofNat
theorem u8V (z : Nat) : (Value.int .u8 (((UInt8.ofNat z).toNat : Nat) : Int)) = .int .u8 ((z % 256 : Nat) : Int) := by simp

theorem leb_step (f z : Nat) : leb (f + 1) z = if z < 128 then [z] else (z % 128 + 128) :: leb f (z / 128) := rfl

theorem bytesL_app (a b : List UInt8) : bytesL (a ++ b) = bytesL a ++ bytesL b := by simp [bytesL]
theorem bytesL_len (a : List UInt8) : (bytesL a).length = a.length := by simp [bytesL]

/-- The loop of the reference, with something written already. -/
theorem rPutInt_loop {w0 : World} {n : Int} : ∀ (f z : Nat) (B : Nat) (l : Nat) (cap : Nat) (cs : List Value) (pre : List UInt8), z < 128 ^ (f + 1) → pre.length = l → l ≤ cap → cs.length = cap * 1 → f + l ≤ 9 →
    cs.take l = bytesL pre → enc n = pre ++ lebV f z → z < 9223372036854775808 →
    rPutInt_c1 B (z : Int) l cap cs w0 (fun e W' => e = .returned (.tuple #[.string (encB n), .int .i64 0]) ∧ Below w0.heap.size w0 W')
  | f, z, B, l, cap, cs, pre, hz, hl, hlc, hcl, hfl, ht, he, hzb => by
    apply rPutInt_c1_vc
    have hbl : (bytesL pre).length = l := by rw [bytesL_len, hl]
    have em : ((z : Int).tmod 128) = ((z % 128 : Nat) : Int) := tmod_nat z 128
    have ed : ((z : Int).tdiv 128) = ((z / 128 : Nat) : Int) := tdiv_nat z 128
    refine ⟨fun h B5 => ⟨⟨hlc, hcl⟩, ⟨by omega, by omega⟩, fun B6 cap2 r4 h1 h2 z3 hz3 => ?_⟩, fun h B7 => ⟨⟨hlc, hcl⟩, ⟨by omega, by omega⟩, fun B8 cap3 r5 h1 h2 => ?_⟩⟩
    · rw [ed, wu64 (by omega)] at hz3
      subst hz3
      rw [em] at h2 ⊢
      have hw : IntKind.u8.wrap (IntKind.u64.wrap (((z % 128 : Nat) : Int) + 128)) = ((z % 128 + 128 : Nat) : Int) := by
        rw [wu64 (by omega), wu8 (by omega)]; simp
      rw [hw] at h2 ⊢
      rw [Nat.mul_one] at h2 ⊢
      match f, hz, hfl, he with
      | 0, hz, _, _ => simp at hz; omega
      | f + 1, hz, hfl, he =>
        have hnz : ¬ z < 128 := by omega
        have hU : (UInt8.ofNat (z % 128 + 128)).toNat = z % 128 + 128 := by simp; omega
        refine rPutInt_loop f (z / 128) B6 (l + 1) cap2 _ (pre ++ [UInt8.ofNat (z % 128 + 128)]) (by rw [Nat.pow_succ] at hz; omega) (by simp [hl]) h1 h2 (by omega) ?_ ?_ (by omega)
        · rw [ht, bytesL_app]
          have : (bytesL pre ++ [Value.int .u8 ((z % 128 + 128 : Nat) : Int)]).length = l + 1 := by simp [hbl]
          rw [← this, List.take_left]
          simp only [bytesL, List.map_cons, List.map_nil, hU]
        · rw [he, lebV, leb_step, if_neg hnz, lebV]; simp
    · have hU : (UInt8.ofNat z).toNat = z := by simp; omega
      have hw : IntKind.u8.wrap (z : Int) = ((z : Nat) : Int) := wu8 (by omega)
      rw [hw] at h2 ⊢
      rw [Nat.mul_one] at h2 ⊢
      have hleb : lebV f z = [UInt8.ofNat z] := by
        match f with
        | 0 => show [UInt8.ofNat (z % 256)] = _; rw [Nat.mod_eq_of_lt (by omega)]
        | f + 1 => rw [lebV, leb_step, if_pos (by omega)]; rfl
      refine ⟨pre ++ [UInt8.ofNat z], ⟨?_, by simp [hl]⟩, ?_⟩
      · rw [List.drop_zero, ht]
        have : (bytesL pre ++ [Value.int .u8 ((z : Nat) : Int)]).length = l + 1 := by simp [hbl]
        rw [← this, List.take_left, bytesL_app]
        simp only [bytesL, List.map_cons, List.map_nil, hU]
      · rintro t rfl
        refine finPure ?_
        rw [encB, he, hleb]

theorem rPutInt_c (n : Int) : PureC Tryd.prog 24 ⟨[.int .i64 n]⟩ (putAns n) := by
  by_cases h : okInt n
  · have h' := h
    unfold okInt maxInt at h'
    refine fun W => rPutInt_vc n (Mem.start [] W) ⟨fun hn => by omega, fun hn => ⟨fun hm => by omega, fun hm => ?_⟩⟩
    refine CallH.pure (rzigzag_c n h) ⟨_, rfl, rfl, ?_⟩
    have hz := zig_lt h
    obtain ⟨z, hzd⟩ : ∃ z, z = zig n := ⟨_, rfl⟩
    rw [← hzd] at hz ⊢
    have he : enc n = lebV 9 z := by rw [enc, hzd, lebV]
    rw [putAns, if_pos h]
    have em : ((z : Int).tmod 128) = ((z % 128 : Nat) : Int) := tmod_nat z 128
    have ed : ((z : Int).tdiv 128) = ((z / 128 : Nat) : Int) := tdiv_nat z 128
    apply rPutInt_c0_vc
    refine ⟨fun hc B B1 cap r h1 h2 z1 hz1 => ?_, fun hc B3 B4 cap r h1 h2 => ?_⟩
    · rw [ed, wu64 (by omega)] at hz1
      subst hz1
      have hw : IntKind.u8.wrap (IntKind.u64.wrap ((z : Int).tmod 128 + 128)) = ((z % 128 + 128 : Nat) : Int) := by
        rw [em, wu64 (by omega), wu8 (by omega)]; simp
      rw [hw] at h2 ⊢
      have hU : (UInt8.ofNat (z % 128 + 128)).toNat = z % 128 + 128 := by simp; omega
      refine rPutInt_loop 8 (z / 128) B1 1 cap _ [UInt8.ofNat (z % 128 + 128)] (by omega) rfl h1 h2 (by omega) ?_ ?_ (by omega)
      · simp only [bytesL, List.map_cons, List.map_nil, hU]; rfl
      · rw [he, lebV, leb_step, if_neg (by omega), lebV]; rfl
    · have hU : (UInt8.ofNat z).toNat = z := by simp; omega
      have hw : IntKind.u8.wrap (z : Int) = ((z : Nat) : Int) := wu8 (by omega)
      rw [hw]
      refine ⟨[UInt8.ofNat z], ⟨?_, rfl⟩, ?_⟩
      · simp only [bytesL, List.map_cons, List.map_nil, hU]; rfl
      · rintro t rfl
        refine finPure ?_
        rw [encB, he, lebV, leb_step, if_pos (by omega)]; rfl
  · have h' := h
    unfold okInt maxInt at h'
    rw [putAns, if_neg h]
    exact fun W => rPutInt_vc n (Mem.start [] W) ⟨fun hn => finPure rfl, fun hn => ⟨fun hm => finPure rfl, fun hm => by omega⟩⟩
end Go.Eng
