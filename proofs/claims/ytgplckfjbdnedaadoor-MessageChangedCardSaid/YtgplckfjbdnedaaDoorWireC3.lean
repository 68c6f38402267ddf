/- Contracts and plain laws for the proof; no claim of its own. -/
import Derived.Test.YtgplckfjbdnedaaDoorWireC2
namespace Go.Eng
open Go Go.RowKit Go.Proofs Wire

theorem bts_inj {a b : ByteArray} (h : bts a = bts b) : a = b := by
  apply ByteArray.ext
  exact Array.toList_inj.1 h
theorem bts_append (a b : ByteArray) : bts (a ++ b) = bts a ++ bts b := by simp [bts]
theorem bts_extract (s : ByteArray) (a b : Nat) : bts (s.extract a b) = ((bts s).drop a).take (b - a) := by
  simp [bts, List.extract_eq_take_drop]
theorem size_append (a b : ByteArray) : (a ++ b).size = a.size + b.size := by rw [← bts_len, ← bts_len, ← bts_len, bts_append, List.length_append]
theorem bts_mk (l : List UInt8) : bts ⟨l.toArray⟩ = l := by simp [bts]
theorem mk_bts (s : ByteArray) : (⟨(bts s).toArray⟩ : ByteArray) = s := bts_inj (by rw [bts_mk])
theorem bts_nil : bts ⟨#[]⟩ = [] := rfl

theorem PutInt_c (n : Int) : PureC Tryd.prog 18 ⟨[.int .i64 n]⟩ (putAns n) := by
  by_cases h : okInt n
  · have h' := h
    unfold okInt maxInt at h'
    intro W
    refine ((callsIn_wide.1 (Tryd.PutInt_in Fence.wide 3 trivial trivial trivial rfl (Nat.le_refl _) n h'.1 h'.2 W))).mono fun e W' hh => ⟨?_, hh.2⟩
    rw [putAns, if_pos h, hh.1]; rfl
  · have h' := h
    unfold okInt maxInt at h'
    rw [putAns, if_neg h]
    exact fun W => PutInt_vc n (Mem.start [] W) ⟨fun hn => finPure rfl, fun hn => ⟨fun hm => finPure rfl, fun hm => by omega⟩⟩

theorem putAns_ok {n : Int} (h : okInt n) : putAns n = .tuple #[.string (encB n), .int .i64 0] := if_pos h
theorem putAns_no {n : Int} (h : ¬ okInt n) : putAns n = .tuple #[.string ⟨#[]⟩, .int .i64 10] := if_neg h

/-! ### PutString -/
def encSB (s : ByteArray) : ByteArray := encB s.size ++ s
theorem encSB_bts (s : ByteArray) : bts (encSB s) = encS (bts s) := by rw [encSB, bts_append, encB_bts, encS, bts_len]
def putSAns (s : ByteArray) : Value := if s.size ≤ 65536 then .tuple #[.string (encSB s), .int .i64 0] else .tuple #[.string ⟨#[]⟩, .int .i64 10]

theorem PutString_c (s : ByteArray) : PureC Tryd.prog 22 ⟨[.string s]⟩ (putSAns s) := by
  refine fun W => PutString_vc s (Mem.start [] W) ⟨fun h => ?_, fun h => ?_⟩
  · rw [putSAns, if_neg (by omega)]; exact finPure rfl
  · have h1 : s.size ≤ 65536 := by omega
    rw [putSAns, if_pos h1]
    refine CallH.pure (PutInt_c s.size) ?_
    rw [putAns_ok (okLen h1)]
    refine ⟨_, _, rfl, rfl, fun h => absurd rfl h, fun _ => ⟨?_, ?_⟩⟩
    · have := enc_len s.size; rw [← encB_size] at this; omega
    · rintro t rfl; exact finPure rfl
theorem rPutString_c (s : ByteArray) : PureC Tryd.prog 34 ⟨[.string s]⟩ (putSAns s) := by
  refine fun W => rPutString_vc s (Mem.start [] W) ⟨fun h => ?_, fun h => ?_⟩
  · rw [putSAns, if_neg (by omega)]; exact finPure rfl
  · have h1 : s.size ≤ 65536 := by omega
    rw [putSAns, if_pos h1]
    refine CallH.pure (rPutInt_c s.size) ?_
    rw [putAns_ok (okLen h1)]
    refine ⟨_, _, rfl, rfl, ?_, ?_⟩
    · have := enc_len s.size; rw [← encB_size] at this; omega
    · rintro t rfl; exact finPure rfl

/-! ### the reference's Int -/
theorem rInt_loop {s : ByteArray} (hs : s.size < 4611686018427387904) {w0 : World} {a : Nat} (ha : a ≤ s.size) : ∀ (g i z : Nat), g + i = 9 → z < 128 ^ i → a + i ≤ s.size →
    rdInt ((bts s).drop a) = (rdGo g i z ((bts s).drop (a + i))).map (fun p => (p.1, p.2 + i)) →
    rInt_c0 s (a : Int) (z : Int) (i : Int) w0 (fun e W' => e = .returned (intRes (rdInt ((bts s).drop a)) a) ∧ Below w0.heap.size w0 W')
  | 0, i, z, hg, hz, hi, H => by
    apply rInt_c0_vc
    refine ⟨fun h => absurd h (by omega), fun _ => ?_⟩
    rw [H]; exact finPure rfl
  | g + 1, i, z, hg, hz, hi, H => by
    apply rInt_c0_vc
    have ew : IntKind.i64.wrap ((a : Int) + (i : Int)) = ((a + i : Nat) : Int) := by rw [wi64 (by omega)]; simp
    have ew1 : IntKind.i64.wrap (((a + i : Nat) : Int) + 1) = ((a + i + 1 : Nat) : Int) := by rw [wi64 (by omega)]; simp
    rw [ew, ew1]
    refine ⟨fun _ => ⟨fun h => ⟨by omega, ?_⟩, fun h => ?_⟩, fun h => absurd (by omega) h⟩
    · have hlt : a + i < (bts s).length := by rw [bts_len]; omega
      have hd : (bts s).drop (a + i) = (bts s)[a + i] :: (bts s).drop (a + i + 1) := List.drop_eq_getElem_cons hlt
      rw [hd] at H
      obtain ⟨B, hB⟩ : ∃ B : UInt8, B = (bts s)[a + i] := ⟨_, rfl⟩
      rw [← hB] at H
      have hBl := B.toNat_lt
      rintro b hb
      rw [bat_get hlt, ← hB, wu64 (by omega)] at hb
      have e7 : IntKind.i64.wrap (7 * (i : Int)) = ((7 * i : Nat) : Int) := by rw [wi64 (by omega)]; simp
      rw [e7]
      refine ⟨by omega, ?_⟩
      rintro z1 hz1
      have e128 : b.tmod 128 = ((B.toNat % 128 : Nat) : Int) := by rw [hb]; exact tmod_nat _ 128
      have hp : (128 : Nat) ^ i * 128 ≤ 9223372036854775808 := by
        have : (128 : Nat) ^ i ≤ 128 ^ 8 := Nat.pow_le_pow_right (by decide) (by omega)
        have h8 : (128 : Nat) ^ 8 * 128 = 9223372036854775808 := by decide
        omega
      have hm : B.toNat % 128 * 128 ^ i < 9223372036854775808 := by
        have h1 : B.toNat % 128 < 128 := Nat.mod_lt _ (by decide)
        have h2 : B.toNat % 128 * 128 ^ i < 128 * 128 ^ i := Nat.mul_lt_mul_of_pos_right h1 (Nat.pow_pos (by decide))
        omega
      have hsum : z + B.toNat % 128 * 128 ^ i < 128 ^ (i + 1) := by
        have h1 : B.toNat % 128 ≤ 127 := by omega
        have h2 : B.toNat % 128 * 128 ^ i ≤ 127 * 128 ^ i := Nat.mul_le_mul_right _ h1
        rw [Nat.pow_succ]; omega
      have hz1' : z1 = ((z + B.toNat % 128 * 128 ^ i : Nat) : Int) := by
        rw [hz1, e128]
        have e1 : min (Int.toNat ((7 * i : Nat) : Int)) 64 = 7 * i := by omega
        have e2 : ((B.toNat % 128 : Nat) : Int) * 2 ^ (7 * i) = ((B.toNat % 128 * 2 ^ (7 * i) : Nat) : Int) := by simp
        have e3 : (z : Int) + ((B.toNat % 128 * 128 ^ i : Nat) : Int) = ((z + B.toNat % 128 * 128 ^ i : Nat) : Int) := by omega
        rw [e1, e2, pow128, wu64 (x := ((B.toNat % 128 * 128 ^ i : Nat) : Int)) (by omega), e3, wu64 (by omega)]
      clear hz1
      have es : IntKind.i64.wrap ((i : Int) + 1) = ((i + 1 : Nat) : Int) := by rw [wi64 (by omega)]; omega
      refine ⟨fun hc => ?_, fun hc => ?_⟩
      · rintro _ rfl
        rw [es, hz1']
        refine rInt_loop hs ha g (i + 1) _ (by omega) hsum (by omega) ?_
        have : 128 ≤ B.toNat := by omega
        rw [H, rdGo, if_pos this]
        rw [show a + (i + 1) = a + i + 1 by omega]
        cases rdGo g (i + 1) (z + B.toNat % 128 * 128 ^ i) ((bts s).drop (a + i + 1)) with
        | none => rfl
        | some p => simp; omega
      · have hnc : ¬ 128 ≤ B.toNat := by omega
        simp only [rdGo, hnc, if_false] at H
        obtain ⟨Z, hZ⟩ : ∃ Z, Z = z + B.toNat % 128 * 128 ^ i := ⟨_, rfl⟩
        have hZl : Z < 9223372036854775808 := by
          have : (128 : Nat) ^ (i + 1) = 128 ^ i * 128 := Nat.pow_succ ..
          omega
        rw [← hZ] at H hz1'
        subst hz1'
        have et : ((Z : Int).tdiv 2) = ((Z / 2 : Nat) : Int) := tdiv_nat Z 2
        have em : ((Z : Int).tmod 2) = ((Z % 2 : Nat) : Int) := tmod_nat Z 2
        rw [et, em, wu64 (by omega), wi64 (by omega)]
        have hu1 : Z % 2 = 1 → unzig Z = -((Z / 2 : Nat) : Int) - 1 := fun h => by simp [unzig, h]
        have hu0 : ¬ Z % 2 = 1 → unzig Z = ((Z / 2 : Nat) : Int) := fun h => by simp [unzig, h]
        -- what the text says
        have hex : bts (s.extract a (a + i + 1)) = ((bts s).drop a).take (i + 1) := by rw [bts_extract]; congr 1; omega
        have yes : ∀ m : Int, unzig Z = m → okInt m → encB m = s.extract a (a + i + 1) → rdInt ((bts s).drop a) = some (m, i + 1) := by
          intro m _ ho he
          have h1 : ((bts s).drop a).take (i + 1) = enc m := by rw [← hex, ← he, encB_bts]
          have h2 : (bts s).drop a = enc m ++ ((bts s).drop a).drop (i + 1) := by rw [← h1, List.take_append_drop]
          rw [rdInt_some ho h2, ← h1, List.length_take, List.length_drop, bts_len]
          congr 2; omega
        have no : ∀ m : Int, unzig Z = m → rdInt ((bts s).drop a) ≠ none → okInt m ∧ encB m = s.extract a (a + i + 1) := by
          intro m hm hne
          rw [H] at hne
          split at hne
          · exact absurd rfl hne
          · next hc2 =>
            rw [if_neg hc2, hm] at H
            simp only [Option.map_some] at H
            obtain ⟨h1, h2, h3, h4⟩ := rdInt_inv H
            refine ⟨h1, bts_inj ?_⟩
            rw [encB_bts, hex, ← h3, show 1 + i = i + 1 by omega]
        have main : ∀ m : Int, unzig Z = m → CallH Tryd.prog 24 ⟨[.int .i64 m]⟩ [] [] w0 (fun v L' => ∃ (r1 : ByteArray) (r21 : Int), v = (.tuple #[.string r1, .int .i64 r21]) ∧ L' = [] ∧
                ((¬ (r21 = (0 : Int))) →
                  Fin (fun e W' => e = .returned (intRes (rdInt ((bts s).drop a)) a) ∧ Below w0.heap.size w0 W') [] [] w0 (.tuple #[.int .i64 (0 : Int), .int .i64 (0 : Int), .int .i64 (10 : Int)])) ∧
                 ((r21 = (0 : Int)) →
                  (0 ≤ (a : Int) ∧ (a : Int) ≤ ((a + i + 1 : Nat) : Int) ∧ ((a + i + 1 : Nat) : Int) ≤ s.size) ∧
                  ((¬ r1 = (s.extract (Int.toNat a) (Int.toNat ((a + i + 1 : Nat) : Int)))) →
                    Fin (fun e W' => e = .returned (intRes (rdInt ((bts s).drop a)) a) ∧ Below w0.heap.size w0 W') [] [] w0 (.tuple #[.int .i64 (0 : Int), .int .i64 (0 : Int), .int .i64 (10 : Int)])) ∧
                   ((r1 = (s.extract (Int.toNat a) (Int.toNat ((a + i + 1 : Nat) : Int)))) →
                    ∀ t5 : Int, t5 = ((a + i + 1 : Nat) : Int) →
                    Fin (fun e W' => e = .returned (intRes (rdInt ((bts s).drop a)) a) ∧ Below w0.heap.size w0 W') [] [] w0 (.tuple #[.int .i64 m, .int .i64 t5, .int .i64 (0 : Int)])))) := by
          intro m hm
          refine CallH.pure (rPutInt_c m) ?_
          rw [Int.toNat_natCast, Int.toNat_natCast]
          by_cases ho : okInt m
          · rw [putAns_ok ho]
            refine ⟨_, _, rfl, rfl, fun h => absurd rfl h, fun _ => ⟨by omega, fun he => ?_, fun he => ?_⟩⟩
            · have : rdInt ((bts s).drop a) = none := by
                cases hr : rdInt ((bts s).drop a) with
                | none => rfl
                | some p => exact absurd (no m hm (by rw [hr]; simp)).2 he
              rw [this]; exact finPure rfl
            · rintro t rfl
              rw [yes m hm ho he]
              exact finPure (by simp only [intRes]; congr 4)
          · rw [putAns_no ho]
            refine ⟨_, _, rfl, rfl, fun _ => ?_, fun h => absurd h (by decide)⟩
            have : rdInt ((bts s).drop a) = none := by
              cases hr : rdInt ((bts s).drop a) with
              | none => rfl
              | some p => exact absurd (no m hm (by rw [hr]; simp)).1 ho
            rw [this]; exact finPure rfl
        rintro n rfl
        refine ⟨fun h => ?_, fun h => ?_⟩
        · rintro n1 rfl
          have e1 : IntKind.i64.wrap (IntKind.i64.wrap (0 - ((Z / 2 : Nat) : Int)) - 1) = -((Z / 2 : Nat) : Int) - 1 := by
            rw [wi64 (x := 0 - ((Z / 2 : Nat) : Int)) (by omega), wi64 (by omega)]; omega
          rw [e1]
          exact main _ (hu1 (by omega))
        · exact main _ (hu0 (by omega))
    · have h0 : (bts s).drop (a + i) = [] := List.drop_of_length_le (by rw [bts_len]; omega)
      rw [h0] at H
      rw [H]; exact finPure rfl

theorem rInt_c (s : ByteArray) (a : Int) (hs : s.size < 4611686018427387904) : PureC Tryd.prog 31 ⟨[.string s, .int .i64 a]⟩ (intAns s a) := by
  refine fun W => rInt_vc s a (Mem.start [] W) ?_
  refine ⟨fun h => finPure ?_, fun h => ⟨fun h2 => finPure ?_, fun h2 => ?_⟩⟩
  · simp [intAns, h]
  · simp [intAns, h2]
  · obtain ⟨n, rfl⟩ : ∃ n : Nat, a = n := ⟨a.toNat, by omega⟩
    rw [intAns, if_neg (by omega), Int.toNat_natCast]
    refine rInt_loop hs (by omega) 9 0 0 rfl (by simp) (by omega) ?_
    rw [rdInt, Nat.add_zero]
    cases rdGo 9 0 0 ((bts s).drop n) <;> rfl

/-! ### String -/
def strRes : Option (List UInt8 × Nat) → Nat → Value
  | none, _ => .tuple #[.string ⟨#[]⟩, .int .i64 0, .int .i64 10]
  | some (t, k), a => .tuple #[.string ⟨t.toArray⟩, .int .i64 ((a + k : Nat) : Int), .int .i64 0]
def strAns (s : ByteArray) (a : Int) : Value :=
  if a < 0 ∨ (s.size : Int) < a then .tuple #[.string ⟨#[]⟩, .int .i64 0, .int .i64 2] else strRes (rdStr ((bts s).drop a.toNat)) a.toNat

theorem str_law {P : Program} {g : FuncId} {s : ByteArray} {a : Int} (hs : s.size < 4611686018427387904) {w0 : World} (hI : PureC P g ⟨[.string s, .int .i64 a]⟩ (intAns s a)) :
      CallH P g ⟨[.string s, .int .i64 a]⟩ [] [] w0 (fun v L' => ∃ (r1 : Int) (r21 : Int) (r31 : Int), v = (.tuple #[.int .i64 r1, .int .i64 r21, .int .i64 r31]) ∧ L' = [] ∧
        ((¬ (r31 = (0 : Int))) →
          Fin (fun e W' => e = .returned (strAns s a) ∧ Below w0.heap.size w0 W') [] [] w0 (.tuple #[.string (⟨#[]⟩), .int .i64 (0 : Int), .int .i64 r31])) ∧
         ((r31 = (0 : Int)) →
          ((r1 < (0 : Int)) →
            Fin (fun e W' => e = .returned (strAns s a) ∧ Below w0.heap.size w0 W') [] [] w0 (.tuple #[.string (⟨#[]⟩), .int .i64 (0 : Int), .int .i64 (10 : Int)])) ∧
           ((¬ (r1 < (0 : Int))) →
            (((65536 : Int) < r1) →
              Fin (fun e W' => e = .returned (strAns s a) ∧ Below w0.heap.size w0 W') [] [] w0 (.tuple #[.string (⟨#[]⟩), .int .i64 (0 : Int), .int .i64 (10 : Int)])) ∧
             ((¬ ((65536 : Int) < r1)) →
              (((IntKind.i64.wrap ((s.size : Int) - r21)) < r1) →
                Fin (fun e W' => e = .returned (strAns s a) ∧ Below w0.heap.size w0 W') [] [] w0 (.tuple #[.string (⟨#[]⟩), .int .i64 (0 : Int), .int .i64 (10 : Int)])) ∧
               ((¬ ((IntKind.i64.wrap ((s.size : Int) - r21)) < r1)) →
                (0 ≤ r21 ∧ r21 ≤ (IntKind.i64.wrap (r21 + r1)) ∧ (IntKind.i64.wrap (r21 + r1)) ≤ s.size) ∧
                ∀ t4 : ByteArray, t4 = (s.extract (Int.toNat r21) (Int.toNat (IntKind.i64.wrap (r21 + r1)))) →
                ∀ t5 : Int, t5 = (IntKind.i64.wrap (r21 + r1)) →
                Fin (fun e W' => e = .returned (strAns s a) ∧ Below w0.heap.size w0 W') [] [] w0 (.tuple #[.string t4, .int .i64 t5, .int .i64 (0 : Int)])))))) := by
  refine CallH.pure hI ?_
  unfold intAns strAns
  by_cases h : a < 0 ∨ (s.size : Int) < a
  · rw [if_pos h, if_pos h]
    exact ⟨_, _, _, rfl, rfl, fun _ => finPure rfl, fun h => absurd h (by decide)⟩
  rw [if_neg h, if_neg h]
  obtain ⟨n, rfl⟩ : ∃ n : Nat, a = n := ⟨a.toNat, by omega⟩
  rw [Int.toNat_natCast]
  unfold rdStr
  cases hr : rdInt ((bts s).drop n) with
  | none => exact ⟨_, _, _, rfl, rfl, fun _ => finPure rfl, fun h => absurd h (by decide)⟩
  | some p =>
    obtain ⟨m, k⟩ := p
    obtain ⟨hm, hk, -, -⟩ := rdInt_inv hr
    have hk2 := hk
    rw [List.length_drop, bts_len] at hk
    have hm' := hm
    unfold okInt maxInt at hm'
    refine ⟨_, _, _, rfl, rfl, fun h => absurd rfl h, fun _ => ?_⟩
    have e1 : IntKind.i64.wrap ((s.size : Int) - ((n + k : Nat) : Int)) = ((s.size - (n + k) : Nat) : Int) := by rw [wi64 (by omega)]; omega
    rw [e1]
    have hl : ((((bts s).drop n).length - k : Nat) : Int) = ((s.size - (n + k) : Nat) : Int) := by rw [List.length_drop, bts_len]; omega
    simp only [hl]
    refine ⟨fun h1 => ?_, fun h1 => ⟨fun h2 => ?_, fun h2 => ⟨fun h3 => ?_, fun h3 => ?_⟩⟩⟩
    · rw [if_neg (by omega)]; exact finPure rfl
    · rw [if_neg (by omega)]; exact finPure rfl
    · rw [if_neg (by omega)]; exact finPure rfl
    · obtain ⟨q, rfl⟩ : ∃ q : Nat, m = q := ⟨m.toNat, by omega⟩
      have e2 : IntKind.i64.wrap (((n + k : Nat) : Int) + (q : Int)) = ((n + k + q : Nat) : Int) := by rw [wi64 (by omega)]; omega
      rw [e2]
      refine ⟨by omega, ?_⟩
      rintro t rfl t5 rfl
      rw [if_pos (by omega)]
      refine finPure ?_
      simp only [strRes, Int.toNat_natCast]
      have e3 : s.extract (n + k) (n + k + q) = ⟨(List.take q (List.drop k (List.drop n (bts s)))).toArray⟩ := by
        apply bts_inj
        rw [bts_extract, bts_mk, List.drop_drop]
        congr 1; omega
      rw [e3, Nat.add_assoc]

theorem String_c (s : ByteArray) (a : Int) (hs : s.size < 4611686018427387904) : PureC Tryd.prog 30 ⟨[.string s, .int .i64 a]⟩ (strAns s a) :=
  fun W => String_vc s a (Mem.start [] W) (str_law hs (Int_c s a hs))
theorem rString_c (s : ByteArray) (a : Int) (hs : s.size < 4611686018427387904) : PureC Tryd.prog 32 ⟨[.string s, .int .i64 a]⟩ (strAns s a) :=
  fun W => rString_vc s a (Mem.start [] W) (str_law hs (rInt_c s a hs))
end Go.Eng
