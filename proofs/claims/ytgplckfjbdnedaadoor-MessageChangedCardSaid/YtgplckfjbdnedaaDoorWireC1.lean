/- Contracts and plain laws for the proof; no claim of its own. -/
import Derived.Test.YtgplckfjbdnedaaDoorEngV1
import Derived.Test.YtgplckfjbdnedaaDoorEngArith
import Derived.Test.YtgplckfjbdnedaaDoorWireSpec
namespace Go.Eng
open Go Go.RowKit Go.Proofs Wire

abbrev bts (s : ByteArray) : List UInt8 := s.data.toList
theorem bts_len (s : ByteArray) : (bts s).length = s.size := rfl

/-- What Int answers. -/
def intRes : Option (Int × Nat) → Nat → Value
  | none, _ => .tuple #[.int .i64 0, .int .i64 0, .int .i64 10]
  | some (n, k), a => .tuple #[.int .i64 n, .int .i64 ((a + k : Nat) : Int), .int .i64 0]
theorem intRes_map (o : Option (Int × Nat)) (a : Nat) : intRes (o.map fun p => (p.1, p.2 + 1)) a = intRes o (a + 1) := by
  cases o with
  | none => rfl
  | some p => simp [intRes]; omega
def intAns (s : ByteArray) (a : Int) : Value :=
  if a < 0 ∨ (s.size : Int) < a then .tuple #[.int .i64 0, .int .i64 0, .int .i64 2] else intRes (rdInt ((bts s).drop a.toNat)) a.toNat

theorem pow128 (i : Nat) : (2 : Nat) ^ (7 * i) = 128 ^ i := by rw [Nat.pow_mul]

theorem Int_loop {s : ByteArray} (hs : s.size < 4611686018427387904) {w0 : World} {R : Ending → World → Prop} : ∀ (g i z a : Nat), g + i = 9 → a ≤ s.size → z < 128 ^ i →
    Fin R [] [] w0 (intRes (rdGo g i z ((bts s).drop a)) a) → Int_c0 s (a : Int) (z : Int) ((7 * i : Nat) : Int) w0 R
  | 0, i, z, a, hg, ha, hz, H => by
    apply Int_c0_vc
    refine ⟨fun h => absurd h (by omega), fun _ => ?_⟩
    simpa [rdGo, intRes] using H
  | g + 1, i, z, a, hg, ha, hz, H => by
    apply Int_c0_vc
    refine ⟨fun _ => ⟨fun h => ?_, fun h => ?_⟩, fun h => absurd (by omega) h⟩
    · have h0 : (bts s).drop a = [] := List.drop_of_length_le (by rw [bts_len]; omega)
      rw [h0] at H
      simpa [rdGo, intRes] using H
    · have hlt : a < (bts s).length := by rw [bts_len]; omega
      have hd : (bts s).drop a = (bts s)[a] :: (bts s).drop (a + 1) := List.drop_eq_getElem_cons hlt
      rw [hd] at H
      obtain ⟨B, hB⟩ : ∃ B : UInt8, B = (bts s)[a] := ⟨_, rfl⟩
      rw [← hB] at H
      have hBl := B.toNat_lt
      refine ⟨by omega, ?_⟩
      rintro b hb _ rfl
      rw [bat_get hlt, ← hB] at hb
      refine ⟨by omega, ?_⟩
      rintro z1 hz1
      have e128 : b.tmod 128 = ((B.toNat % 128 : Nat) : Int) := by rw [hb]; exact tmod_nat _ 128
      have hp : (128 : Nat) ^ i * 128 ≤ 9223372036854775808 := by
        have : (128 : Nat) ^ i ≤ 128 ^ 8 := Nat.pow_le_pow_right (by decide) (by omega)
        have h8 : (128 : Nat) ^ 8 * 128 = 9223372036854775808 := by decide
        omega
      have hm : B.toNat % 128 * 128 ^ i < 9223372036854775808 := by
        have h1 : B.toNat % 128 < 128 := Nat.mod_lt _ (by decide)
        have h2 : B.toNat % 128 * 128 ^ i < 128 * 128 ^ i := Nat.mul_lt_mul_of_pos_right h1 (Nat.pow_pos (by decide))
        omega
      have hsum : z + B.toNat % 128 * 128 ^ i < 128 ^ (i + 1) := by
        have h1 : B.toNat % 128 ≤ 127 := by omega
        have h2 : B.toNat % 128 * 128 ^ i ≤ 127 * 128 ^ i := Nat.mul_le_mul_right _ h1
        rw [Nat.pow_succ]; omega
      have hz1' : z1 = ((z + B.toNat % 128 * 128 ^ i : Nat) : Int) := by
        rw [hz1, e128, wu64 (x := ((B.toNat % 128 : Nat) : Int)) (by omega)]
        have e1 : min (Int.toNat ((7 * i : Nat) : Int)) 64 = 7 * i := by omega
        have e2 : ((B.toNat % 128 : Nat) : Int) * 2 ^ (7 * i) = ((B.toNat % 128 * 2 ^ (7 * i) : Nat) : Int) := by simp
        rw [e1, e2, pow128, wu64 (by omega), ior64 (by omega) (by omega), ← pow128, or_add (by rw [pow128]; exact hz)]
      clear hz1
      have ew : IntKind.i64.wrap ((a : Int) + 1) = ((a + 1 : Nat) : Int) := by rw [wi64 (by omega)]; simp
      have es : IntKind.i64.wrap (((7 * i : Nat) : Int) + 7) = ((7 * (i + 1) : Nat) : Int) := by rw [wi64 (by omega)]; omega
      refine ⟨fun hc => ?_, fun hc => ?_⟩
      · rintro _ rfl
        rw [ew, es, hz1']
        refine Int_loop hs g (i + 1) _ (a + 1) (by omega) (by omega) hsum ?_
        rw [← intRes_map]
        have : 128 ≤ B.toNat := by omega
        simpa [rdGo, this] using H
      · have hnc : ¬ 128 ≤ B.toNat := by omega
        simp only [rdGo, hnc, if_false] at H
        obtain ⟨Z, hZ⟩ : ∃ Z, Z = z + B.toNat % 128 * 128 ^ i := ⟨_, rfl⟩
        have hZl : Z < 9223372036854775808 := by
          have : (128 : Nat) ^ (i + 1) = 128 ^ i * 128 := Nat.pow_succ ..
          omega
        rw [← hZ] at H hz1'
        subst hz1'
        have et : ((Z : Int).tdiv 2) = ((Z / 2 : Nat) : Int) := tdiv_nat Z 2
        have em : ((Z : Int).tmod 2) = ((Z % 2 : Nat) : Int) := tmod_nat Z 2
        rw [ew, et, em, wu64 (by omega), wi64 (by omega)]
        have hu1 : Z % 2 = 1 → unzig Z = -((Z / 2 : Nat) : Int) - 1 := fun h => by simp [unzig, h]
        have hu0 : ¬ Z % 2 = 1 → unzig Z = ((Z / 2 : Nat) : Int) := fun h => by simp [unzig, h]
        have hi : (0 : Int) < ((7 * i : Nat) : Int) ↔ 0 < i := by omega
        have hb0 : b = 0 ↔ B.toNat = 0 := by omega
        rintro n rfl
        rw [hi, hb0]
        have main : ∀ m : Int, unzig Z = m → (B.toNat = 0 → (0 < i → Fin R [] [] w0 (.tuple #[.int .i64 0, .int .i64 0, .int .i64 10])) ∧ (¬ 0 < i → (m < -4611686018427387903 → Fin R [] [] w0 (.tuple #[.int .i64 0, .int .i64 0, .int .i64 10])) ∧ (¬ m < -4611686018427387903 → Fin R [] [] w0 (.tuple #[.int .i64 m, .int .i64 ((a + 1 : Nat) : Int), .int .i64 0])))) ∧
            (¬ B.toNat = 0 → (m < -4611686018427387903 → Fin R [] [] w0 (.tuple #[.int .i64 0, .int .i64 0, .int .i64 10])) ∧ (¬ m < -4611686018427387903 → Fin R [] [] w0 (.tuple #[.int .i64 m, .int .i64 ((a + 1 : Nat) : Int), .int .i64 0]))) := by
          intro m hm
          rw [hm] at H
          unfold maxInt at H
          refine ⟨fun h1 => ⟨fun h2 => ?_, fun h2 => ⟨fun h3 => ?_, fun h3 => ?_⟩⟩, fun h1 => ⟨fun h3 => ?_, fun h3 => ?_⟩⟩
          · rw [if_pos (.inl ⟨h1, h2⟩)] at H; exact H
          · rw [if_pos (.inr h3)] at H; exact H
          · rw [if_neg (by omega)] at H; exact H
          · rw [if_pos (.inr h3)] at H; exact H
          · rw [if_neg (by omega)] at H; exact H
        refine ⟨fun h => ?_, fun h => ?_⟩
        · rintro n1 rfl
          have e1 : IntKind.i64.wrap (IntKind.i64.wrap (0 - ((Z / 2 : Nat) : Int)) - 1) = -((Z / 2 : Nat) : Int) - 1 := by
            rw [wi64 (x := 0 - ((Z / 2 : Nat) : Int)) (by omega), wi64 (by omega)]; omega
          rw [e1]
          exact main _ (hu1 (by omega))
        · exact main _ (hu0 (by omega))

theorem Int_c (s : ByteArray) (a : Int) (hs : s.size < 4611686018427387904) : PureC Tryd.prog 20 ⟨[.string s, .int .i64 a]⟩ (intAns s a) := by
  refine fun W => Int_vc s a (Mem.start [] W) ?_
  have hF : ∀ v, v = intAns s a → Fin (fun e W' => e = .returned (intAns s a) ∧ Below W.heap.size W W') [] [] W v := fun v hv W' hm => ⟨by rw [hv], hm.kept.below⟩
  refine ⟨fun h => hF _ ?_, fun h => ⟨fun h2 => hF _ ?_, fun h2 => ?_⟩⟩
  · simp [intAns, h]
  · simp [intAns, h2]
  · obtain ⟨n, rfl⟩ : ∃ n : Nat, a = n := ⟨a.toNat, by omega⟩
    refine Int_loop hs 9 0 0 n rfl (by omega) (by simp) (hF _ ?_)
    rw [intAns, if_neg (by omega)]; rfl
end Go.Eng
