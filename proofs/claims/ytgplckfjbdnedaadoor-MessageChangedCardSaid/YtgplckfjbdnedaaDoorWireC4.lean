/- Contracts and plain laws for the proof; no claim of its own. -/
import Derived.Test.YtgplckfjbdnedaaDoorWireC3
import Derived.Test.YtgplckfjbdnedaaDoorCrcSpec
namespace Go.Eng
open Go Go.RowKit Go.Proofs Wire

/-! ### Sum -/
def tabV : List Value := shiftTab.map fun n : Nat => .int .u32 (n : Int)
theorem tabV_get {q : Nat} (h : q < 16) : tabV[q]? = some (.int .u32 ((shiftTab.getD q 0 : Nat) : Int)) := by
  have hl : q < shiftTab.length := h
  simp only [tabV, List.getElem?_map, List.getElem?_eq_getElem hl, Option.map_some, List.getD_eq_getElem?_getD, Option.getD_some]
theorem tab_lt {q : Nat} (h : q < 16) : shiftTab.getD q 0 < 2 ^ 32 := by
  have : ∀ q : _root_.Fin 16, shiftTab.getD q.val 0 < 2 ^ 32 := by decide
  exact this ⟨q, h⟩
theorem inot32 {r : Nat} (h : r < 2 ^ 32) : inot .u32 (r : Int) = ((4294967295 ^^^ r : Nat) : Int) := by
  show ixor .u32 ((4294967295 : Nat) : Int) (r : Int) = _
  rw [ixor32 (by decide) h]

theorem crcFrom_cons (r : Nat) (b : UInt8) (l : List UInt8) : crcFrom r (b :: l) = crcFrom (crcByte r b.toNat) l := rfl

theorem Sum_loop {s : ByteArray} (hs : s.size < 4611686018427387904) {w0 : World} (hw : blkW w0 0 = some tabV) : ∀ (g i r : Nat), g + i = s.size → r < 2 ^ 32 → crcFrom 4294967295 (bts s) = crcFrom r ((bts s).drop i) →
    Sum_c0 s (r : Int) (i : Int) w0 (fun e W' => e = .returned (.int .i64 (crc (bts s) : Int)) ∧ Below w0.heap.size w0 W')
  | 0, i, r, hg, hr, H => by
    apply Sum_c0_vc
    refine ⟨fun h => absurd h (by omega), fun _ => ?_⟩
    rintro t rfl
    refine finPure ?_
    have h0 : (bts s).drop i = [] := List.drop_of_length_le (by rw [bts_len]; omega)
    rw [h0] at H
    have hx : 4294967295 ^^^ r < 2 ^ 32 := Nat.xor_lt_two_pow (by decide) hr
    rw [inot32 hr, wi64 (by omega), crc, H]; rfl
  | g + 1, i, r, hg, hr, H => by
    apply Sum_c0_vc
    have hlt : i < (bts s).length := by rw [bts_len]; omega
    have hd : (bts s).drop i = (bts s)[i] :: (bts s).drop (i + 1) := List.drop_eq_getElem_cons hlt
    rw [hd] at H
    obtain ⟨B, hB⟩ : ∃ B : UInt8, B = (bts s)[i] := ⟨_, rfl⟩
    rw [← hB] at H
    have hBl := B.toNat_lt
    refine ⟨fun _ => ⟨by omega, ?_⟩, fun h => absurd (by omega) h⟩
    rintro r1 hr1
    rw [bat_get hlt, ← hB, wu32 (by omega), ixor32 hr (by omega)] at hr1
    subst hr1
    have hx : r ^^^ B.toNat < 2 ^ 32 := Nat.xor_lt_two_pow hr (by omega)
    obtain ⟨x, hxd⟩ : ∃ x, x = r ^^^ B.toNat := ⟨_, rfl⟩
    rw [← hxd] at hx ⊢
    have half : ∀ x : Nat, x < 2 ^ 32 → ∀ K : Int → Prop, K (steps 4 x : Int) → (0 ≤ ((x : Int).tmod (16 : Int)) ∧ ((x : Int).tmod (16 : Int)) < 16) ∧
        ∃ (cw : List Value) (m1 : Int), blkW w0 0 = some cw ∧ cw[(Int.toNat ((x : Int).tmod (16 : Int)))]? = some (.int .u32 m1) ∧ ∀ r2 : Int, r2 = (ixor .u32 ((x : Int).fdiv (2 ^ 4)) m1) → K r2 := by
      intro x hx K hK
      have hq : x % 16 < 16 := Nat.mod_lt _ (by decide)
      have e1 : (x : Int).tmod 16 = ((x % 16 : Nat) : Int) := tmod_nat x 16
      have e2 : (x : Int).fdiv (2 ^ 4) = ((x / 16 : Nat) : Int) := fdiv_nat x 16
      rw [e1, e2, Int.toNat_natCast]
      refine ⟨by omega, tabV, _, hw, tabV_get hq, ?_⟩
      rintro r2 rfl
      rw [ixor32 (by omega) (tab_lt hq), ← nibble]; exact hK
    refine (half x hx (fun r2 => _) ?_)
    refine (half (steps 4 x) (steps_lt 4 hx) (fun r3 => _) ?_)
    rintro i1 rfl
    have ei : IntKind.i64.wrap ((i : Int) + 1) = ((i + 1 : Nat) : Int) := by rw [wi64 (by omega)]; omega
    rw [ei]
    have hc : steps 4 (steps 4 x) = crcByte r B.toNat := by rw [crcByte_nib, hxd]
    rw [hc]
    exact Sum_loop hs hw g (i + 1) _ (by omega) (crcByte_lt hr (byte_lt B)) (by rw [H, crcFrom_cons])

theorem Sum_c (s : ByteArray) (hs : s.size < 4611686018427387904) : PureG Tryd.prog 19 ⟨[.string s]⟩ 0 tabV (.int .i64 (crc (bts s) : Int)) :=
  fun W hw => Sum_vc s (Mem.start [] W) (Sum_loop hs hw s.size 0 4294967295 (by omega) (by decide) rfl)

/-! ### the reference's Sum -/
theorem rSum_loops {s : ByteArray} (hs : s.size < 4611686018427387904) {w0 : World} : ∀ (g : Nat),
    (∀ i r, g + i = s.size → r < 2 ^ 32 → crcFrom 4294967295 (bts s) = crcFrom r ((bts s).drop i) →
      rSum_c0 s (r : Int) (i : Int) w0 (fun e W' => e = .returned (.int .i64 (crc (bts s) : Int)) ∧ Below w0.heap.size w0 W'))
  | 0 => by
    intro i r hg hr H
    apply rSum_c0_vc
    refine ⟨fun h => absurd h (by omega), fun _ => ?_⟩
    rintro t rfl
    refine finPure ?_
    have h0 : (bts s).drop i = [] := List.drop_of_length_le (by rw [bts_len]; omega)
    rw [h0] at H
    have hx : 4294967295 ^^^ r < 2 ^ 32 := Nat.xor_lt_two_pow (by decide) hr
    rw [inot32 hr, wi64 (by omega), crc, H]; rfl
  | g + 1 => by
    intro i r hg hr H
    have inner : ∀ (q k x : Nat), q + k = 8 → x < 2 ^ 32 → crcFrom 4294967295 (bts s) = crcFrom (steps q x) ((bts s).drop (i + 1)) →
        rSum_c1 s (x : Int) (i : Int) (k : Int) w0 (fun e W' => e = .returned (.int .i64 (crc (bts s) : Int)) ∧ Below w0.heap.size w0 W') := by
      intro q
      induction q with
      | zero =>
        intro k x hk hx hc
        apply rSum_c1_vc
        refine ⟨fun h => absurd h (by omega), fun _ => ?_⟩
        rintro i2 rfl
        have ei : IntKind.i64.wrap ((i : Int) + 1) = ((i + 1 : Nat) : Int) := by rw [wi64 (by omega)]; omega
        rw [ei]
        exact rSum_loops hs g (i + 1) x (by omega) hx hc
      | succ q ih =>
        intro k x hk hx hc
        apply rSum_c1_vc
        have ek : IntKind.i64.wrap ((k : Int) + 1) = ((k + 1 : Nat) : Int) := by rw [wi64 (by omega)]; omega
        have e1 : (x : Int).tdiv 2 = ((x / 2 : Nat) : Int) := tdiv_nat x 2
        have e2 : (x : Int).tmod 2 = ((x % 2 : Nat) : Int) := tmod_nat x 2
        rw [ek, e1, e2, wu32 (by omega)]
        refine ⟨fun _ => ?_, fun h => absurd (by omega) h⟩
        rintro r3 rfl
        refine ⟨fun h => ?_, fun h => ?_⟩
        · rintro r4 hr4 _ rfl
          have hp : (2197175160 : Int) = ((2197175160 : Nat) : Int) := rfl
          rw [hp, ixor32 (by omega) (by decide)] at hr4
          subst hr4
          have hb : bitStep x = x / 2 ^^^ 2197175160 := by rw [bitStep, if_pos (by omega)]
          rw [← hb]
          exact ih (k + 1) _ (by omega) (bitStep_lt hx) hc
        · rintro _ rfl
          have hb : bitStep x = x / 2 := by rw [bitStep, if_neg (by omega)]
          rw [← hb]
          exact ih (k + 1) _ (by omega) (bitStep_lt hx) hc
    apply rSum_c0_vc
    have hlt : i < (bts s).length := by rw [bts_len]; omega
    have hd : (bts s).drop i = (bts s)[i] :: (bts s).drop (i + 1) := List.drop_eq_getElem_cons hlt
    rw [hd] at H
    obtain ⟨B, hB⟩ : ∃ B : UInt8, B = (bts s)[i] := ⟨_, rfl⟩
    rw [← hB] at H
    have hBl := B.toNat_lt
    refine ⟨fun _ => ⟨by omega, ?_⟩, fun h => absurd (by omega) h⟩
    rintro r1 hr1
    rw [bat_get hlt, ← hB, wu32 (by omega), ixor32 hr (by omega)] at hr1
    subst hr1
    exact inner 8 0 _ rfl (Nat.xor_lt_two_pow hr (by omega)) (by rw [H, crcFrom_cons]; rfl)

theorem rSum_c (s : ByteArray) (hs : s.size < 4611686018427387904) : PureC Tryd.prog 25 ⟨[.string s]⟩ (.int .i64 (crc (bts s) : Int)) :=
  fun W => rSum_vc s (Mem.start [] W) (rSum_loops hs s.size 0 4294967295 (by omega) (by decide) rfl)

/-! ### sane -/
end Go.Eng
