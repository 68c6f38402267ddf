/- Contracts and plain laws for the proof; no claim of its own. -/
import Derived.RangeFuncNested
import Derived.RangeFuncFrom
import Derived.RangeFuncBound
import Derived.RangeFuncCalls
import Derived.RangeFuncLeaves
import Derived.Shelf.Abstract
import Derived.Shelf.RegionOpen
import Derived.WalkKit
import Derived.OwnWalkIn
import Derived.TacticsInMore
import Derived.LoopNIn
import Derived.LoopIn
import Derived.Outline
import Derived.Test.YtgplckfjbdnedaaDoorChecked
import Derived.Test.YtgplckfjbdnedaaDoorWireSpec
namespace Go.Proofs
open Go.RowKit Go.Shelf
attribute [local go_sem] Oper.semAt_some

open _root_.Wire

set_option maxRecDepth 100000 in
set_option maxHeartbeats 2000000 in
theorem Tryd.groups_in (F : Fence) (n : Nat) (h25 : F.fn 40) (hro : F.round = none) (hn : 1 ≤ n) (l Bz n₀ : Nat) (z : Nat) (hz : z < 9223372036854775808) (J Jx : List Int → World → Prop)
    (hY : ∀ pre x W, J pre W → pre.length < (lebI 9 z).length → YieldAt F (n - 1) Tryd.prog l #[.int .u8 x] W fun e W' =>
      (e = .returned (.bool true) ∧ J (pre ++ [x]) W' ∧ Below n₀ W W') ∨ (e = .returned (.bool false) ∧ Jx (pre ++ [x]) W'))
    (W : World) (hBz : W.cell? ⟨Bz, 0, none⟩ = some (.int .u64 z)) (h0 : J [] W) :
    CallsIn F n Tryd.prog 40 #[.func (.yield l) #[] #[], .pointer (some ⟨Bz, 0, none⟩)] W fun e W' => (∃ v, e = .returned v) ∧
      ((∃ ys, ys = lebI 9 z ∧ J ys W') ∨ (∃ pre, pre <+: lebI 9 z ∧ Jx pre W')) := by
  refine callsIn_of_wp Tryd.func40 rfl h25 ?_ hro
  simp only [Tryd.ntmps40, List.size_toArray, List.length_cons, List.length_nil, Nat.reduceAdd, Nat.reduceSub, Array.replicate_succ, Array.replicate_zero, List.push_toArray, List.append_toArray, List.nil_append, List.cons_append]
  gi_wp2
  gi_loopw [3] (fun p wr => ∃ (pre : List Int) (f r : Nat), p = .int .u64 r ∧ lebI 9 z = pre ++ lebI f r ∧ r < 128 ^ (f + 1) ∧ r < 9223372036854775808 ∧ J pre wr)
    (fun p wr => (intOf p).toNat)
  case atStart =>
    exact ⟨[], 9, z, rfl, rfl, by omega, hz, h0⟩
  case round =>
    obtain ⟨pre, f, r, rfl, hx, hr, hr2, hJs⟩ := hrel
    by_cases h : r < 128
    · have hl : lebI f r = [(r : Int)] := by cases f <;> simp [lebI, leb, h]; omega
      have hlen : pre.length < (lebI 9 z).length := by rw [hx, hl]; simp
      obtain ⟨fn, tmps, assign, body, hy, hR⟩ := hY pre r wr hJs hlen
      have HX : Hid (lebI 9 z = pre ++ lebI f r) := hx
      have HL : Hid (lebI f r = [(r : Int)]) := hl
      clear hx hl hr hlen hY
      gi_wp2
      refine hR.mono ?_
      rintro e W3 (⟨rfl, hJ3, _⟩ | ⟨rfl, hJx3⟩)
      · gi_wp2
        go_end0
        exact ⟨⟨_, rfl⟩, .inl ⟨_, rfl, by rw [HX.out, HL.out]; exact hJ3⟩⟩
      · gi_wp2
        go_end0
        exact ⟨⟨_, rfl⟩, .inr ⟨_, by rw [HX.out, HL.out]; exact List.prefix_rfl, hJx3⟩⟩
    · obtain ⟨f, rfl⟩ : ∃ g, f = g + 1 := by
        cases f with
        | zero => simp at hr; omega
        | succ g => exact ⟨g, rfl⟩
      have hl : lebI (f + 1) r = ((r : Int) % 128 + 128) :: lebI f (r / 128) := by simp [lebI, leb, h]
      have hlen : pre.length < (lebI 9 z).length := by rw [hx, hl]; simp
      obtain ⟨fn, tmps, assign, body, hy, hR⟩ := hY pre ((r : Int) % 128 + 128) wr hJs hlen
      have HX : Hid (lebI 9 z = (pre ++ [((r : Int) % 128 + 128)]) ++ lebI f (r / 128)) := by show _ = _; rw [hx, hl]; simp
      have HR : Hid (r / 128 < 128 ^ (f + 1)) := by show _ < _; rw [Nat.div_lt_iff_lt_mul (by omega)]; rw [Nat.pow_succ] at hr; exact hr
      clear hx hl hr hlen hY
      gi_wp2
      · refine hR.mono ?_
        rintro e W3 (⟨rfl, hJ3, _⟩ | ⟨rfl, hJx3⟩)
        · gi_wp2
          go_roundw
          case rel => exact ⟨_, f, r / 128, by go_num, HX.out, HR.out, by omega, hJ3⟩
          case measure => simp [intOf]; omega
        · gi_wp2
          refine bodyPost_ret (results_none rfl _ _ _) rfl ?_
          exact ⟨⟨_, rfl⟩, .inr ⟨_, by rw [HX.out]; exact List.prefix_append _ _, hJx3⟩⟩
end Go.Proofs
