/- A part of the engine by which the functions are walked; it speaks of no program. -/
import Derived.Test.YtgplckfjbdnedaaDoorEngEff
namespace Go.Eng
open Go Go.RowKit

variable {P : Program} {f nt : Nat} {k : List Item} {e : Env} {L : SHeap} {S : List Nat} {w0 : World} {R : Goal P}

/-- The state in other words; of the slots only those that e' names. -/
theorem AtE.norm {k' : List Item} {e' : Env} {L' : SHeap} (hn : AtE P f nt k' e' L' S w0 R) (h : (k, restrict e (e'.map (·.1)), L) = (k', some e', L')) : AtE P f nt k e L S w0 R := by
  simp only [Prod.mk.injEq] at h
  obtain ⟨rfl, h, rfl⟩ := h
  intro t W hk hm
  exact hn t W ⟨hk.size, fun i v hv => hk.slot i v (restrict_get h i v hv)⟩ hm

/-- The head of a slice of which not even the row is known. -/
theorem AtE.sliceU {E : TypeId} {p : Option Addr} {len cap : Nat} {lo hi : Option Value} {y : Int} {sz : Nat} (h : (asSlice P nt k e, (P.info? E).map (·.size)) = (some (some (.slice E), .slice p len cap, lo, hi, none), some sz))
    (hlo : (∃ kd, lo = some (.int kd 0)) ∨ lo = none) (hhi : (∃ kd, hi = some (.int kd y)) ∨ (hi = none ∧ y = len ∧ len ≤ cap)) (hb : 0 ≤ y ∧ y ≤ cap)
    (hn : AtE P f nt (nextK k) (putE e (curDst nt k e) (.slice p y.toNat cap)) L S w0 R) : AtE P f nt k e L S w0 R := by
  simp only [Prod.mk.injEq] at h
  obtain ⟨h1, h2⟩ := h
  unfold asSlice at h1
  split at h1
  · next op hc =>
    split at h1
    · next T x' l2 h2' m2 hop =>
      simp only [Option.some.injEq, Prod.mk.injEq] at h1
      obtain ⟨hT, hx, hl2, hh2, hm2⟩ := h1
      cases hq : P.info? E with
      | none => rw [hq] at h2; cases h2
      | some ii =>
        rw [hq] at h2; simp at h2
        refine AtE.opV hc (fun W hm => ?_) hn
        simp only [execOp, hop, hx, hl2, hh2, hm2]
        refine run_lift ?_
        have key : (Instr.sliceBounds true len cap lo hi none).run P W = .ok (0, y.toNat, cap) W := by
          have hy : (y.toNat : Int) = y := Int.toNat_of_nonneg (by omega)
          have b1 : ∀ kd code, (Instr.sliceBound (.int kd y) cap code).run P W = .ok y.toNat W := fun kd code => run_sliceBound W kd y cap code (by omega) hb.2
          have b2 : ∀ kd code, (Instr.sliceBound (.int kd 0) y.toNat code).run P W = .ok 0 W := fun kd code => run_sliceBound W kd 0 y.toNat code (by omega) (by omega)
          have b3 : ∀ kd code, (Instr.sliceBound (.int kd 0) len code).run P W = .ok 0 W := fun kd code => run_sliceBound W kd 0 len code (by omega) (by omega)
          rcases hlo with ⟨kd, rfl⟩ | rfl <;> rcases hhi with ⟨kd', rfl⟩ | ⟨rfl, rfl, _⟩
          · simp only [Instr.sliceBounds, Sem.run_bind, Sem.run_pure, Result.andThen_ok, b1, b2]
          · simp [Instr.sliceBounds, b3, Result.andThen]
          · simp only [Instr.sliceBounds, Sem.run_bind, Sem.run_pure, Result.andThen_ok, b1]
          · simp [Instr.sliceBounds]
        simp only [Instr.sliceAt, Sem.run_bind, run_underlying hT, Result.andThen_ok, Instr.slice, key, sizeOf, typeInfo, run_program, hq, Sem.run_pure]
        have hp : (if cap = 0 then p else p.map (·.add (0 * ii.size))) = p := by
          split
          · rfl
          · cases p with
            | none => rfl
            | some a => simp [Addr.add]
        rw [hp]; simp
    · cases h1
  · cases h1
end Go.Eng
