/- A part of the engine by which the functions are walked; it speaks of no program. -/
import Derived.Test.YtgplckfjbdnedaaDoorEngDrawRules
namespace Go.Eng
open Go Go.RowKit

/-! ### A region that draws its order, every order walked: the state depends on the set of what is done -/

variable {P : Program} {f nt : Nat} {k : List Item} {e : Env} {L : SHeap} {S : List Nat} {w0 : World} {R : Goal P}

/-- What is left of the region, its order drawn by whatever number. -/
def AtL (P : Program) (f nt : Nat) (ops : Array Oper) (fuel : Nat) (listed : Array Bool) (k : List Item) (e : Env) (L : SHeap) (S : List Nat) (w0 : World) (R : Goal P) : Prop :=
  ∀ t, AtE P f nt (.inRegion ops (Region.linearise.go .any ops fuel t listed []) :: k) e L S w0 R

def AllI (Φ : Nat → Prop) : List Nat → Prop
  | [] => True
  | i :: r => Φ i ∧ AllI Φ r
theorem AllI.get {Φ : Nat → Prop} : ∀ {l : List Nat}, AllI Φ l → ∀ i ∈ l, Φ i
  | _ :: _, h, _, .head _ => h.1
  | _ :: _, h, _, .tail _ hm => AllI.get h.2 _ hm

theorem AtL.step {ops : Array Oper} {fuel : Nat} {listed : Array Bool} (is : List Nat) (hr : (Region.ready .any ops listed, is.isEmpty) = (is, false))
    (h : AllI (fun i => ∀ t, AtE P f nt (.inRegion ops (i :: Region.linearise.go .any ops fuel t (listed.setIfInBounds i true) []) :: k) e L S w0 R) is) :
    AtL P f nt ops (fuel + 1) listed k e L S w0 R := by
  intro t
  simp only [Prod.mk.injEq] at hr
  obtain ⟨hr, hne⟩ := hr
  have hpos : 0 < is.length := by
    cases is with
    | nil => simp at hne
    | cons x xs => simp
  rw [go_cons, hr]
  have hlt : t % is.length < is.length := Nat.mod_lt _ hpos
  rw [List.getElem?_eq_getElem hlt]
  exact h.get _ (List.getElem_mem hlt) _

theorem AtE.drawAny {fuel : Nat} {listed : Array Bool} {ops0 : Array Oper} {k0 : List Item} (hk : (isDraw k, P.follows .mixedOrders, regOps k, restK k, (regOps k).size, Array.replicate (regOps k).size false) = (true, true, ops0, k0, fuel, listed))
    (h : AtL P f nt ops0 fuel listed k0 e L S w0 R) : AtE P f nt k e L S w0 R := by
  simp only [Prod.mk.injEq] at hk
  obtain ⟨h1, hm, rfl, rfl, rfl, rfl⟩ := hk
  unfold isDraw at h1
  split at h1
  · next id ops k' =>
    intro t w hkn hmm
    have hsch : ∀ τ, Region.schedule (P.follows .mixedOrders) ops τ = Region.linearise.go .any ops ops.size τ (Array.replicate ops.size false) [] := fun τ => by
      simp only [Region.schedule, hm, Bool.true_or, if_true]; rfl
    refine At.step (k' := .inRegion ops (Region.schedule (P.follows .mixedOrders) ops (w.tape w.drawn (.order f id))) :: k') (t' := t) (w' := { w with drawn := w.drawn + 1 })
      (fun b cs hb => by have := step_region_draw (P := P) (b := b) (a := ⟨t, R.ds⟩) (k := k') (cs := cs) (w := w) (id := id) (ops := ops); rw [hb] at this; exact this) ?_
    rw [hsch]
    exact h _ _ _ hkn ⟨hmm.nodup, hmm.here, hmm.own, ⟨hmm.kept.os, hmm.kept.tape, hmm.kept.output, hmm.kept.size, hmm.kept.block⟩⟩
  · cases h1

theorem oneByte {x : Int} {r : List Value} (h : 0 ≤ x ∧ x < 256) : ((.int .u8 x :: r : List Value).drop 0).take 1 = bytesL [UInt8.ofNat x.toNat] ∧ ([UInt8.ofNat x.toNat] : List UInt8).length = 1 := by
  refine ⟨?_, rfl⟩
  have : (UInt8.ofNat x.toNat).toNat = x.toNat := by rw [UInt8.toNat_ofNat']; omega
  simp only [List.drop_zero, List.take_succ_cons, List.take_zero, bytesL, List.map_cons, List.map_nil, this]
  congr 2; omega
end Go.Eng
