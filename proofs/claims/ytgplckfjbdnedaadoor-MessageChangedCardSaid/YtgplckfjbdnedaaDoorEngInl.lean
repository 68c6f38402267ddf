/- A part of the engine by which the functions are walked; it speaks of no program. -/
import Derived.Test.YtgplckfjbdnedaaDoorEngPanic
namespace Go.Eng
open Go Go.RowKit

variable {P : Program} {f nt : Nat} {k : List Item} {e : Env} {L : SHeap} {S : List Nat} {w0 : World} {R : Goal P}

/-! ### A callee that is walked in its caller's walk -/

/-- What a callee's end has to meet, if the caller goes on at k with what it returned in slot d; or a panic is raised in the caller. -/
def InlR (P : Program) (f nt : Nat) (k : List Item) (e : Env) (d : Option Tmp) (S : List Nat) (w0 : World) (R : Goal P) : Ending → World → Prop :=
  fun en W' => (∃ v L', en = .returned v ∧ Mem L' S w0 W' ∧ AtE P f nt k (putE e d v) L' S w0 R) ∨ ∃ ch L', en = .panicked ch ∧ Mem L' S w0 W' ∧ RaiseE P f nt e ch L' S w0 R

theorem AtE.inl (g : FuncId) (args : Array Value) (hr : ∀ W, (execOp (rho e) (curO nt k e)).run P W = .ok (.enter g args) W)
    (hc : cur nt k e = some (curO nt k e)) (h : ∀ W, Mem L S w0 W → Calls P g args W (InlR P f nt (nextK k) e (curDst nt k e) S w0 R)) : AtE P f nt k e L S w0 R :=
  AtE.callP (K := fun v L' => AtE P f nt (nextK k) (putE e (curDst nt k e) v) L' S w0 R) (K' := fun ch L' => RaiseE P f nt e ch L' S w0 R) g args hr (by rw [← hc]) (fun W hm => h W hm) (fun _ _ h => h) (fun _ _ h => h)

theorem Fin.inl {f' nt' : Nat} {k' : List Item} {e' : Env} {d : Option Tmp} {v : Value} (h : AtE P f' nt' k' (putE e' d v) L S w0 R) : Fin (InlR P f' nt' k' e' d S w0 R) L S w0 v :=
  fun _ hm => .inl ⟨v, L, rfl, hm, h⟩

theorem AtE.retK {f' nt' : Nat} {k' : List Item} {e' : Env} {d : Option Tmp} {fn : Func} {v : Value} (hf : P.funcs[f]? = some fn) (hv : (isRet k, retV e fn.results.toList) = (true, some v))
    (h : AtE P f' nt' k' (putE e' d v) L S w0 R) : AtE P f nt k e L S w0 (nrm (InlR P f' nt' k' e' d S w0 R)) := by
  simp only [Prod.mk.injEq] at hv
  exact AtE.ret (v := v) (L1 := L) hf (by rw [hv.1, hv.2]) (Fin.inl h)

theorem AtE.retCK {f' nt' : Nat} {k' : List Item} {e' : Env} {d : Option Tmp} {fn : Func} {a : Tmp} {T : TypeId} {v : Value} (j off : Nat) (hf : P.funcs[f]? = some fn)
    (hv : (isRet k, fn.results.toList.length, get? e a, isCellsL L j, valAt P T (cellsL L j) off) = (true, 1, some (.pointer (some ⟨blkL L j, off, none⟩)), true, some v)) (hr : fn.results = #[.cell a T])
    (h : AtE P f' nt' k' (putE e' d v) L S w0 R) : AtE P f nt k e L S w0 (nrm (InlR P f' nt' k' e' d S w0 R)) := by
  simp only [Prod.mk.injEq] at hv
  exact AtE.retC (v := v) (L1 := L) j off hf (by rw [hv.1, hv.2.1, hv.2.2.1, hv.2.2.2.1, hv.2.2.2.2]) hr (Fin.inl h)

/-- A callee that was walked along panics: the panic is raised in its caller. -/
theorem RaiseE.inl {f' nt' : Nat} {k' : List Item} {e' : Env} {d : Option Tmp} {fn : Func} {ch : List PanicEntry} (hf : P.funcs[f]? = some fn)
    (h : RaiseE P f' nt' e' ch L S w0 R) : RaiseE P f nt e ch L S w0 (Eng.nrm (InlR P f' nt' k' e' d S w0 R)) :=
  RaiseE.nrm hf fun _ hm => .inr ⟨ch, L, rfl, hm, h⟩
end Go.Eng
