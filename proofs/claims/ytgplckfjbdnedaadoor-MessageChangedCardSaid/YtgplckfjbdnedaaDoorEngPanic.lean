/- A part of the engine by which the functions are walked; it speaks of no program. -/
import Derived.Test.YtgplckfjbdnedaaDoorEngNorm
import Derived.Recover
namespace Go.Eng
open Go Go.RowKit

variable {P : Program} {f nt : Nat} {k : List Item} {e : Env} {L : SHeap} {S : List Nat} {w0 : World} {G : Goal P}

/-! ### Where a panic goes -/

/-- An activation that a panic is raised in. -/
def RaiseE (P : Program) (f nt : Nat) (e : Env) (ch : List PanicEntry) (L : SHeap) (S : List Nat) (w0 : World) (G : Goal P) : Prop :=
  ∀ t W k, Knows nt e t → Mem L S w0 W → ∀ (b : Frame) (cs : List Frame), b.fn = f → G.ok b cs (lone { b.at ⟨t, G.ds⟩ k with mode := .panicking ch } cs W)

/-- What a callee may come to: it returns and the caller goes on at K, or it panics and K' holds. -/
def CallP (P : Program) (g : FuncId) (args : Array Value) (L : SHeap) (S : List Nat) (w0 : World) (K : Value → SHeap → Prop) (K' : List PanicEntry → SHeap → Prop) : Prop :=
  ∀ W, Mem L S w0 W → Calls P g args W fun e W' => (∃ v L', e = .returned v ∧ Mem L' S w0 W' ∧ K v L') ∨ ∃ ch L', e = .panicked ch ∧ Mem L' S w0 W' ∧ K' ch L'

theorem CallP.of {g : FuncId} {args : Array Value} {K : Value → SHeap → Prop} {K' : List PanicEntry → SHeap → Prop} (h : CallH P g args L S w0 K) : CallP P g args L S w0 K K' :=
  fun W hm => (h W hm).mono fun _ _ hh => .inl hh

theorem At.enterP {t : Array Value} {w w' : World} {ops : Array Oper} {i : Nat} {rest : List Nat} {o : Oper} {g : FuncId} {args : Array Value} {k : List Item}
    (ho : ops[i]? = some o) (hw : Region.wanted o (yielded ops t) = true) (hr : (execOp (Act.mk t []).eval o).run P w = .ok (.enter g args) w')
    (h : Calls P g args w' fun e w'' => (∃ v, e = .returned v ∧ At P f (.inRegion ops rest :: k) ((Act.mk t []).put o.dst v).tmps w'' G) ∨
      ∃ ch, e = .panicked ch ∧ ∀ (b : Frame) (cs : List Frame), b.fn = f → G.ok b cs (lone { b.at ⟨t, G.ds⟩ (.inRegion ops (i :: rest) :: k) with mode := .panicking ch } cs w'')) :
    At P f (.inRegion ops (i :: rest) :: k) t w G := by
  intro b cs hb
  have hg := stepG_op (P := P) (b := b) (a := ⟨t, G.ds⟩) (k := k) (cs := cs) (w := w) (rest := rest) ho hw
  have hr' : (execOp (Act.mk t G.ds).eval o).run P w = .ok (.enter g args) w' := hr
  obtain ⟨e, w'', fr, hR, hsteps, _, hleave⟩ := h (b.at ⟨t, G.ds⟩ (.inRegion ops (i :: rest) :: k) :: cs)
  have henter : Go.step P (lone (b.at ⟨t, G.ds⟩ (.inRegion ops (i :: rest) :: k)) cs w) =
      .next (lone (Frame.enter P g args .normal) (b.at ⟨t, G.ds⟩ (.inRegion ops (i :: rest) :: k) :: cs) w') :=
    step_lone_go (by rw [hg]; simp [stepG.apply, hr', Frame.at])
  rcases hR with ⟨v, rfl, hR⟩ | ⟨ch, rfl, hR⟩
  · have hfin : (b.at ⟨t, G.ds⟩ (.inRegion ops (i :: rest) :: k)).finish v = b.at ⟨((Act.mk t []).put o.dst v).tmps, G.ds⟩ (.inRegion ops rest :: k) := by
      rw [Frame.finish_at, ho]
      show b.at ((Act.mk t G.ds).put o.dst v) _ = _
      rw [put_eta]
    refine G.back _ _ _ _ (.head henter (Steps.trans hsteps (.one (step_leave_returned hleave)))) ?_
    rw [hfin]; exact hR b cs hb
  · refine G.back _ _ _ _ (.head henter (Steps.trans hsteps (.one (step_leave_panicked hleave)))) ?_
    rw [Frame.raise_at]; exact hR b cs hb

theorem AtE.callP (g : FuncId) (args : Array Value) {L1 : SHeap} {K : Value → SHeap → Prop} {K' : List PanicEntry → SHeap → Prop} (hr : ∀ W, (execOp (rho e) (curO nt k e)).run P W = .ok (.enter g args) W)
    (hc : (cur nt k e, L) = (some (curO nt k e), L1)) (h : CallP P g args L1 S w0 K K')
    (hn : ∀ v L', K v L' → AtE P f nt (nextK k) (putE e (curDst nt k e) v) L' S w0 G) (hp : ∀ ch L', K' ch L' → RaiseE P f nt e ch L' S w0 G) : AtE P f nt k e L S w0 G := by
  intro t W hk hm
  simp only [Prod.mk.injEq] at hc
  obtain ⟨hc, rfl⟩ := hc
  obtain ⟨ops, i, rest, k', rfl, ho, hw, hkn, hpl, hd⟩ := cur_spec hc
  have hr' := hr W
  rw [← execOp_congr (Act.mk t []).eval (rho e) _ hpl (hk.rho hkn [])] at hr'
  refine At.enterP ho (hk.wanted hw) hr' ((h W hm).mono fun en W' hh => ?_)
  rcases hh with ⟨v, L', he, hm', hK⟩ | ⟨ch, L', he, hm', hK⟩
  · refine .inl ⟨v, he, hn v L' hK _ W' ?_ hm'⟩
    have := hk.put hd v []
    simpa only [curDst, hc] using this
  · exact .inr ⟨ch, he, fun b cs hb => hp ch L' hK _ W' _ hk hm' b cs hb⟩

/-! ### A panic of its own -/
def asPanic (nt : Nat) (k : List Item) (e : Env) : Option Value :=
  match cur nt k e with
  | some o => match o.op with
    | .panic x => some (rho e x)
    | _ => none
  | none => none

theorem AtE.panic {t : TypeId} {v : Value} (h : asPanic nt k e = some (.iface t v)) (hn : RaiseE P f nt e [{ v := .iface t v, recovered := false }] L S w0 G) : AtE P f nt k e L S w0 G := by
  unfold asPanic at h
  split at h
  · next o hc =>
    split at h
    · next x ho =>
      simp only [Option.some.injEq] at h
      intro tm W hk hm b cs hb
      obtain ⟨ops, i, rest, k', rfl, hoi, hw, hkn, hpl, hd⟩ := cur_spec hc
      have hr : (execOp (rho e) o).run P W = .halt (.panic (.iface t v)) W := by
        simp only [execOp, ho, h]
        rfl
      rw [← execOp_congr (Act.mk tm []).eval (rho e) o hpl (hk.rho hkn [])] at hr
      have hr' : (execOp (Act.mk tm G.ds).eval o).run P W = .halt (.panic (.iface t v)) W := hr
      have hg := stepG_op (P := P) (b := b) (a := ⟨tm, G.ds⟩) (k := k') (cs := cs) (w := W) (rest := rest) hoi (hk.wanted hw)
      refine G.back _ _ _ _ (.one (step_lone_go ?_)) (hn tm W (.inRegion ops (i :: rest) :: k') hk hm b cs hb)
      rw [hg, ← Frame.raise_at]; simp [stepG.apply, hr']
    · cases h
  · cases h

/-! ### The ends -/
/-- The results, whatever the world in which the known blocks lie. -/
def ResOk (P : Program) (fn : Func) (nt : Nat) (e : Env) (L : SHeap) (S : List Nat) (w0 : World) (v : Value) : Prop :=
  ∀ t W, Knows nt e t → Mem L S w0 W → (results fn t).run P W = .ok v W

theorem ResOk.tmps {fn : Func} {v : Value} (h : retV e fn.results.toList = some v) : ResOk P fn nt e L S w0 v :=
  fun _ W hk _ => results_run hk h W

theorem load_res {W : World} (hm : Mem L S w0 W) {j off : Nat} {T : TypeId} {v : Value} (h3 : isCellsL L j = true) (h4 : valAt P T (cellsL L j) off = some v) :
    (loadVar T ⟨blkL L j, off, none⟩).run P W = .ok v W := by
  have hld := load_run (P := P) (hm.heapAt h3) h4
  simp only [Instr.loadAt, Sem.run_bind, Instr.sureAddr, Sem.run_pure, Result.andThen] at hld
  simpa using hld

theorem ResOk.cells2 {fn : Func} {a b : Tmp} {T U : TypeId} {u v : Value} (j off j2 off2 : Nat) (hr : fn.results = #[.cell a T, .cell b U])
    (h : (get? e a, isCellsL L j, valAt P T (cellsL L j) off, get? e b, isCellsL L j2, valAt P U (cellsL L j2) off2) = (some (.pointer (some ⟨blkL L j, off, none⟩)), true, some u, some (.pointer (some ⟨blkL L j2, off2, none⟩)), true, some v)) :
    ResOk P fn nt e L S w0 (.tuple #[u, v]) := by
  simp only [Prod.mk.injEq] at h
  obtain ⟨h1, h2, h3, h4, h5, h6⟩ := h
  intro t W hk hm
  have hu := load_res (P := P) hm h2 h3
  have hv := load_res (P := P) hm h5 h6
  have ha : t[a]?.getD undef = .pointer (some ⟨blkL L j, off, none⟩) := by rw [← Array.getD_eq_getD_getElem?]; exact hk.getD h1
  have hb : t[b]?.getD undef = .pointer (some ⟨blkL L j2, off2, none⟩) := by rw [← Array.getD_eq_getD_getElem?]; exact hk.getD h4
  simp [results, hr, ha, hb, asAddr, Sem.run_bind, Result.andThen, hu, hv]

theorem ResOk.ct {fn : Func} {a b : Tmp} {T : TypeId} {u v : Value} (j off : Nat) (hr : fn.results = #[.cell a T, .tmp b])
    (h : (get? e a, isCellsL L j, valAt P T (cellsL L j) off, get? e b) = (some (.pointer (some ⟨blkL L j, off, none⟩)), true, some u, some v)) :
    ResOk P fn nt e L S w0 (.tuple #[u, v]) := by
  simp only [Prod.mk.injEq] at h
  obtain ⟨h1, h2, h3, h4⟩ := h
  intro t W hk hm
  have hu := load_res (P := P) hm h2 h3
  have ha : t[a]?.getD undef = .pointer (some ⟨blkL L j, off, none⟩) := by rw [← Array.getD_eq_getD_getElem?]; exact hk.getD h1
  have hb : t[b]?.getD undef = v := by rw [← Array.getD_eq_getD_getElem?]; exact hk.getD h4
  simp [results, hr, ha, hb, asAddr, Result.andThen, hu]

theorem AtE.retR {R : Ending → World → Prop} {fn : Func} {v : Value} {L1 : SHeap} (hf : P.funcs[f]? = some fn) (hk1 : (isRet k, L) = (true, L1)) (hr : ResOk P fn nt e L S w0 v) (h : Fin R L1 S w0 v) : AtE P f nt k e L S w0 (Eng.nrm R) := by
  simp only [Prod.mk.injEq] at hk1
  obtain ⟨hk1, rfl⟩ := hk1
  intro t W hk hm
  unfold isRet at hk1
  split at hk1
  · exact At.ret hf (hr t W hk hm) (h W hm)
  · exact At.fin hf (hr t W hk hm) (h W hm)
  · cases hk1

def FinP (R : Ending → World → Prop) (L : SHeap) (S : List Nat) (w0 : World) (ch : List PanicEntry) : Prop := ∀ W, Mem L S w0 W → R (.panicked ch) W

theorem RaiseE.nrm {R : Ending → World → Prop} {fn : Func} {ch : List PanicEntry} (hf : P.funcs[f]? = some fn) (h : FinP R L S w0 ch) : RaiseE P f nt e ch L S w0 (nrm R) := by
  intro t W k hk hm b cs hb hkd
  exact ⟨.panicked ch, W, _, h W hm, Steps.refl P _, rfl, rfl, rfl, fn, by rw [← hf, ← hb]; rfl⟩

/-- What a deferred call does: it returns, the mode of its caller is u' then. -/
def DCall (P : Program) (g : FuncId) (args : Array Value) (L : SHeap) (S : List Nat) (w0 : World) (u : FrameMode) (K : FrameMode → SHeap → Prop) : Prop :=
  ∀ W, Mem L S w0 W → CallsD P g args u W fun e u' W' => ∃ v L', e = .returned v ∧ Mem L' S w0 W' ∧ K u' L'

theorem leaves_one {fn : Func} {t : Array Value} {R : Ending → World → Prop} {d : Deferred} {fv : Fn} {cap : Array Value} {g : FuncId} {args : Array Value} {u : FrameMode} (hu : u ≠ .run) (hd : d.target = .fn fv cap)
    (hi : ∀ W, (invoke d.target d.args).run P W = .ok (.enter g args) W) (hk : Knows nt e t)
    (h : DCall P g args L S w0 u fun u' L' => settle u' = .returning ∧ ∃ v, ResOk P fn nt e L' S w0 v ∧ Fin R L' S w0 v) {W : World} (hm : Mem L S w0 W) : Leaves P fn t R [d] u W := by
  refine ⟨hu, fv, cap, g, args, hd, hi W, fun c cs hc => ?_⟩
  obtain ⟨en, u', W', fr, ⟨v, L', rfl, hm', hs, x, hx, hfin⟩, h2, h3, h4⟩ := h W hm c cs hc
  refine ⟨.returned v, u', W', fr, ?_, h2, h3, h4⟩
  show Leaves P fn t R [] (settle u') W'
  rw [hs]
  exact ⟨x, hx t W' hk hm', hfin W' hm'⟩

theorem RaiseE.dfr {R : Ending → World → Prop} {fn : Func} {d : Deferred} {fv : Fn} {cap : Array Value} {g : FuncId} {args : Array Value} {ch : List PanicEntry} (hf : P.funcs[f]? = some fn) (hd : d.target = .fn fv cap)
    (hi : ∀ W, (invoke d.target d.args).run P W = .ok (.enter g args) W)
    (h : DCall P g args L S w0 (.panicking ch) fun u' L' => settle u' = .returning ∧ ∃ v, ResOk P fn nt e L' S w0 v ∧ Fin R L' S w0 v) : RaiseE P f nt e ch L S w0 (dfr [d] R) := by
  intro t W k hk hm b cs hb hkd
  have hl := leaves_one (fn := fn) (R := R) (by simp) hd hi hk h hm
  obtain ⟨e', w'', fr', hR, hs, hfn, hlv⟩ := leaves_steps [d] (.panicking ch) W { b.at ⟨t, [d]⟩ k with mode := .panicking ch } cs rfl rfl rfl (by rw [← hf, ← hb]; rfl) hkd hl
  exact ⟨e', w'', fr', hR, hs, hfn, hlv⟩

theorem AtE.retD {R : Ending → World → Prop} {fn : Func} {d : Deferred} {fv : Fn} {cap : Array Value} {g : FuncId} {args : Array Value} (hf : P.funcs[f]? = some fn) (hd : d.target = .fn fv cap)
    (hi : ∀ W, (invoke d.target d.args).run P W = .ok (.enter g args) W) (hk1 : isRet k = true)
    (h : DCall P g args L S w0 .returning fun u' L' => settle u' = .returning ∧ ∃ v, ResOk P fn nt e L' S w0 v ∧ Fin R L' S w0 v) : AtE P f nt k e L S w0 (dfr [d] R) := by
  intro t W hk hm b cs hb hkd
  have hl := leaves_one (fn := fn) (R := R) (by simp) hd hi hk h hm
  unfold isRet at hk1
  split at hk1
  · obtain ⟨e', w'', fr', hR, hs, hfn, hlv⟩ := leaves_steps [d] .returning W { b.at ⟨t, [d]⟩ (.code .ret :: _) with mode := .returning } cs rfl rfl rfl (by rw [← hf, ← hb]; rfl) hkd hl
    exact ⟨e', w'', fr', hR, Comes.of_steps (.one step_ret) hs, hfn, hlv⟩
  · obtain ⟨e', w'', fr', hR, hs, hfn, hlv⟩ := leaves_steps [d] .returning W { b.at ⟨t, [d]⟩ [] with mode := .returning } cs rfl rfl rfl (by rw [← hf, ← hb]; rfl) hkd hl
    exact ⟨e', w'', fr', hR, Comes.of_steps (.one step_end) hs, hfn, hlv⟩
  · cases hk1

theorem DCall.mono {g : FuncId} {args : Array Value} {u : FrameMode} {K K' : FrameMode → SHeap → Prop} (h : DCall P g args L S w0 u K) (hk : ∀ u' L', K u' L' → K' u' L') : DCall P g args L S w0 u K' := by
  intro W hm c cs hc
  obtain ⟨en, u', W', fr, ⟨v, L', h1, h2, h3⟩, h4⟩ := h W hm c cs hc
  exact ⟨en, u', W', fr, ⟨v, L', h1, h2, hk u' L' h3⟩, h4⟩

/-- The operation 'defer'. -/
theorem AtE.defer {R : Ending → World → Prop} {d : Deferred} (hc : cur nt k e = some (curO nt k e)) (hr : ∀ W, (execOp (rho e) (curO nt k e)).run P W = .ok (.defer d) W)
    (hn : AtE P f nt (nextK k) (putE e (curDst nt k e) undef) L S w0 (dfr [d] R)) : AtE P f nt k e L S w0 (Eng.nrm R) := by
  intro t W hk hm b cs hb
  generalize curO nt k e = o at hc hr
  obtain ⟨ops, i, rest, k', rfl, hoi, hw, hkn, hpl, hd⟩ := cur_spec hc
  have hr1 := hr W
  rw [← execOp_congr (Act.mk t []).eval (rho e) o hpl (hk.rho hkn [])] at hr1
  have hg := stepG_op (P := P) (b := b) (a := ⟨t, []⟩) (k := k') (cs := cs) (w := W) (rest := rest) hoi (hk.wanted hw)
  have hnext := hn ((Act.mk t []).put o.dst undef).tmps W (by have := hk.put hd undef []; simpa only [curDst, hc] using this) hm b cs hb
  refine (Eng.nrm R).back b cs _ _ (.one (step_lone_go ?_)) hnext
  have hfin : ({ b.at ⟨t, []⟩ (.inRegion ops (i :: rest) :: k') with defers := d :: [] } : Frame).finish undef = b.at ⟨((Act.mk t []).put o.dst undef).tmps, [d]⟩ (.inRegion ops rest :: k') := by
    have := Frame.finish_at b ⟨t, [d]⟩ ops i rest k' undef
    rw [hoi] at this
    rw [← put_eta]
    exact this
  show GStep.bare (stepG P true { frame := b.at ⟨t, []⟩ (.inRegion ops (i :: rest) :: k'), callers := cs, status := .running, dying := none } W) = GStep.go { frame := b.at ⟨((Act.mk t []).put o.dst undef).tmps, [d]⟩ (.inRegion ops rest :: k'), callers := cs, status := .running, dying := none } W
  rw [hg]; simp only [stepG.apply, Sem.runT_eq, hr1, GStep.bare_after]
  exact congrArg (fun fr => GStep.go { frame := fr, callers := cs, status := .running, dying := none } W) hfin

/-! ### A deferred call, walked -/
/-- The goal of a deferred activation whose caller is in mode u. -/
def dgoal {P : Program} (u : FrameMode) (R : Ending → FrameMode → World → Prop) : Goal P where
  ds := []
  ok b cs m := b.kind = .deferred → b.roundOf = none → ∀ c cs', cs = c :: cs' → c.mode = u →
    ∃ e u' w' fr, R e u' w' ∧ Comes P m (lone fr ({ c with mode := u' } :: cs') w') e ∧ fr.kind = .deferred ∧ fr.going P w' e
  back b cs m m1 hs h hk hr c cs' hc hu := by
    obtain ⟨e, u', w', fr, h1, h2, h3⟩ := h hk hr c cs' hc hu
    exact ⟨e, u', w', fr, h1, Comes.of_steps hs h2, h3⟩

theorem AtE.callsD {fn : Func} {args : List Value} {W : World} {u : FrameMode} {R : Ending → FrameMode → World → Prop} (hf : P.funcs[f]? = some fn) (hb : (fn.body.isSome, fn.ntmps, Nat.ble args.length nt) = (true, nt, true)) (hm : Mem L S w0 W)
    (h : AtE P f nt [.code (body fn)] (argsE 0 args) L S w0 (dgoal u R)) : CallsD P f ⟨args⟩ u W R := by
  simp only [Prod.mk.injEq] at hb
  obtain ⟨h1, h2, h3⟩ := hb
  obtain ⟨c, hc⟩ := Option.isSome_iff_exists.1 h1
  have hbd : body fn = c := by simp [body, hc]
  rw [hbd] at h
  have hle : args.length ≤ nt := Nat.le_of_ble_eq_true h3
  intro c₀ cs hu
  have henter : Frame.enter P f ⟨args⟩ .deferred =
      ({ (default : Frame) with fn := f, kind := .deferred } : Frame).at { tmps := (⟨args⟩ : Array Value) ++ Array.replicate (fn.ntmps - (⟨args⟩ : Array Value).size) undef, defers := [] } [.code c] := by
    simp [Frame.enter, Frame.at, hf, hc]
  rw [henter]
  refine h _ W ⟨?_, ?_⟩ hm { (default : Frame) with fn := f, kind := .deferred } (c₀ :: cs) rfl rfl rfl c₀ cs rfl hu
  · simp [h2]; omega
  · intro i v hv
    obtain ⟨_, hv⟩ := argsE_get args 0 i v hv
    simp only [Nat.sub_zero] at hv
    have hi : i < args.length := (List.getElem?_eq_some_iff.1 hv).1
    rw [Array.getElem?_append_left (by simpa using hi)]
    simpa using hv

def FinD (R : Ending → FrameMode → World → Prop) (u : FrameMode) (L : SHeap) (S : List Nat) (w0 : World) (v : Value) : Prop := ∀ W, Mem L S w0 W → R (.returned v) u W

theorem AtE.retG {R : Ending → FrameMode → World → Prop} {u : FrameMode} {fn : Func} {v : Value} {L1 : SHeap} (hf : P.funcs[f]? = some fn) (hv : (isRet k, retV e fn.results.toList, L) = (true, some v, L1)) (h : FinD R u L1 S w0 v) : AtE P f nt k e L S w0 (dgoal u R) := by
  simp only [Prod.mk.injEq] at hv
  obtain ⟨h1, hv, rfl⟩ := hv
  intro t W hk hm b cs hb hkd hro c cs' hc hu
  have hres := results_run (P := P) hk hv W
  have hcm : ({ c with mode := u } : Frame) = c := by rw [← hu]
  unfold isRet at h1
  split at h1
  · exact ⟨.returned v, u, W, { b.at ⟨t, []⟩ (.code .ret :: _) with mode := .returning }, h W hm, by rw [hcm, hc]; exact .one step_ret, hkd, rfl, rfl, fn, by rw [← hf, ← hb]; rfl, hres⟩
  · exact ⟨.returned v, u, W, { b.at ⟨t, []⟩ [] with mode := .returning }, h W hm, by rw [hcm, hc]; exact .one step_end, hkd, rfl, rfl, fn, by rw [← hf, ← hb]; rfl, hres⟩
  · cases h1

/-- recover, where the caller panics. -/
theorem AtE.recoverP {R : Ending → FrameMode → World → Prop} {v : Value} {older : List PanicEntry} (hc : cur nt k e = some (curO nt k e)) (hr : ∀ W, (execOp (rho e) (curO nt k e)).run P W = .ok .recover W)
    (hn : AtE P f nt (nextK k) (putE e (curDst nt k e) v) L S w0 (dgoal (.panicking ({ v, recovered := true } :: older)) R)) :
    AtE P f nt k e L S w0 (dgoal (.panicking ({ v, recovered := false } :: older)) R) := by
  intro t W hk hm b cs hb hkd hro c cs' hcs hu
  subst hcs
  generalize curO nt k e = o at hc hr
  obtain ⟨ops, i, rest, k', rfl, hoi, hw, hkn, hpl, hd⟩ := cur_spec hc
  have hr1 := hr W
  rw [← execOp_congr (Act.mk t []).eval (rho e) o hpl (hk.rho hkn [])] at hr1
  have hg := stepG_op (P := P) (b := b) (a := ⟨t, []⟩) (k := k') (cs := c :: cs') (w := W) (rest := rest) hoi (hk.wanted hw)
  have hnext := hn ((Act.mk t []).put o.dst v).tmps W (by have := hk.put hd v []; simpa only [curDst, hc] using this) hm b ({ c with mode := .panicking ({ v, recovered := true } :: older) } :: cs') hb hkd hro _ cs' rfl rfl
  obtain ⟨en, u', w', fr, h1, h2, h3⟩ := hnext
  have htr := tryRecover_deferred (fr := b.at ⟨t, []⟩ (.inRegion ops (i :: rest) :: k')) hkd (c :: cs')
  have hrec : recoverD (c :: cs') = some (v, { c with mode := .panicking ({ v, recovered := true } :: older) } :: cs') := by
    simp [recoverD, hu]
  refine ⟨en, u', w', fr, h1, Comes.of_steps (.one (step_lone_go ?_)) h2, h3⟩
  have hfin : (b.at ⟨t, []⟩ (.inRegion ops (i :: rest) :: k')).finish v = b.at ⟨((Act.mk t []).put o.dst v).tmps, []⟩ (.inRegion ops rest :: k') := by
    rw [Frame.finish_at, hoi]; show b.at ((Act.mk t []).put o.dst v) _ = _; rw [put_eta]
  show GStep.bare (stepG P true { frame := b.at ⟨t, []⟩ (.inRegion ops (i :: rest) :: k'), callers := c :: cs', status := .running, dying := none } W) = GStep.go { frame := b.at ⟨((Act.mk t []).put o.dst v).tmps, []⟩ (.inRegion ops rest :: k'), callers := _, status := .running, dying := none } W
  rw [hg, ← hfin]
  simp only [Frame.at] at htr ⊢
  simp [stepG.apply, hr1, htr, hrec]

/-- recover, where the caller returns. -/
theorem AtE.recoverN {R : Ending → FrameMode → World → Prop} (hc : cur nt k e = some (curO nt k e)) (hr : ∀ W, (execOp (rho e) (curO nt k e)).run P W = .ok .recover W)
    (hn : AtE P f nt (nextK k) (putE e (curDst nt k e) .nilIface) L S w0 (dgoal .returning R)) :
    AtE P f nt k e L S w0 (dgoal .returning R) := by
  intro t W hk hm b cs hb hkd hro c cs' hcs hu
  subst hcs
  generalize curO nt k e = o at hc hr
  obtain ⟨ops, i, rest, k', rfl, hoi, hw, hkn, hpl, hd⟩ := cur_spec hc
  have hr1 := hr W
  rw [← execOp_congr (Act.mk t []).eval (rho e) o hpl (hk.rho hkn [])] at hr1
  have hg := stepG_op (P := P) (b := b) (a := ⟨t, []⟩) (k := k') (cs := c :: cs') (w := W) (rest := rest) hoi (hk.wanted hw)
  have hnext := hn ((Act.mk t []).put o.dst .nilIface).tmps W (by have := hk.put hd .nilIface []; simpa only [curDst, hc] using this) hm b (c :: cs') hb hkd hro c cs' rfl hu
  obtain ⟨en, u', w', fr, h1, h2, h3⟩ := hnext
  have htr := tryRecover_deferred (fr := b.at ⟨t, []⟩ (.inRegion ops (i :: rest) :: k')) hkd (c :: cs')
  have hrec : recoverD (c :: cs') = none := by simp [recoverD, hu]
  refine ⟨en, u', w', fr, h1, Comes.of_steps (.one (step_lone_go ?_)) h2, h3⟩
  have hfin : (b.at ⟨t, []⟩ (.inRegion ops (i :: rest) :: k')).finish .nilIface = b.at ⟨((Act.mk t []).put o.dst .nilIface).tmps, []⟩ (.inRegion ops rest :: k') := by
    rw [Frame.finish_at, hoi]; show b.at ((Act.mk t []).put o.dst .nilIface) _ = _; rw [put_eta]
  show GStep.bare (stepG P true { frame := b.at ⟨t, []⟩ (.inRegion ops (i :: rest) :: k'), callers := c :: cs', status := .running, dying := none } W) = GStep.go { frame := b.at ⟨((Act.mk t []).put o.dst .nilIface).tmps, []⟩ (.inRegion ops rest :: k'), callers := _, status := .running, dying := none } W
  rw [hg, ← hfin]
  simp only [Frame.at] at htr ⊢
  simp [stepG.apply, hr1, htr, hrec]
end Go.Eng
