/- A part of the proof: the engine by which functions are walked, verification conditions that a program of the prover wrote, contracts and plain laws; no claim of its own. -/
import Derived.Test.YtombejccmojjbaaGreatDoorChecked
import Derived.Test.YtombejccmojjbaaGreatDoorLisC
namespace Go.Eng
open Go Go.RowKit Go.Proofs
set_option linter.unusedVariables false
set_option maxRecDepth 100000
theorem ws0_vc (B : Nat) (s : ByteArray) {R : Ending → World → Prop} {S : List Nat} {w0 W : World} (hm : Mem [(B, .cells #[.pointer none, .slice none 0 0] 93)] S w0 W)
  (H :
   (s.size ≤ 9223372036854775807 ∧ s.size * 1 ≤ 140737488355328) ∧ ((s.size = 0 →
    ∀ t4 : Int, t4 = (s.size : Int) →
    Fin R [(B, .cells #[.pointer (some ⟨B, 0, none⟩), .slice none 0 0] 93)] S w0 (.tuple #[.int .i64 t4, .nilIface])) ∧
    (0 < s.size → ∀ (B1 cap : Nat) (r2 : List Value), s.size ≤ cap → ((bytesL s.data.toList) ++ r2).length = cap * 1 →
    ∀ t41 : Int, t41 = (s.size : Int) →
    Fin R [(B, .cells #[.pointer (some ⟨B, 0, none⟩), .slice (some ⟨B1, 0, none⟩) s.size cap] 93), (B1, .cells ⟨((bytesL s.data.toList) ++ r2)⟩ 5)] S w0 (.tuple #[.int .i64 t41, .nilIface])))) :
  Calls Tryz.prog 125 ⟨[.pointer (some ⟨B, 0, none⟩), .string s]⟩ W R := by
 refine AtE.calls (nt := 19) Tryz.func125 (by kernel_rfl) hm ?_
 refine AtE.ru 8 ?_
 refine AtE.inl 162 ⟨[.pointer (some ⟨B, 0, none⟩)]⟩ (fun W => by kernel_rfl) (by kernel_rfl) (fun W hm => AtE.calls (nt := 20) Tryz.func162 (by kernel_rfl) hm ?_)
 refine AtE.ru 5 ?_
 refine AtE.load 0 0 (T := 91) (v := .pointer none) (by kernel_rfl) ?_
 refine AtE.ru 6 ?_
 refine AtE.ptrConv 0 (t := 93) (B := B) (off := 0) (c := ([.pointer none, .slice none 0 0] : List Value)) (E := 93) (fz := (0, 0)) (sz := 1) (by kernel_rfl) (by simp) ?_
 refine AtE.ru 1 ?_
 refine AtE.ptrBack 0 (u := 93) (B := B) (off := 0) (n := 2) (c := ([.pointer none, .slice none 0 0] : List Value)) (E := 93) (fz := (0, 0)) (by kernel_rfl) rfl ?_
 refine AtE.ru 2 ?_
 refine AtE.store 0 0 (T := 91) (v := .pointer (some ⟨B, 0, none⟩)) (by kernel_rfl) ?_
 refine AtE.ru 1 ?_
 refine AtE.retK (v := .tuple #[]) Tryz.func162 (by kernel_rfl) ?_
 refine AtE.norm (k' := [.inRegion (regOps [.code (sub (Eng.body Tryz.f125) [1,0])]) [], .code (sub (Eng.body Tryz.f125) [1,1])]) (e' := [(0, .pointer (some ⟨B, 0, none⟩)), (1, .string s)]) (L' := [(B, .cells #[.pointer (some ⟨B, 0, none⟩), .slice none 0 0] 93)]) ?_ (by kernel_rfl)
 refine AtE.ru 7 ?_
 refine AtE.load 0 1 (T := 59) (v := .slice none 0 0) (by kernel_rfl) ?_
 refine AtE.ru 1 ?_
 refine AtE.appendS (T := 59) (U := 9) (E := 5) (z := .int .u8 (0 : Int)) (sz := 1) (bytes := 1) (x := .string s) s.size (bytesL s.data.toList) (by kernel_rfl) (srcStr (by kernel_rfl) _) H.1 (fun h0 => ?_) (fun h0 B1 cap r2 h1 h2 => ?_)
 ·replace H := H.2.1 h0
  refine AtE.ru 2 ?_
  refine AtE.store 0 1 (T := 59) (v := .slice none 0 0) (by kernel_rfl) ?_
  refine AtE.ru 6 ?_
  refine AtE.letI 4 (kd := .i64) (n := (s.size : Int)) (by kernel_rfl) (fun t4 ht4 => ?_)
  replace H := H t4 ht4
  refine AtE.ru 2 ?_
  exact AtE.ret Tryz.func125 (by kernel_rfl) H
 ·skip
  replace H := H.2.2 h0 B1 cap r2 h1 h2
  refine AtE.ru 2 ?_
  refine AtE.store 0 1 (T := 59) (v := .slice (some ⟨B1, 0, none⟩) s.size cap) (by kernel_rfl) ?_
  refine AtE.ru 6 ?_
  refine AtE.letI 4 (kd := .i64) (n := (s.size : Int)) (by kernel_rfl) (fun t41 ht41 => ?_)
  replace H := H t41 ht41
  refine AtE.ru 2 ?_
  exact AtE.ret Tryz.func125 (by kernel_rfl) H
theorem ws1_vc (B : Nat) (s : ByteArray) {R : Ending → World → Prop} {S : List Nat} {w0 W : World} (hm : Mem [(B, .cells #[.pointer (some ⟨B, 0, none⟩), .slice none 0 0] 93)] S w0 W)
  (H :
   (s.size ≤ 9223372036854775807 ∧ s.size * 1 ≤ 140737488355328) ∧ ((s.size = 0 →
    ∀ t4 : Int, t4 = (s.size : Int) →
    Fin R [(B, .cells #[.pointer (some ⟨B, 0, none⟩), .slice none 0 0] 93)] S w0 (.tuple #[.int .i64 t4, .nilIface])) ∧
    (0 < s.size → ∀ (B1 cap : Nat) (r : List Value), s.size ≤ cap → ((bytesL s.data.toList) ++ r).length = cap * 1 →
    ∀ t41 : Int, t41 = (s.size : Int) →
    Fin R [(B, .cells #[.pointer (some ⟨B, 0, none⟩), .slice (some ⟨B1, 0, none⟩) s.size cap] 93), (B1, .cells ⟨((bytesL s.data.toList) ++ r)⟩ 5)] S w0 (.tuple #[.int .i64 t41, .nilIface])))) :
  Calls Tryz.prog 125 ⟨[.pointer (some ⟨B, 0, none⟩), .string s]⟩ W R := by
 refine AtE.calls (nt := 19) Tryz.func125 (by kernel_rfl) hm ?_
 refine AtE.ru 8 ?_
 refine AtE.inl 162 ⟨[.pointer (some ⟨B, 0, none⟩)]⟩ (fun W => by kernel_rfl) (by kernel_rfl) (fun W hm => AtE.calls (nt := 20) Tryz.func162 (by kernel_rfl) hm ?_)
 refine AtE.ru 5 ?_
 refine AtE.load 0 0 (T := 91) (v := .pointer (some ⟨B, 0, none⟩)) (by kernel_rfl) ?_
 refine AtE.ru 8 ?_
 refine AtE.load 0 0 (T := 91) (v := .pointer (some ⟨B, 0, none⟩)) (by kernel_rfl) ?_
 refine AtE.ru 1 ?_
 refine AtE.neqSame (T := 91) (E := 93) (a := ⟨B, 0, none⟩) (by kernel_rfl) ?_
 refine AtE.ru 3 ?_
 refine AtE.retK (v := .tuple #[]) Tryz.func162 (by kernel_rfl) ?_
 refine AtE.ru 7 ?_
 refine AtE.load 0 1 (T := 59) (v := .slice none 0 0) (by kernel_rfl) ?_
 refine AtE.ru 1 ?_
 refine AtE.appendS (T := 59) (U := 9) (E := 5) (z := .int .u8 (0 : Int)) (sz := 1) (bytes := 1) (x := .string s) s.size (bytesL s.data.toList) (by kernel_rfl) (srcStr (by kernel_rfl) _) H.1 (fun h0 => ?_) (fun h0 B1 cap r h1 h2 => ?_)
 ·replace H := H.2.1 h0
  refine AtE.norm (k' := [.inRegion (regOps [.code (sub (Eng.body Tryz.f125) [1,1,0])]) [7,8,9], .code (sub (Eng.body Tryz.f125) [1,1,1])]) (e' := [(1, .string s), (8, .pointer (some ⟨B, 0, none⟩)), (14, .slice none 0 0)]) (L' := [(B, .cells #[.pointer (some ⟨B, 0, none⟩), .slice none 0 0] 93)]) ?_ (by kernel_rfl)
  refine AtE.ru 2 ?_
  refine AtE.store 0 1 (T := 59) (v := .slice none 0 0) (by kernel_rfl) ?_
  refine AtE.ru 6 ?_
  refine AtE.letI 4 (kd := .i64) (n := (s.size : Int)) (by kernel_rfl) (fun t4 ht4 => ?_)
  replace H := H t4 ht4
  refine AtE.ru 2 ?_
  exact AtE.ret Tryz.func125 (by kernel_rfl) H
 ·skip
  replace H := H.2.2 h0 B1 cap r h1 h2
  refine AtE.norm (k' := [.inRegion (regOps [.code (sub (Eng.body Tryz.f125) [1,1,0])]) [7,8,9], .code (sub (Eng.body Tryz.f125) [1,1,1])]) (e' := [(1, .string s), (8, .pointer (some ⟨B, 0, none⟩)), (14, .slice (some ⟨B1, 0, none⟩) s.size cap)]) (L' := [(B, .cells #[.pointer (some ⟨B, 0, none⟩), .slice none 0 0] 93), (B1, .cells ⟨((bytesL s.data.toList) ++ r)⟩ 5)]) ?_ (by kernel_rfl)
  refine AtE.ru 2 ?_
  refine AtE.store 0 1 (T := 59) (v := .slice (some ⟨B1, 0, none⟩) s.size cap) (by kernel_rfl) ?_
  refine AtE.ru 6 ?_
  refine AtE.letI 4 (kd := .i64) (n := (s.size : Int)) (by kernel_rfl) (fun t41 ht41 => ?_)
  replace H := H t41 ht41
  refine AtE.ru 2 ?_
  exact AtE.ret Tryz.func125 (by kernel_rfl) H
theorem ws2_vc (B : Nat) (s : ByteArray) (Q : Nat) (n : Nat) (cap : Nat) (cs : List Value) {R : Ending → World → Prop} {S : List Nat} {w0 W : World} (hm : Mem [(B, .cells #[.pointer (some ⟨B, 0, none⟩), .slice (some ⟨Q, 0, none⟩) n (cap + 1)] 93), (Q, .cells ⟨cs⟩ 5)] S w0 W)
  (H :
   (n ≤ (cap + 1) ∧ (cs).length = (cap + 1) * 1) ∧ ((n + s.size) ≤ 9223372036854775807 ∧ (n + s.size) * 1 ≤ 140737488355328) ∧
   ∀ (B1 cap1 : Nat) (r : List Value), (n + s.size) ≤ cap1 → ((cs).take (n * 1) ++ (bytesL s.data.toList) ++ r).length = cap1 * 1 →
   ∀ t4 : Int, t4 = (s.size : Int) →
   Fin R [(B, .cells #[.pointer (some ⟨B, 0, none⟩), .slice (some ⟨B1, 0, none⟩) (n + s.size) cap1] 93), (B1, .cells ⟨((cs).take (n * 1) ++ (bytesL s.data.toList) ++ r)⟩ 5)] S w0 (.tuple #[.int .i64 t4, .nilIface])) :
  Calls Tryz.prog 125 ⟨[.pointer (some ⟨B, 0, none⟩), .string s]⟩ W R := by
 refine AtE.calls (nt := 19) Tryz.func125 (by kernel_rfl) hm ?_
 refine AtE.ru 8 ?_
 refine AtE.inl 162 ⟨[.pointer (some ⟨B, 0, none⟩)]⟩ (fun W => by kernel_rfl) (by kernel_rfl) (fun W hm => AtE.calls (nt := 20) Tryz.func162 (by kernel_rfl) hm ?_)
 refine AtE.ru 5 ?_
 refine AtE.load 0 0 (T := 91) (v := .pointer (some ⟨B, 0, none⟩)) (by kernel_rfl) ?_
 refine AtE.ru 8 ?_
 refine AtE.load 0 0 (T := 91) (v := .pointer (some ⟨B, 0, none⟩)) (by kernel_rfl) ?_
 refine AtE.ru 1 ?_
 refine AtE.neqSame (T := 91) (E := 93) (a := ⟨B, 0, none⟩) (by kernel_rfl) ?_
 refine AtE.ru 3 ?_
 refine AtE.retK (v := .tuple #[]) Tryz.func162 (by kernel_rfl) ?_
 refine AtE.ru 7 ?_
 refine AtE.load 0 1 (T := 59) (v := .slice (some ⟨Q, 0, none⟩) n (cap + 1)) (by kernel_rfl) ?_
 refine AtE.ru 1 ?_
 refine AtE.appendOS 1 (T := 59) (U := 9) (E := 5) (z := .int .u8 (0 : Int)) (sz := 1) (bytes := 1) (len := n) (cap := (cap + 1)) (x := .string s) (cs := cs) s.size (bytesL s.data.toList) (by kernel_rfl) (srcStr (by kernel_rfl) _) H.1 H.2.1 (fun B1 cap1 r h1 h2 => ?_)
 replace H := H.2.2 B1 cap1 r h1 h2
 refine AtE.norm (k' := [.inRegion (regOps [.code (sub (Eng.body Tryz.f125) [1,1,0])]) [7,8,9], .code (sub (Eng.body Tryz.f125) [1,1,1])]) (e' := [(1, .string s), (8, .pointer (some ⟨B, 0, none⟩)), (14, .slice (some ⟨B1, 0, none⟩) (n + s.size) cap1)]) (L' := [(B, .cells #[.pointer (some ⟨B, 0, none⟩), .slice (some ⟨Q, 0, none⟩) n (cap + 1)] 93), (B1, .cells ⟨((cs).take (n * 1) ++ (bytesL s.data.toList) ++ r)⟩ 5)]) ?_ (by kernel_rfl)
 refine AtE.ru 2 ?_
 refine AtE.store 0 1 (T := 59) (v := .slice (some ⟨B1, 0, none⟩) (n + s.size) cap1) (by kernel_rfl) ?_
 refine AtE.ru 6 ?_
 refine AtE.letI 4 (kd := .i64) (n := (s.size : Int)) (by kernel_rfl) (fun t4 ht4 => ?_)
 replace H := H t4 ht4
 refine AtE.ru 2 ?_
 exact AtE.ret Tryz.func125 (by kernel_rfl) H
theorem bs0_vc (B : Nat) {R : Ending → World → Prop} {S : List Nat} {w0 W : World} (hm : Mem [(B, .cells #[.pointer none, .slice none 0 0] 93)] S w0 W)
  (H :
   Fin R [(B, .cells #[.pointer none, .slice none 0 0] 93)] S w0 (.string (⟨#[]⟩))) :
  Calls Tryz.prog 57 ⟨[.pointer (some ⟨B, 0, none⟩)]⟩ W R := by
 refine AtE.calls (nt := 14) Tryz.func57 (by kernel_rfl) hm ?_
 refine AtE.ru 5 ?_
 refine AtE.norm (k' := [.code (sub (Eng.body Tryz.f57) [1,0]), .code (sub (Eng.body Tryz.f57) [1,1])]) (e' := [(0, .pointer (some ⟨B, 0, none⟩))]) (L' := [(B, .cells #[.pointer none, .slice none 0 0] 93)]) ?_ (by kernel_rfl)
 refine AtE.draw 10 (by kernel_rfl) ?_
 refine AtQ.pu ?_
 refine AtQ.pu ?_
 refine AtQ.pu ?_
 refine AtQ.load 0 1 (T := 59) (v := .slice none 0 0) (by kernel_rfl) ?_
 refine AtQ.pu ?_
 refine AtQ.pu ?_
 refine AtQ.pu ?_
 refine AtQ.pu ?_
 refine AtQ.load 0 1 (T := 59) (v := .slice none 0 0) (by kernel_rfl) ?_
 refine AtQ.pu ?_
 refine AtQ.done (by kernel_rfl) ?_
 refine AtE.ru 3 ?_
 exact AtE.ret Tryz.func57 (by kernel_rfl) H
theorem bs1_vc (B : Nat) {R : Ending → World → Prop} {S : List Nat} {w0 W : World} (hm : Mem [(B, .cells #[.pointer (some ⟨B, 0, none⟩), .slice none 0 0] 93)] S w0 W)
  (H :
   Fin R [(B, .cells #[.pointer (some ⟨B, 0, none⟩), .slice none 0 0] 93)] S w0 (.string (⟨#[]⟩))) :
  Calls Tryz.prog 57 ⟨[.pointer (some ⟨B, 0, none⟩)]⟩ W R := by
 refine AtE.calls (nt := 14) Tryz.func57 (by kernel_rfl) hm ?_
 refine AtE.ru 5 ?_
 refine AtE.norm (k' := [.code (sub (Eng.body Tryz.f57) [1,0]), .code (sub (Eng.body Tryz.f57) [1,1])]) (e' := [(0, .pointer (some ⟨B, 0, none⟩))]) (L' := [(B, .cells #[.pointer (some ⟨B, 0, none⟩), .slice none 0 0] 93)]) ?_ (by kernel_rfl)
 refine AtE.draw 10 (by kernel_rfl) ?_
 refine AtQ.pu ?_
 refine AtQ.pu ?_
 refine AtQ.pu ?_
 refine AtQ.load 0 1 (T := 59) (v := .slice none 0 0) (by kernel_rfl) ?_
 refine AtQ.pu ?_
 refine AtQ.pu ?_
 refine AtQ.pu ?_
 refine AtQ.pu ?_
 refine AtQ.load 0 1 (T := 59) (v := .slice none 0 0) (by kernel_rfl) ?_
 refine AtQ.pu ?_
 refine AtQ.done (by kernel_rfl) ?_
 refine AtE.ru 3 ?_
 exact AtE.ret Tryz.func57 (by kernel_rfl) H
theorem bs2_vc (B : Nat) (Q : Nat) (n : Nat) (cap : Nat) (cs : List Value) {R : Ending → World → Prop} {S : List Nat} {w0 W : World} (hm : Mem [(B, .cells #[.pointer (some ⟨B, 0, none⟩), .slice (some ⟨Q, 0, none⟩) n (cap + 1)] 93), (Q, .cells ⟨cs⟩ 5)] S w0 W)
  (H :
   ∃ bs : List UInt8, ((cs).take n = bytesL bs ∧ bs.length = n ∧ 0 < n ∧ n ≤ 9223372036854775807) ∧
   ∀ t2 : ByteArray, t2 = ⟨bs.toArray⟩ →
   Fin R [(B, .cells #[.pointer (some ⟨B, 0, none⟩), .slice (some ⟨Q, 0, none⟩) n (cap + 1)] 93)] S w0 (.string t2)) :
  Calls Tryz.prog 57 ⟨[.pointer (some ⟨B, 0, none⟩)]⟩ W R := by
 refine AtE.calls (nt := 14) Tryz.func57 (by kernel_rfl) hm ?_
 refine AtE.ru 5 ?_
 refine AtE.norm (k' := [.code (sub (Eng.body Tryz.f57) [1,0]), .code (sub (Eng.body Tryz.f57) [1,1])]) (e' := [(0, .pointer (some ⟨B, 0, none⟩))]) (L' := [(B, .cells #[.pointer (some ⟨B, 0, none⟩), .slice (some ⟨Q, 0, none⟩) n (cap + 1)] 93), (Q, .cells ⟨cs⟩ 5)]) ?_ (by kernel_rfl)
 refine AtE.draw 10 (by kernel_rfl) ?_
 refine AtQ.pu ?_
 refine AtQ.pu ?_
 refine AtQ.pu ?_
 refine AtQ.load 0 1 (T := 59) (v := .slice (some ⟨Q, 0, none⟩) n (cap + 1)) (by kernel_rfl) ?_
 refine AtQ.pu ?_
 refine AtQ.pu ?_
 refine AtQ.pu ?_
 refine AtQ.pu ?_
 refine AtQ.load 0 1 (T := 59) (v := .slice (some ⟨Q, 0, none⟩) n (cap + 1)) (by kernel_rfl) ?_
 refine AtQ.pu ?_
 refine AtQ.done (by kernel_rfl) ?_
 obtain ⟨bs, hb, H⟩ := H
 refine AtE.unsafeStr 1 (B := Q) (E := 5) (pt := 147) (it := 3) (n := n) (c := cs) (l := bs) (by kernel_rfl) hb ?_
 refine AtE.ru 1 ?_
 refine AtE.letS 2 (n := ⟨bs.toArray⟩) (by kernel_rfl) (fun t2 ht2 => ?_)
 replace H := H t2 ht2
 refine AtE.ru 1 ?_
 exact AtE.ret Tryz.func57 (by kernel_rfl) H
end Go.Eng
namespace Go.Eng
open Go Go.RowKit Go.Proofs Wire
set_option linter.unusedVariables false
theorem dkFin {K : Value → SHeap → Prop} {L : SHeap} {S : List Nat} {W : World} {v : Value} (h : K v L) : Fin (fun e W' => ∃ v L', e = .returned v ∧ Mem L' S W W' ∧ K v L') L S W v :=
  fun _ hm => ⟨v, L, rfl, hm, h⟩
def EffW (P : Program) (g : FuncId) (args : Array Value) (L0 : SHeap) (Pre : World → Prop) (K : Value → SHeap → Prop) : Prop :=
  ∀ W, Mem L0 (L0.map (·.1)) W W → Pre W → Calls P g args W fun e W' => ∃ v L', e = .returned v ∧ Mem L' (L0.map (·.1)) W W' ∧ K v L'
theorem CallH.effW {P : Program} {L : SHeap} {S : List Nat} {w0 : World} {g : FuncId} {args : Array Value} {L0 L1 : SHeap} {Pre : World → Prop} {K K' : Value → SHeap → Prop} (h : EffW P g args L0 Pre K) (hpre : ∀ W, Mem L S w0 W → Pre W) (hp : (L0 ++ L1).Perm L)
    (hK : ∀ v L', K v L' → ∃ L2, (L' ++ L1).Perm L2 ∧ K' v L2) : CallH P g args L S w0 K' := by
  intro W hm
  have h2 : EffC P g args L0 K → CallH P g args L S w0 K' := fun h => CallH.eff h hp hK
  have hm' : Mem (L0 ++ L1) S w0 W := hm.perm hp
  have hnd := hm'.nodup
  rw [List.map_append, List.nodup_append] at hnd
  obtain ⟨n0, n1, nd⟩ := hnd
  refine (h W ⟨n0, fun p hp => hm'.here p (List.mem_append_left _ hp), fun p hp => .inr (List.mem_map_of_mem hp), Kept.refl _ W⟩ (hpre W hm)).mono ?_
  rintro e W' ⟨v, L', rfl, hL, hk⟩
  obtain ⟨L2, hp2, hk2⟩ := hK v L' hk
  refine ⟨v, L2, rfl, Mem.perm (L := L' ++ L1) ⟨?_, ?_, ?_, ?_⟩ hp2.symm, hk2⟩
  · rw [List.map_append, List.nodup_append]
    refine ⟨hL.nodup, n1, ?_⟩
    intro a ha b hb hab
    subst hab
    obtain ⟨p, hp, rfl⟩ := List.mem_map.1 ha
    obtain ⟨q, hq, hqe⟩ := List.mem_map.1 hb
    rcases hL.own p hp with h1 | h1
    · have := hm'.lt (List.mem_append_right L0 hq)
      omega
    · exact nd _ h1 _ hb rfl
  · intro p hp
    rcases List.mem_append.1 hp with hp | hp
    · exact hL.here p hp
    · rw [hL.kept.block p.1 (hm'.lt (List.mem_append_right _ hp)) (fun h0 => nd _ h0 _ (List.mem_map_of_mem hp) rfl)]
      exact hm'.here p (List.mem_append_right _ hp)
  · intro p hp
    rcases List.mem_append.1 hp with hp | hp
    · rcases hL.own p hp with h1 | h1
      · exact .inl (Nat.le_trans hm'.kept.size h1)
      · obtain ⟨q, hq, hqe⟩ := List.mem_map.1 h1
        have := hm'.own q (List.mem_append_left _ hq)
        rw [hqe] at this; exact this
    · exact hm'.own p (List.mem_append_right _ hp)
  · refine ⟨hL.kept.os.trans hm'.kept.os, hL.kept.tape.trans hm'.kept.tape, hL.kept.output.trans hm'.kept.output, Nat.le_trans hm'.kept.size hL.kept.size, fun i hi hs => ?_⟩
    rw [hL.kept.block i (Nat.lt_of_lt_of_le hi hm'.kept.size) (fun h0 => ?_)]
    · exact hm'.kept.block i hi hs
    · obtain ⟨q, hq, hqe⟩ := List.mem_map.1 h0
      rcases hm'.own q (List.mem_append_left _ hq) with h1 | h1
      · rw [hqe] at h1; omega
      · rw [hqe] at h1; exact hs h1
abbrev bHdr (B : Nat) (p : Value) (v : Value) : Nat × Obj := (B, .cells #[p, v] 93)
def BRep (B : Nat) (s : List UInt8) (F : SHeap) : Prop :=
  (s = [] ∧ F = [bHdr B (.pointer none) (.slice none 0 0)]) ∨ (s = [] ∧ F = [bHdr B (.pointer (some ⟨B, 0, none⟩)) (.slice none 0 0)]) ∨
  ∃ (Q cap : Nat) (cs : List Value), 0 < s.length ∧ s.length ≤ cap + 1 ∧ cs.length = (cap + 1) * 1 ∧ cs.take s.length = bytesL s ∧
    F = [bHdr B (.pointer (some ⟨B, 0, none⟩)) (.slice (some ⟨Q, 0, none⟩) s.length (cap + 1)), (Q, .cells ⟨cs⟩ 5)]
theorem BRep.new (B : Nat) : BRep B [] [bHdr B (.pointer none) (.slice none 0 0)] := .inl ⟨rfl, rfl⟩
theorem BRep.row {B Q cap : Nat} {s : List UInt8} {cs : List Value} (h0 : 0 < s.length) (h1 : s.length ≤ cap) (h2 : cs.length = cap * 1) (h3 : cs.take s.length = bytesL s) :
    BRep B s [bHdr B (.pointer (some ⟨B, 0, none⟩)) (.slice (some ⟨Q, 0, none⟩) s.length cap), (Q, .cells ⟨cs⟩ 5)] := by
  obtain ⟨c, rfl⟩ : ∃ c, cap = c + 1 := ⟨cap - 1, by omega⟩
  exact .inr (.inr ⟨Q, c, cs, h0, h1, h2, h3, rfl⟩)
theorem take_bytes (l : List UInt8) (r : List Value) : (bytesL l ++ r).take l.length = bytesL l := by
  rw [List.take_append_of_le_length (by rw [bytesL_len]; exact Nat.le_refl _), List.take_of_length_le (by rw [bytesL_len]; exact Nat.le_refl _)]
theorem write_e {B : Nat} {l : List UInt8} {s : ByteArray} {F : SHeap} (h : BRep B l F) (hb : l.length + s.size ≤ 140737488355328) :
    EffC Tryz.prog 125 ⟨[.pointer (some ⟨B, 0, none⟩), .string s]⟩ F (fun v F' => v = .tuple #[.int .i64 (s.size : Int), .nilIface] ∧ BRep B (l ++ bts s) F') := by
  intro W hm
  have hbl : (bts s).length = s.size := bts_len s
  rcases h with ⟨rfl, rfl⟩ | ⟨rfl, rfl⟩ | ⟨Q, cap, cs, h0, h1, h2, h3, rfl⟩
  · simp only [List.length_nil, Nat.zero_add] at hb
    refine ws0_vc B s hm ⟨by omega, fun hz => ?_, fun hp B1 cap r h1 h2 => ?_⟩
    · rintro _ rfl
      exact dkFin ⟨rfl, .inr (.inl ⟨by rw [List.nil_append]; exact List.length_eq_zero_iff.1 (by omega), rfl⟩)⟩
    · rintro _ rfl
      refine dkFin ⟨rfl, ?_⟩
      rw [List.nil_append, ← hbl]
      exact BRep.row (by omega) (by omega) h2 (take_bytes _ _)
  · simp only [List.length_nil, Nat.zero_add] at hb
    refine ws1_vc B s hm ⟨by omega, fun hz => ?_, fun hp B1 cap r h1 h2 => ?_⟩
    · rintro _ rfl
      exact dkFin ⟨rfl, .inr (.inl ⟨by rw [List.nil_append]; exact List.length_eq_zero_iff.1 (by omega), rfl⟩)⟩
    · rintro _ rfl
      refine dkFin ⟨rfl, ?_⟩
      rw [List.nil_append, ← hbl]
      exact BRep.row (by omega) (by omega) h2 (take_bytes _ _)
  · refine ws2_vc B s Q l.length cap cs hm ⟨⟨h1, h2⟩, by omega, fun B1 cap1 r q1 q2 => ?_⟩
    rintro _ rfl
    refine dkFin ⟨rfl, ?_⟩
    rw [Nat.mul_one, h3, ← bytesL_app] at q2 ⊢
    have e : l.length + s.size = (l ++ bts s).length := by rw [List.length_append, hbl]
    rw [e] at q1 ⊢
    exact BRep.row (by omega) q1 q2 (take_bytes _ _)
theorem string_e {B : Nat} {l : List UInt8} {F : SHeap} (h : BRep B l F) (hb : l.length ≤ 9223372036854775807) : EffC Tryz.prog 57 ⟨[.pointer (some ⟨B, 0, none⟩)]⟩ F (fun v F' => v = .string ⟨l.toArray⟩) := by
  intro W hm
  rcases h with ⟨rfl, rfl⟩ | ⟨rfl, rfl⟩ | ⟨Q, cap, cs, h0, h1, h2, h3, rfl⟩
  · exact bs0_vc B hm (dkFin rfl)
  · exact bs1_vc B hm (dkFin rfl)
  · refine bs2_vc B Q l.length cap cs hm ⟨l, ⟨h3, rfl, h0, hb⟩, ?_⟩
    rintro _ rfl
    exact dkFin rfl
end Go.Eng
namespace Go.Eng
open Go Go.RowKit Go.Proofs
set_option linter.unusedVariables false
set_option maxRecDepth 100000
def putInts_c0 (out_b : Nat) (t8_p : Option Addr) (t8_l : Nat) (t8_c : Nat) (t9 : Int) (t10 : Int) (F1 : SHeap) (S : List Nat) (w0 : World) (R : Ending → World → Prop) : Prop :=
 AtE Tryz.prog 192 23 [.code (sub (Eng.body Tryz.f192) [1,0,0]), .inLoop (sub (Eng.body Tryz.f192) [1,0,0]), .inBlock 0] [(0, .pointer (some ⟨out_b, 0, none⟩)), (8, .slice t8_p t8_l t8_c), (9, .int .i64 t9), (10, .int .i64 t10)] (F1) S w0 (nrm R)
theorem putInts_c0_vc (out_b : Nat) (t8_p : Option Addr) (t8_l : Nat) (t8_c : Nat) (t9 : Int) (t10 : Int) (F1 : SHeap) {R : Ending → World → Prop} {S : List Nat} {w0 : World}
  (H :
   ((t10 < t9) →
    ∃ t8_pb t8_po : Nat, t8_p = some ⟨t8_pb, t8_po, none⟩ ∧
    (0 ≤ t10 ∧ t10 < t8_l) ∧
    ∃ (cw : List Value) (m1 : Int), t8_pb ∉ S ∧ blkW w0 t8_pb = some cw ∧ cw[(t8_po + (Int.toNat t10))]? = some (.int .i64 m1) ∧
    CallH Tryz.prog 72 ⟨[.int .i64 m1]⟩ (F1) S w0 (fun v L' => ∃ (r1 : ByteArray) (r21 : Int), v = (.tuple #[.string r1, .int .i64 r21]) ∧ L' = (F1) ∧
     CallH Tryz.prog 125 ⟨[.pointer (some ⟨out_b, 0, none⟩), .string r1]⟩ (F1) S w0 (fun v L' => ∃ (r31 : Int) (r41 : Value) (F2 : SHeap), v = (.tuple #[.int .i64 r31, r41]) ∧ L' = (F2) ∧
      putInts_c0 out_b (some ⟨t8_pb, t8_po, none⟩) t8_l t8_c t9 (IntKind.i64.wrap (t10 + (1 : Int))) F2 S w0 R))) ∧
    ((¬ (t10 < t9)) →
    Fin R (F1) S w0 (.tuple #[]))) :
  putInts_c0 out_b t8_p t8_l t8_c t9 t10 F1 S w0 R := by
 unfold putInts_c0
 refine AtE.ru 5 ?_
 refine AtE.splitP 11 (p := t10 < t9) (by kernel_rfl) (fun h1' => ?_) (fun h1' => ?_)
 ·replace H := H.1 h1'
  refine AtE.ru 6 ?_
  obtain ⟨t8_pb, t8_po, rfl, H⟩ := H
  refine AtE.indexAddrL (E := 3) (b := t8_pb) (o := t8_po) (len := t8_l) (cap := t8_c) (sz := 1) (o' := (t8_po + (Int.toNat t10))) (kd := .i64) (i := t10) (by kernel_rfl) H.1 (by omega) ?_
  replace H := H.2
  obtain ⟨cw, m1, hs, hw, hx, H⟩ := H
  refine AtE.loadW (b := t8_pb) (off := (t8_po + (Int.toNat t10))) (T := 3) (v := .int .i64 m1) (by kernel_rfl) hs hw (valAt_one hx (by kernel_rfl)) ?_
  refine AtE.ru 5 ?_
  refine AtE.call 72 ⟨[.int .i64 m1]⟩ (fun W => by kernel_rfl) (by kernel_rfl) H ?_
  clear H
  rintro _ F1 ⟨r1, r21, rfl, rfl, H⟩
  refine AtE.ru 9 ?_
  refine AtE.call 125 ⟨[.pointer (some ⟨out_b, 0, none⟩), .string r1]⟩ (fun W => by kernel_rfl) (by kernel_rfl) H ?_
  clear H
  rintro _ F2 ⟨r31, r41, _, rfl, rfl, H⟩
  refine AtE.ru 7 ?_
  exact AtE.cutT [] 0 H (by kernel_rfl)
 ·replace H := H.2 h1'
  refine AtE.ru 2 ?_
  exact AtE.ret Tryz.func192 (by kernel_rfl) H
theorem putInts_vc (B : Nat) (numbers_p : Option Addr) (numbers_l : Nat) (numbers_c : Nat) (F : SHeap) {R : Ending → World → Prop} {S : List Nat} {w0 W : World} (hm : Mem (F) S w0 W)
  (H :
   putInts_c0 B numbers_p numbers_l numbers_c (numbers_l : Int) (0 : Int) F S w0 R) :
  Calls Tryz.prog 192 ⟨[.pointer (some ⟨B, 0, none⟩), .slice numbers_p numbers_l numbers_c]⟩ W R := by
 refine AtE.calls (nt := 23) Tryz.func192 (by kernel_rfl) hm ?_
 refine AtE.ru 8 ?_
 exact AtE.cutT [] 0 H (by kernel_rfl)
abbrev encodeH0 (B3 : Nat) (m_0 : Int) (m_1 : Int) (B2 : Nat) (m_2 : ByteArray) (m_3 : Int) (m_4 : Int) (m_5 : Int) (m_6_p : Option Addr) (m_6_l : Nat) (m_6_c : Nat) (m_7 : Int) (m_8 : Int) (F2 : SHeap) : SHeap := ((B3, .cells #[.int .i64 m_0, .int .i64 m_1] 3) :: (B2, .cells #[.int .i64 m_0, .int .i64 m_1, .string m_2, .int .i64 m_3, .int .i64 m_4, .int .i64 m_5, .slice m_6_p m_6_l m_6_c, .int .i64 m_7, .int .i64 m_8] 89) :: F2)
abbrev encodeA0 (m_0 : Int) (m_1 : Int) (m_2 : ByteArray) (m_3 : Int) (m_4 : Int) (m_5 : Int) (m_6_p : Option Addr) (m_6_l : Nat) (m_6_c : Nat) (m_7 : Int) (m_8 : Int) : Array Value := #[.int .i64 m_0, .int .i64 m_1, .string m_2, .int .i64 m_3, .int .i64 m_4, .int .i64 m_5, .slice m_6_p m_6_l m_6_c, .int .i64 m_7, .int .i64 m_8]
def encode_c0 (out_b : Nat) (t16_p : Option Addr) (t16_l : Nat) (t16_c : Nat) (t17 : Int) (t18 : Int) (F1 : SHeap) (w0 : World) (R : Ending → World → Prop) : Prop :=
 AtE Tryz.prog 174 63 [.code (sub (Eng.body Tryz.f174) [1,1,1,1,0,1,0,0]), .inLoop (sub (Eng.body Tryz.f174) [1,1,1,1,0,1,0,0]), .inBlock 0, .code (sub (Eng.body Tryz.f174) [1,1,1,1,1])] [(4, .pointer (some ⟨out_b, 0, none⟩)), (16, .slice t16_p t16_l t16_c), (17, .int .i64 t17), (18, .int .i64 t18)] (F1) [] w0 (nrm R)
theorem encode_c0_vc (out_b : Nat) (t16_p : Option Addr) (t16_l : Nat) (t16_c : Nat) (t17 : Int) (t18 : Int) (F1 : SHeap) {R : Ending → World → Prop} {w0 : World}
  (H :
   ((t18 < t17) →
    ∃ t16_pb t16_po : Nat, t16_p = some ⟨t16_pb, t16_po, none⟩ ∧
    (0 ≤ t18 ∧ t18 < t16_l) ∧
    ∃ (cw : List Value) (m_0 : Int) (m_1 : Int) (m_2 : ByteArray) (m_3 : Int) (m_4 : Int) (m_5 : Int) (m_6_p : Option Addr) (m_6_l : Nat) (m_6_c : Nat) (m_7 : Int) (m_8 : Int), blkW w0 t16_pb = some cw ∧ ((cw.drop (t16_po + ((Int.toNat t18) * 9))).take 9 = [.int .i64 m_0, .int .i64 m_1, .string m_2, .int .i64 m_3, .int .i64 m_4, .int .i64 m_5, .slice m_6_p m_6_l m_6_c, .int .i64 m_7, .int .i64 m_8] ∧ (t16_po + ((Int.toNat t18) * 9)) + 9 ≤ cw.length) ∧
    ∀ B2 : Nat,
    ∀ B3 : Nat,
    CallH Tryz.prog 192 ⟨[.pointer (some ⟨out_b, 0, none⟩), .slice (some ⟨B3, 0, none⟩) 2 2]⟩ ((B3, .cells #[.int .i64 m_0, .int .i64 m_1] 3) :: (B2, .cells (encodeA0 m_0 m_1 m_2 m_3 m_4 m_5 m_6_p m_6_l m_6_c m_7 m_8) 89) :: F1) [] w0 (fun v L' => ∃ (F2 : SHeap), v = (.tuple #[]) ∧ L' = (encodeH0 B3 m_0 m_1 B2 m_2 m_3 m_4 m_5 m_6_p m_6_l m_6_c m_7 m_8 F2) ∧
     CallH Tryz.prog 118 ⟨[.string m_2]⟩ (encodeH0 B3 m_0 m_1 B2 m_2 m_3 m_4 m_5 m_6_p m_6_l m_6_c m_7 m_8 F2) [] w0 (fun v L' => ∃ (r21 : ByteArray) (r31 : Int), v = (.tuple #[.string r21, .int .i64 r31]) ∧ L' = (encodeH0 B3 m_0 m_1 B2 m_2 m_3 m_4 m_5 m_6_p m_6_l m_6_c m_7 m_8 F2) ∧
      CallH Tryz.prog 125 ⟨[.pointer (some ⟨out_b, 0, none⟩), .string r21]⟩ (encodeH0 B3 m_0 m_1 B2 m_2 m_3 m_4 m_5 m_6_p m_6_l m_6_c m_7 m_8 F2) [] w0 (fun v L' => ∃ (r41 : Int) (r51 : Value) (F3 : SHeap), v = (.tuple #[.int .i64 r41, r51]) ∧ L' = ((B3, .cells #[.int .i64 m_0, .int .i64 m_1] 3) :: (B2, .cells (encodeA0 m_0 m_1 m_2 m_3 m_4 m_5 m_6_p m_6_l m_6_c m_7 m_8) 89) :: F3) ∧
       ∀ B4 : Nat,
       CallH Tryz.prog 192 ⟨[.pointer (some ⟨out_b, 0, none⟩), .slice (some ⟨B4, 0, none⟩) 4 4]⟩ ((B4, .cells #[.int .i64 m_3, .int .i64 m_4, .int .i64 m_5, .int .i64 (m_6_l : Int)] 3) :: (B3, .cells #[.int .i64 m_0, .int .i64 m_1] 3) :: (B2, .cells (encodeA0 m_0 m_1 m_2 m_3 m_4 m_5 m_6_p m_6_l m_6_c m_7 m_8) 89) :: F3) [] w0 (fun v L' => ∃ (F4 : SHeap), v = (.tuple #[]) ∧ L' = ((B4, .cells #[.int .i64 m_3, .int .i64 m_4, .int .i64 m_5, .int .i64 (m_6_l : Int)] 3) :: (B3, .cells #[.int .i64 m_0, .int .i64 m_1] 3) :: (B2, .cells (encodeA0 m_0 m_1 m_2 m_3 m_4 m_5 m_6_p m_6_l m_6_c m_7 m_8) 89) :: F4) ∧
        CallH Tryz.prog 192 ⟨[.pointer (some ⟨out_b, 0, none⟩), .slice m_6_p m_6_l m_6_c]⟩ ((B4, .cells #[.int .i64 m_3, .int .i64 m_4, .int .i64 m_5, .int .i64 (m_6_l : Int)] 3) :: (B3, .cells #[.int .i64 m_0, .int .i64 m_1] 3) :: (B2, .cells (encodeA0 m_0 m_1 m_2 m_3 m_4 m_5 m_6_p m_6_l m_6_c m_7 m_8) 89) :: F4) [] w0 (fun v L' => ∃ (F5 : SHeap), v = (.tuple #[]) ∧ L' = ((B4, .cells #[.int .i64 m_3, .int .i64 m_4, .int .i64 m_5, .int .i64 (m_6_l : Int)] 3) :: (B3, .cells #[.int .i64 m_0, .int .i64 m_1] 3) :: (B2, .cells (encodeA0 m_0 m_1 m_2 m_3 m_4 m_5 m_6_p m_6_l m_6_c m_7 m_8) 89) :: F5) ∧
         ∀ B5 : Nat,
         CallH Tryz.prog 192 ⟨[.pointer (some ⟨out_b, 0, none⟩), .slice (some ⟨B5, 0, none⟩) 2 2]⟩ ((B5, .cells #[.int .i64 m_7, .int .i64 m_8] 3) :: (B4, .cells #[.int .i64 m_3, .int .i64 m_4, .int .i64 m_5, .int .i64 (m_6_l : Int)] 3) :: (B3, .cells #[.int .i64 m_0, .int .i64 m_1] 3) :: (B2, .cells (encodeA0 m_0 m_1 m_2 m_3 m_4 m_5 m_6_p m_6_l m_6_c m_7 m_8) 89) :: F5) [] w0 (fun v L' => ∃ (F6 : SHeap), v = (.tuple #[]) ∧ L' = ((B5, .cells #[.int .i64 m_7, .int .i64 m_8] 3) :: (B4, .cells #[.int .i64 m_3, .int .i64 m_4, .int .i64 m_5, .int .i64 (m_6_l : Int)] 3) :: (B3, .cells #[.int .i64 m_0, .int .i64 m_1] 3) :: (B2, .cells (encodeA0 m_0 m_1 m_2 m_3 m_4 m_5 m_6_p m_6_l m_6_c m_7 m_8) 89) :: F6) ∧
          encode_c0 out_b (some ⟨t16_pb, t16_po, none⟩) t16_l t16_c t17 (IntKind.i64.wrap (t18 + (1 : Int))) F6 w0 R))))))) ∧
    ((¬ (t18 < t17)) →
    CallH Tryz.prog 57 ⟨[.pointer (some ⟨out_b, 0, none⟩)]⟩ (F1) [] w0 (fun v L' => ∃ (r61 : ByteArray) (F7 : SHeap), v = (.string r61) ∧ L' = (F7) ∧
     Fin R (F7) [] w0 (.tuple #[.string r61, .int .i64 (0 : Int)])))) :
  encode_c0 out_b t16_p t16_l t16_c t17 t18 F1 w0 R := by
 unfold encode_c0
 refine AtE.ru 5 ?_
 refine AtE.splitP 19 (p := t18 < t17) (by kernel_rfl) (fun h2' => ?_) (fun h2' => ?_)
 ·replace H := H.1 h2'
  refine AtE.ru 6 ?_
  obtain ⟨t16_pb, t16_po, rfl, H⟩ := H
  refine AtE.indexAddrL (E := 89) (b := t16_pb) (o := t16_po) (len := t16_l) (cap := t16_c) (sz := 9) (o' := (t16_po + ((Int.toNat t18) * 9))) (kd := .i64) (i := t18) (by kernel_rfl) H.1 (by omega) ?_
  replace H := H.2
  obtain ⟨cw, m_0, m_1, m_2, m_3, m_4, m_5, m_6_p, m_6_l, m_6_c, m_7, m_8, hw, hx, H⟩ := H
  refine AtE.loadW (b := t16_pb) (off := (t16_po + ((Int.toNat t18) * 9))) (T := 89) (v := .agg (encodeA0 m_0 m_1 m_2 m_3 m_4 m_5 m_6_p m_6_l m_6_c m_7 m_8)) (by kernel_rfl) List.not_mem_nil hw (valAt_agg hx.1 hx.2 (by kernel_rfl) (by kernel_rfl)) ?_
  refine AtE.new (fun B => .pointer (some ⟨B, 0, none⟩)) (.cells #[.int .i64 (0 : Int), .int .i64 (0 : Int), .string (⟨#[]⟩), .int .i64 (0 : Int), .int .i64 (0 : Int), .int .i64 (0 : Int), .slice none 0 0, .int .i64 (0 : Int), .int .i64 (0 : Int)] 89) (fun W => by kernel_rfl) (by kernel_rfl) (fun B2 => ?_)
  replace H := H B2
  refine AtE.front ?_
  refine AtE.store 0 0 (T := 89) (v := .agg (encodeA0 m_0 m_1 m_2 m_3 m_4 m_5 m_6_p m_6_l m_6_c m_7 m_8)) (by kernel_rfl) ?_
  refine AtE.ru 4 ?_
  refine AtE.load 0 0 (T := 3) (v := .int .i64 m_0) (by kernel_rfl) ?_
  refine AtE.norm (k' := [.inRegion (regOps [.code (sub (Eng.body Tryz.f174) [1,1,1,1,0,1,0,0,1,1,0,0,1,0])]) [2,3,4,5], .code (sub (Eng.body Tryz.f174) [1,1,1,1,0,1,0,0,1,1,0,0,1,1]), .inBlock 1, .code (sub (Eng.body Tryz.f174) [1,1,1,1,0,1,0,0,1,1,1]), .inLoop (sub (Eng.body Tryz.f174) [1,1,1,1,0,1,0,0]), .inBlock 0, .code (sub (Eng.body Tryz.f174) [1,1,1,1,1])]) (e' := [(4, .pointer (some ⟨out_b, 0, none⟩)), (6, .pointer (some ⟨B2, 0, none⟩)), (16, .slice (some ⟨t16_pb, t16_po, none⟩) t16_l t16_c), (17, .int .i64 t17), (18, .int .i64 t18), (23, .int .i64 m_0)]) (L' := ((B2, .cells (encodeA0 m_0 m_1 m_2 m_3 m_4 m_5 m_6_p m_6_l m_6_c m_7 m_8) 89) :: F1)) ?_ (by kernel_rfl)
  refine AtE.ru 1 ?_
  refine AtE.load 0 1 (T := 3) (v := .int .i64 m_1) (by kernel_rfl) ?_
  refine AtE.new (fun B => .slice (some ⟨B, 0, none⟩) 2 2) (.cells #[.int .i64 m_0, .int .i64 m_1] 3) (fun W => by kernel_rfl) (by kernel_rfl) (fun B3 => ?_)
  replace H := H B3
  refine AtE.front ?_
  refine AtE.call 192 ⟨[.pointer (some ⟨out_b, 0, none⟩), .slice (some ⟨B3, 0, none⟩) 2 2]⟩ (fun W => by kernel_rfl) (by kernel_rfl) H ?_
  clear H
  rintro _ _ ⟨F2, rfl, rfl, H⟩
  refine AtE.ru 4 ?_
  refine AtE.load 1 2 (T := 9) (v := .string m_2) (by kernel_rfl) ?_
  refine AtE.call 118 ⟨[.string m_2]⟩ (fun W => by kernel_rfl) (by kernel_rfl) H ?_
  clear H
  rintro _ _ ⟨r21, r31, rfl, rfl, H⟩
  refine AtE.ru 9 ?_
  refine AtE.call 125 ⟨[.pointer (some ⟨out_b, 0, none⟩), .string r21]⟩ (fun W => by kernel_rfl) (by kernel_rfl) H ?_
  clear H
  rintro _ _ ⟨r41, r51, F3, rfl, rfl, H⟩
  refine AtE.ru 4 ?_
  refine AtE.load 1 3 (T := 3) (v := .int .i64 m_3) (by kernel_rfl) ?_
  refine AtE.norm (k' := [.inRegion (regOps [.code (sub (Eng.body Tryz.f174) [1,1,1,1,0,1,0,0,1,1,0,0,1,1,1,1,0])]) [2,3,4,5,6,7,8,9,10,11,12], .code (sub (Eng.body Tryz.f174) [1,1,1,1,0,1,0,0,1,1,0,0,1,1,1,1,1]), .inBlock 1, .code (sub (Eng.body Tryz.f174) [1,1,1,1,0,1,0,0,1,1,1]), .inLoop (sub (Eng.body Tryz.f174) [1,1,1,1,0,1,0,0]), .inBlock 0, .code (sub (Eng.body Tryz.f174) [1,1,1,1,1])]) (e' := [(4, .pointer (some ⟨out_b, 0, none⟩)), (6, .pointer (some ⟨B2, 0, none⟩)), (16, .slice (some ⟨t16_pb, t16_po, none⟩) t16_l t16_c), (17, .int .i64 t17), (18, .int .i64 t18), (37, .int .i64 m_3)]) (L' := ((B3, .cells #[.int .i64 m_0, .int .i64 m_1] 3) :: (B2, .cells (encodeA0 m_0 m_1 m_2 m_3 m_4 m_5 m_6_p m_6_l m_6_c m_7 m_8) 89) :: F3)) ?_ (by kernel_rfl)
  refine AtE.ru 1 ?_
  refine AtE.load 1 4 (T := 3) (v := .int .i64 m_4) (by kernel_rfl) ?_
  refine AtE.ru 2 ?_
  refine AtE.load 1 5 (T := 3) (v := .int .i64 m_5) (by kernel_rfl) ?_
  refine AtE.ru 2 ?_
  refine AtE.load 1 6 (T := 24) (v := .slice m_6_p m_6_l m_6_c) (by kernel_rfl) ?_
  refine AtE.ru 1 ?_
  refine AtE.new (fun B => .slice (some ⟨B, 0, none⟩) 4 4) (.cells #[.int .i64 m_3, .int .i64 m_4, .int .i64 m_5, .int .i64 (m_6_l : Int)] 3) (fun W => by kernel_rfl) (by kernel_rfl) (fun B4 => ?_)
  replace H := H B4
  refine AtE.front ?_
  refine AtE.call 192 ⟨[.pointer (some ⟨out_b, 0, none⟩), .slice (some ⟨B4, 0, none⟩) 4 4]⟩ (fun W => by kernel_rfl) (by kernel_rfl) H ?_
  clear H
  rintro _ _ ⟨F4, rfl, rfl, H⟩
  refine AtE.ru 5 ?_
  refine AtE.load 2 6 (T := 24) (v := .slice m_6_p m_6_l m_6_c) (by kernel_rfl) ?_
  refine AtE.call 192 ⟨[.pointer (some ⟨out_b, 0, none⟩), .slice m_6_p m_6_l m_6_c]⟩ (fun W => by kernel_rfl) (by kernel_rfl) H ?_
  clear H
  rintro _ _ ⟨F5, rfl, rfl, H⟩
  refine AtE.norm (k' := [.inRegion (regOps [.code (sub (Eng.body Tryz.f174) [1,1,1,1,0,1,0,0,1,1,0,0,1,1,1,1,1,0])]) [], .code (sub (Eng.body Tryz.f174) [1,1,1,1,0,1,0,0,1,1,0,0,1,1,1,1,1,1]), .inBlock 1, .code (sub (Eng.body Tryz.f174) [1,1,1,1,0,1,0,0,1,1,1]), .inLoop (sub (Eng.body Tryz.f174) [1,1,1,1,0,1,0,0]), .inBlock 0, .code (sub (Eng.body Tryz.f174) [1,1,1,1,1])]) (e' := [(4, .pointer (some ⟨out_b, 0, none⟩)), (6, .pointer (some ⟨B2, 0, none⟩)), (16, .slice (some ⟨t16_pb, t16_po, none⟩) t16_l t16_c), (17, .int .i64 t17), (18, .int .i64 t18)]) (L' := ((B4, .cells #[.int .i64 m_3, .int .i64 m_4, .int .i64 m_5, .int .i64 (m_6_l : Int)] 3) :: (B3, .cells #[.int .i64 m_0, .int .i64 m_1] 3) :: (B2, .cells (encodeA0 m_0 m_1 m_2 m_3 m_4 m_5 m_6_p m_6_l m_6_c m_7 m_8) 89) :: F5)) ?_ (by kernel_rfl)
  refine AtE.ru 4 ?_
  refine AtE.load 2 7 (T := 3) (v := .int .i64 m_7) (by kernel_rfl) ?_
  refine AtE.ru 2 ?_
  refine AtE.load 2 8 (T := 3) (v := .int .i64 m_8) (by kernel_rfl) ?_
  refine AtE.new (fun B => .slice (some ⟨B, 0, none⟩) 2 2) (.cells #[.int .i64 m_7, .int .i64 m_8] 3) (fun W => by kernel_rfl) (by kernel_rfl) (fun B5 => ?_)
  replace H := H B5
  refine AtE.front ?_
  refine AtE.call 192 ⟨[.pointer (some ⟨out_b, 0, none⟩), .slice (some ⟨B5, 0, none⟩) 2 2]⟩ (fun W => by kernel_rfl) (by kernel_rfl) H ?_
  clear H
  rintro _ _ ⟨F6, rfl, rfl, H⟩
  refine AtE.ru 7 ?_
  exact AtE.cutT [] 4 H (by kernel_rfl)
 ·replace H := H.2 h2'
  refine AtE.ru 4 ?_
  refine AtE.call 57 ⟨[.pointer (some ⟨out_b, 0, none⟩)]⟩ (fun W => by kernel_rfl) (by kernel_rfl) H ?_
  clear H
  rintro _ F7 ⟨r61, _, rfl, rfl, H⟩
  refine AtE.ru 3 ?_
  exact AtE.ret Tryz.func174 (by kernel_rfl) H
theorem encode_vc (l_p : Option Addr) (l_l : Nat) (l_c : Nat) {R : Ending → World → Prop} {w0 W : World} (hm : Mem [] [] w0 W)
  (H :
   CallH Tryz.prog 148 ⟨[.slice l_p l_l l_c]⟩ [] [] w0 (fun v L' => ∃ (r1 : Bool), v = (.bool r1) ∧ L' = [] ∧
    ((r1 = true) →
     ∀ B : Nat,
     ∀ B1 : Nat,
     CallH Tryz.prog 192 ⟨[.pointer (some ⟨B, 0, none⟩), .slice (some ⟨B1, 0, none⟩) 1 1]⟩ [(B, .cells #[.pointer none, .slice none 0 0] 93), (B1, .cells #[.int .i64 (l_l : Int)] 3)] [] w0 (fun v L' => ∃ (F : SHeap), v = (.tuple #[]) ∧ L' = ((B1, .cells #[.int .i64 (l_l : Int)] 3) :: F) ∧
      encode_c0 B l_p l_l l_c (l_l : Int) (0 : Int) F w0 R)) ∧
     ((r1 = false) →
     Fin R [] [] w0 (.tuple #[.string (⟨#[]⟩), .int .i64 (30 : Int)])))) :
  Calls Tryz.prog 174 ⟨[.slice l_p l_l l_c]⟩ W R := by
 refine AtE.calls (nt := 63) Tryz.func174 (by kernel_rfl) hm ?_
 refine AtE.ru 9 ?_
 refine AtE.call 148 ⟨[.slice l_p l_l l_c]⟩ (fun W => by kernel_rfl) (by kernel_rfl) H ?_
 clear H
 rintro _ _ ⟨r1, rfl, rfl, H⟩
 refine AtE.split 10 (b := r1) (by kernel_rfl) (fun h1' => ?_) (fun h1' => ?_)
 ·replace H := H.1 h1'
  refine AtE.ru 6 ?_
  refine AtE.new (fun B => .pointer (some ⟨B, 0, none⟩)) (.cells #[.pointer none, .slice none 0 0] 93) (fun W => by kernel_rfl) (by kernel_rfl) (fun B => ?_)
  replace H := H B
  refine AtE.ru 5 ?_
  refine AtE.new (fun B => .slice (some ⟨B, 0, none⟩) 1 1) (.cells #[.int .i64 (l_l : Int)] 3) (fun W => by kernel_rfl) (by kernel_rfl) (fun B1 => ?_)
  replace H := H B1
  refine AtE.call 192 ⟨[.pointer (some ⟨B, 0, none⟩), .slice (some ⟨B1, 0, none⟩) 1 1]⟩ (fun W => by kernel_rfl) (by kernel_rfl) H ?_
  clear H
  rintro _ _ ⟨F, rfl, rfl, H⟩
  refine AtE.ru 10 ?_
  exact AtE.cutT [] 1 H (by kernel_rfl)
 ·replace H := H.2 h1'
  refine AtE.ru 8 ?_
  exact AtE.ret Tryz.func174 (by kernel_rfl) H
end Go.Eng
namespace Go.Eng
open Go Go.RowKit Go.Proofs Wire
set_option linter.unusedVariables false
abbrev ba (l : List UInt8) : ByteArray := ⟨l.toArray⟩
theorem ba_size (a : List UInt8) : (ba a).size = a.length := by rw [← bts_len, bts_mk]
theorem encB_ba (n : Int) : encB n = ba (enc n) := bts_inj (by rw [encB_bts, bts_mk])
theorem encSB_ba (s : ByteArray) : encSB s = ba (encS (bts s)) := bts_inj (by rw [encSB_bts, bts_mk])
theorem encS_len (t : List UInt8) : (encS t).length ≤ t.length + 10 := by
  unfold encS; rw [List.length_append]; have := enc_len t.length; omega
def encIs (l : List Int) : List UInt8 := l.flatMap enc
def Blk.enc (b : Blk) : List UInt8 :=
  Wire.enc b.id ++ (Wire.enc b.kind ++ (encS (bts b.text) ++ (Wire.enc b.story ++ (Wire.enc b.ref ++ (Wire.enc b.lab.unt ++ (Wire.enc b.lab.after.length ++ (encIs b.lab.after ++ (Wire.enc b.lab.appr ++ Wire.enc b.lab.den))))))))
def encBs (l : List Blk) : List UInt8 := l.flatMap Blk.enc
def encL (l : List Blk) : List UInt8 := Wire.enc (l.length : Int) ++ encBs l
def encAns (l : List Blk) : Value := if listOk l = true then .tuple #[.string (ba (encL l)), .int .i64 0] else .tuple #[.string ⟨#[]⟩, .int .i64 30]
theorem asc_spec : ∀ (l : List Int) (last : Int), ascOk last l = true → 0 ≤ last → last ≤ 64 → last + l.length ≤ 64 ∧ ∀ x ∈ l, last < x ∧ x ≤ 64
  | [], last, _, h0, h1 => ⟨by simpa using h1, by simp⟩
  | x :: r, last, h, h0, h1 => by
    simp only [ascOk, Bool.and_eq_true, decide_eq_true_eq] at h
    obtain ⟨⟨h2, h3⟩, h4⟩ := h
    obtain ⟨h5, h6⟩ := asc_spec r x h4 (by omega) h3
    refine ⟨by simp only [List.length_cons]; omega, fun y hy => ?_⟩
    rcases List.mem_cons.1 hy with rfl | hy
    · omega
    · have := h6 y hy; omega
structure Blk.Good (b : Blk) : Prop where
  id : 1 ≤ b.id ∧ b.id ≤ 1000
  kind : 1 ≤ b.kind ∧ b.kind ≤ 5
  text : b.text.size ≤ 300
  story : 0 ≤ b.story ∧ b.story ≤ 64
  ref : 0 ≤ b.ref ∧ b.ref ≤ 1000
  unt : 0 ≤ b.lab.unt ∧ b.lab.unt ≤ 1000000000
  appr : 0 ≤ b.lab.appr ∧ b.lab.appr ≤ 5
  den : 0 ≤ b.lab.den ∧ b.lab.den ≤ 15
  len : b.lab.after.length ≤ 64
  after : ∀ x ∈ b.lab.after, 0 < x ∧ x ≤ 64
theorem Blk.good {b : Blk} (h : b.ok = true) : b.Good := by
  simp only [Blk.ok, Bool.and_eq_true, decide_eq_true_eq] at h
  obtain ⟨hid, hl, hk⟩ := h
  simp only [Lab.ok, Bool.and_eq_true, decide_eq_true_eq] at hl
  obtain ⟨hl, ha⟩ := hl
  obtain ⟨h1, h2⟩ := asc_spec _ _ ha (by omega) (by omega)
  have hkk : (1 ≤ b.kind ∧ b.kind ≤ 5) ∧ b.text.size ≤ 300 ∧ (0 ≤ b.story ∧ b.story ≤ 64) ∧ 0 ≤ b.ref ∧ b.ref ≤ 1000 := by
    unfold Blk.kindOk at hk
    simp only [fillOk, txtOk, nameOk, Blk.noRef] at hk
    repeat' split at hk
    all_goals simp only [Bool.and_eq_true, decide_eq_true_eq, Bool.false_eq_true] at hk
    all_goals omega
  exact ⟨hid, hkk.1, hkk.2.1, hkk.2.2.1, hkk.2.2.2, by omega, by omega, by omega, by omega, h2⟩
theorem listGo_all : ∀ (l seen : List Blk), listGo seen l = true → ∀ b ∈ l, b.ok = true
  | [], _, _, _, hb => by cases hb
  | x :: r, seen, h, b, hb => by
    simp only [listGo, Bool.and_eq_true] at h
    rcases List.mem_cons.1 hb with rfl | hb
    · exact h.1
    · exact listGo_all r _ h.2.2 b hb
theorem listOk_all {l : List Blk} (h : listOk l = true) : l.length ≤ 24 ∧ ∀ b ∈ l, b.ok = true := by
  simp only [listOk, Bool.and_eq_true, decide_eq_true_eq] at h
  exact ⟨h.1, listGo_all l _ h.2⟩
theorem encIs_len (l : List Int) : (encIs l).length ≤ 10 * l.length := by
  induction l with
  | nil => simp [encIs]
  | cons x r ih => simp only [encIs, List.flatMap_cons, List.length_append, List.length_cons] at *; have := enc_len x; omega
theorem encBlk_len {b : Blk} (h : b.Good) : b.enc.length ≤ 1040 := by
  have h1 := encS_len (bts b.text)
  rw [bts_len] at h1
  have h2 := encIs_len b.lab.after
  have := h.text; have := h.len
  unfold Blk.enc
  simp only [List.length_append]
  have := enc_len b.id; have := enc_len b.kind; have := enc_len b.story; have := enc_len b.ref; have := enc_len b.lab.unt; have := enc_len (b.lab.after.length : Int); have := enc_len b.lab.appr; have := enc_len b.lab.den
  omega
theorem encBs_len : ∀ (l : List Blk), (∀ b ∈ l, b.ok = true) → (encBs l).length ≤ 1040 * l.length
  | [], _ => by simp [encBs]
  | b :: r, h => by
    have ih := encBs_len r (fun x hx => h x (by simp [hx]))
    have := encBlk_len (Blk.good (h b (by simp)))
    simp only [encBs, List.flatMap_cons, List.length_append, List.length_cons] at *
    omega
theorem encBs_take {l : List Blk} {i : Nat} (h : i < l.length) : encBs (l.take (i + 1)) = encBs (l.take i) ++ l[i].enc := by
  have e : l.take (i + 1) = l.take i ++ [l[i]] := by rw [List.take_add_one, List.getElem?_eq_getElem h]; rfl
  rw [e, encBs, List.flatMap_append, List.flatMap_cons, List.flatMap_nil, List.append_nil]; rfl
theorem encIs_take {l : List Int} {i : Nat} (h : i < l.length) : encIs (l.take (i + 1)) = encIs (l.take i) ++ Wire.enc l[i] := by
  have e : l.take (i + 1) = l.take i ++ [l[i]] := by rw [List.take_add_one, List.getElem?_eq_getElem h]; rfl
  rw [e, encIs, List.flatMap_append, List.flatMap_cons, List.flatMap_nil, List.append_nil]; rfl
theorem okI {n : Int} (h : -1000000000000 ≤ n ∧ n ≤ 1000000000000) : okInt n := by unfold okInt maxInt; omega
theorem putI {n : Int} (h : okInt n) : PureC Tryz.prog 72 ⟨[.int .i64 n]⟩ (.tuple #[.string (ba (Wire.enc n)), .int .i64 0]) := by
  have := PutInt_c n
  rw [putAns, if_pos h, encB_ba] at this
  exact this
theorem putS {s : ByteArray} (h : s.size ≤ 65536) : PureC Tryz.prog 118 ⟨[.string s]⟩ (.tuple #[.string (ba (encS (bts s))), .int .i64 0]) := by
  have := PutString_c s
  rw [putSAns, if_pos h, encSB_ba] at this
  exact this
theorem CallH.effF {P : Program} {S : List Nat} {w0 : World} {g : FuncId} {args : Array Value} {F : SHeap} {K K' : Value → SHeap → Prop} (h : EffC P g args F K) (hK : ∀ v F', K v F' → K' v F') : CallH P g args F S w0 K' :=
  CallH.eff (L1 := []) h (by simp) fun v L' hk => ⟨L', by simp, hK v L' hk⟩
theorem CallH.effT {P : Program} {S : List Nat} {w0 : World} {g : FuncId} {args : Array Value} {F : SHeap} {K K' : Value → SHeap → Prop} (told : SHeap) (h : EffC P g args F K) (hK : ∀ v F', K v F' → K' v (told ++ F')) : CallH P g args (told ++ F) S w0 K' :=
  CallH.eff (L1 := told) h List.perm_append_comm fun v L' hk => ⟨told ++ L', List.perm_append_comm, hK v L' hk⟩
theorem CallH.effWT {P : Program} {S : List Nat} {w0 : World} {g : FuncId} {args : Array Value} {F : SHeap} {Pre : World → Prop} {K K' : Value → SHeap → Prop} (told : SHeap) (h : EffW P g args F Pre K) (hpre : ∀ W, Mem (told ++ F) S w0 W → Pre W) (hK : ∀ v F', K v F' → K' v (told ++ F')) : CallH P g args (told ++ F) S w0 K' :=
  CallH.effW (L1 := told) h hpre List.perm_append_comm fun v L' hk => ⟨told ++ L', List.perm_append_comm, hK v L' hk⟩
def lkX (S : List Nat) (w : World) : Lk := fun b c => b ∉ S ∧ blkW w b = some c
theorem lkX_of {told F : SHeap} {w0 W : World} (hm : Mem (told ++ F) [] w0 W) : ∀ b c, lkM told w0 b c → lkX (F.map (·.1)) W b c := by
  rintro b c (⟨t, fz, h⟩ | h)
  · refine ⟨fun hb => ?_, ?_⟩
    · have hnd := hm.nodup
      rw [List.map_append, List.nodup_append] at hnd
      exact hnd.2.2 b (List.mem_map_of_mem h) b hb rfl
    · have := hm.here _ (List.mem_append_left F h)
      simp only at this
      simp [blkW, this]
  · refine ⟨fun hb => ?_, lkW_kept hm b c h⟩
    obtain ⟨q, hq, rfl⟩ := List.mem_map.1 hb
    have h1 := hm.own q (List.mem_append_right told hq)
    simp only [List.not_mem_nil, or_false] at h1
    unfold lkW blkW at h
    rw [Array.getElem?_eq_none h1] at h
    cases h
theorem ints_told {told : SHeap} {w0 : World} {B : Nat} {ns : List Int} {t : TypeId} (h : (B, Obj.cells ⟨ns.map (.int .i64)⟩ t) ∈ told) : IntsL (lkM told w0) (some ⟨B, 0, none⟩) ns := by
  intro _
  refine ⟨B, 0, ns.map (.int .i64), rfl, .inl ⟨t, _, h⟩, fun i hi => ?_⟩
  rw [Nat.zero_add, List.getElem?_map, List.getElem?_eq_getElem hi]; rfl
theorem putInts_loop {w0 : World} {S : List Nat} {B : Nat} {p : Option Addr} {c : Nat} {ns : List Int} (hp : IntsL (lkX S w0) p ns) (hok : ∀ x ∈ ns, okInt x) (hn : ns.length ≤ 1000000) {l : List UInt8} (hl : l.length ≤ 1000000000) :
    ∀ (g i : Nat) (F : SHeap), g + i = ns.length → BRep B (l ++ encIs (ns.take i)) F →
      putInts_c0 B p ns.length c (ns.length : Int) (i : Int) F S w0 (fun e W' => ∃ v L', e = .returned v ∧ Mem L' S w0 W' ∧ v = .tuple #[] ∧ BRep B (l ++ encIs ns) L')
  | 0, i, F, hg, hF => by
    apply putInts_c0_vc
    refine no (by omega) (dkFin ⟨rfl, ?_⟩)
    rw [List.take_of_length_le (by omega)] at hF
    exact hF
  | g + 1, i, F, hg, hF => by
    apply putInts_c0_vc
    have hi : i < ns.length := by omega
    obtain ⟨b, o, cc, rfl, e2, e3⟩ := hp.get hi
    refine yes (by omega) ⟨b, o, rfl, by omega, cc, ns[i], e2.1, e2.2, by simpa using e3, ?_⟩
    refine CallH.pure (putI (hok _ (List.getElem_mem hi))) ⟨_, _, rfl, rfl, ?_⟩
    have h1 := encIs_len (ns.take i)
    rw [List.length_take] at h1
    have h2 := enc_len ns[i]
    refine CallH.effF (write_e hF (by rw [List.length_append, ba_size]; omega)) fun v F' ⟨hv, hF'⟩ => ⟨_, _, F', hv, rfl, ?_⟩
    rw [wi64 (by omega), show (i : Int) + 1 = ((i + 1 : Nat) : Int) by omega]
    refine putInts_loop hp hok hn hl g (i + 1) F' (by omega) ?_
    rw [encIs_take hi, ← List.append_assoc]
    rwa [bts_mk] at hF'
theorem putInts_e {B : Nat} {p : Option Addr} {c : Nat} {ns : List Int} (hok : ∀ x ∈ ns, okInt x) (hn : ns.length ≤ 1000000) {l : List UInt8} (hl : l.length ≤ 1000000000) {F : SHeap} (hF : BRep B l F) :
    EffW Tryz.prog 192 ⟨[.pointer (some ⟨B, 0, none⟩), .slice p ns.length c]⟩ F (fun W => IntsL (lkX (F.map (·.1)) W) p ns) (fun v F' => v = .tuple #[] ∧ BRep B (l ++ encIs ns) F') := by
  intro W hm hp
  refine putInts_vc B p ns.length c F hm (putInts_loop hp hok hn hl ns.length 0 F (by omega) ?_)
  simpa [encIs] using hF
theorem enc_parts (b : Blk) (p : List UInt8) : p ++ encIs [b.id, b.kind] ++ encS (bts b.text) ++ encIs [b.story, b.ref, b.lab.unt, (b.lab.after.length : Int)] ++ encIs b.lab.after ++ encIs [b.lab.appr, b.lab.den] = p ++ b.enc := by
  simp [Blk.enc, encIs]
theorem encode_loop {w0 : World} {B : Nat} {p : Option Addr} {c : Nat} {l : List Blk} (hl : BlksL (lkW w0) p l) (hok : listOk l = true) :
    ∀ (g i : Nat) (F : SHeap), g + i = l.length → BRep B (Wire.enc (l.length : Int) ++ encBs (l.take i)) F →
      encode_c0 B p l.length c (l.length : Int) (i : Int) F w0 (fun e W' => e = .returned (encAns l) ∧ Below w0.heap.size w0 W')
  | 0, i, F, hg, hF => by
    apply encode_c0_vc
    rw [List.take_of_length_le (by omega)] at hF
    have h1 := encBs_len l (listOk_all hok).2
    have h2 := enc_len (l.length : Int)
    have h3 := (listOk_all hok).1
    refine no (by omega) (CallH.effF (string_e hF (by rw [List.length_append]; omega)) fun v F' hv => ⟨_, F', hv, rfl, finPW ?_⟩)
    rw [encAns, if_pos hok]; rfl
  | g + 1, i, F, hg, hF => by
    apply encode_c0_vc
    have hi : i < l.length := by omega
    obtain ⟨B1, o1, c1, rfl, e2, e3, p6, c6, e4, e5, e6⟩ := hl.get hi
    have hall := listOk_all hok
    have hgd := Blk.good (hall.2 _ (List.getElem_mem hi))
    have k1 := encBs_len (l.take i) (fun b hb => hall.2 b (List.mem_of_mem_take hb))
    rw [List.length_take] at k1
    have k2 := enc_len (l.length : Int)
    have k3 := hall.1
    have i1 := hgd.id; have i2 := hgd.kind; have i3 := hgd.text; have i4 := hgd.story; have i5 := hgd.ref; have i6 := hgd.unt; have i7 := hgd.appr; have i8 := hgd.den; have i9 := hgd.len
    refine yes (by omega) ⟨B1, o1, rfl, by omega, c1, l[i].id, l[i].kind, l[i].text, l[i].story, l[i].ref, l[i].lab.unt, p6, l[i].lab.after.length, c6, l[i].lab.appr, l[i].lab.den, e2, ⟨by simpa using e4, by simpa using e3⟩, fun B2 B3 => ?_⟩
    have m1 := encIs_len [l[i].id, l[i].kind]
    have m2 := encS_len (bts l[i].text); rw [bts_len] at m2
    have m3 := encIs_len [l[i].story, l[i].ref, l[i].lab.unt, (l[i].lab.after.length : Int)]
    have m4 := encIs_len l[i].lab.after
    simp only [List.length_cons, List.length_nil] at m1 m3
    refine CallH.effWT [_, _] (putInts_e (ns := [l[i].id, l[i].kind]) (fun x hx => ?_) (by simp) (by rw [List.length_append]; omega) hF) (fun W' hm' => (ints_told (told := [_, _]) (ns := [l[i].id, l[i].kind]) (t := 3) (by simp)).mono (lkX_of hm')) fun v F2 ⟨hv, hF2⟩ => ⟨F2, hv, rfl, ?_⟩
    · rcases List.mem_cons.1 hx with rfl | hx
      · exact okI (by omega)
      · rw [List.mem_singleton.1 hx]; exact okI (by omega)
    refine CallH.pure (putS (by omega)) ⟨_, _, rfl, rfl, ?_⟩
    refine CallH.effT [_, _] (write_e hF2 (by simp only [List.length_append, ba_size]; omega)) fun v F3 ⟨hv, hF3⟩ => ⟨_, _, F3, hv, rfl, fun B4 => ?_⟩
    rw [bts_mk] at hF3
    refine CallH.effWT [_, _, _] (putInts_e (ns := [l[i].story, l[i].ref, l[i].lab.unt, (l[i].lab.after.length : Int)]) (fun x hx => ?_) (by simp) (by simp only [List.length_append]; omega) hF3) (fun W' hm' => (ints_told (told := [_, _, _]) (ns := [l[i].story, l[i].ref, l[i].lab.unt, (l[i].lab.after.length : Int)]) (t := 3) (by simp)).mono (lkX_of hm')) fun v F4 ⟨hv, hF4⟩ => ⟨F4, hv, rfl, ?_⟩
    · simp only [List.mem_cons, List.not_mem_nil, or_false] at hx
      rcases hx with rfl | rfl | rfl | rfl <;> exact okI (by omega)
    refine CallH.effWT [_, _, _] (putInts_e (ns := l[i].lab.after) (fun x hx => ?_) (by omega) (by simp only [List.length_append]; omega) hF4) (fun W' hm' => (e5.mono lkM_old).mono (lkX_of hm')) fun v F5 ⟨hv, hF5⟩ => ⟨F5, hv, rfl, fun B5 => ?_⟩
    · have := hgd.after x hx; exact okI (by omega)
    refine CallH.effWT [_, _, _, _] (putInts_e (ns := [l[i].lab.appr, l[i].lab.den]) (fun x hx => ?_) (by simp) (by simp only [List.length_append]; omega) hF5) (fun W' hm' => (ints_told (told := [_, _, _, _]) (ns := [l[i].lab.appr, l[i].lab.den]) (t := 3) (by simp)).mono (lkX_of hm')) fun v F6 ⟨hv, hF6⟩ => ⟨F6, hv, rfl, ?_⟩
    · rcases List.mem_cons.1 hx with rfl | hx
      · exact okI (by omega)
      · rw [List.mem_singleton.1 hx]; exact okI (by omega)
    rw [wi64 (by omega), show (i : Int) + 1 = ((i + 1 : Nat) : Int) by omega]
    refine encode_loop hl hok g (i + 1) F6 (by omega) ?_
    rw [encBs_take hi, ← List.append_assoc, ← enc_parts]
    exact hF6
theorem encode_c {W : World} {p : Option Addr} {c : Nat} {l : List Blk} (hl : BlksL (lkW W) p l) (hc : l.length ≤ c) : PW Tryz.prog 174 ⟨[.slice p l.length c]⟩ W (encAns l) := by
  refine encode_vc p l.length c (Mem.start [] W) (CallH.pw (fun W' hm' => validL_c (hl.mono (lkW_kept hm')) hc) ⟨_, rfl, rfl, fun h B B1 => ?_, fun h => finPW ?_⟩)
  · have h3 := (listOk_all h).1
    refine CallH.effW (L0 := [bHdr B (.pointer none) (.slice none 0 0)]) (L1 := [(B1, .cells #[.int .i64 (l.length : Int)] 3)]) (putInts_e (ns := [(l.length : Int)]) (l := []) (fun x hx => ?_) (by simp) (by simp) (BRep.new B)) (fun W' hm' => (ints_told (told := [(B1, .cells #[.int .i64 (l.length : Int)] 3)]) (ns := [(l.length : Int)]) (t := 3) (by simp)).mono (lkX_of (hm'.perm (List.perm_append_comm (l₁ := [(B1, Obj.cells #[.int .i64 (l.length : Int)] 3)]) (l₂ := [bHdr B (.pointer none) (.slice none 0 0)]))))) (List.Perm.refl _) fun v F ⟨hv, hF⟩ => ⟨_, List.perm_append_comm, F, hv, rfl, ?_⟩
    · rw [List.mem_singleton.1 hx]; exact okI (by omega)
    · refine encode_loop hl h l.length 0 F (by omega) ?_
      simpa [encIs, encBs] using hF
  · rw [encAns, if_neg (by rw [h]; simp)]
end Go.Eng
namespace Go.Eng
open Go Go.RowKit Wire
set_option linter.unusedVariables false
abbrev RS := Nat × Int
def rdI (s : List UInt8) (st : RS) : Int × RS :=
  if st.2 = 0 then match rdInt (s.drop st.1) with
    | none => (0, (st.1, 10))
    | some (n, k) => (n, (st.1 + k, 0))
  else (0, st)
def rdT (s : List UInt8) (st : RS) : ByteArray × RS :=
  if st.2 = 0 then match rdStr (s.drop st.1) with
    | none => (⟨#[]⟩, (st.1, 10))
    | some (t, k) => (⟨t.toArray⟩, (st.1 + k, 0))
  else (⟨#[]⟩, st)
def rdMany {α : Type} (f : RS → α × RS) : Nat → RS → List α × RS
  | 0, st => ([], st)
  | n + 1, st => if st.2 = 0 then ((f st).1 :: (rdMany f n (f st).2).1, (rdMany f n (f st).2).2) else ([], st)
def rdCount (s : List UInt8) (most : Int) (st : RS) : Int × RS :=
  if (rdI s st).2.2 = 0 ∧ ((rdI s st).1 < 0 ∨ most < (rdI s st).1) then ((rdI s st).1, ((rdI s st).2.1, 30)) else rdI s st
def rdList {α : Type} (f : RS → α × RS) (s : List UInt8) (most : Int) (st : RS) : List α × RS := rdMany f (rdCount s most st).1.toNat (rdCount s most st).2
def rdB1 (s : List UInt8) (st : RS) := rdI s st
def rdB2 (s : List UInt8) (st : RS) := rdI s (rdB1 s st).2
def rdB3 (s : List UInt8) (st : RS) := rdT s (rdB2 s st).2
def rdB4 (s : List UInt8) (st : RS) := rdI s (rdB3 s st).2
def rdB5 (s : List UInt8) (st : RS) := rdI s (rdB4 s st).2
def rdB6 (s : List UInt8) (st : RS) := rdI s (rdB5 s st).2
def rdB7 (s : List UInt8) (st : RS) := rdList (rdI s) s 64 (rdB6 s st).2
def rdB8 (s : List UInt8) (st : RS) := rdI s (rdB7 s st).2
def rdB9 (s : List UInt8) (st : RS) := rdI s (rdB8 s st).2
def rdBlk (s : List UInt8) (st : RS) : Blk × RS :=
  (⟨(rdB1 s st).1, (rdB2 s st).1, (rdB3 s st).1, (rdB4 s st).1, (rdB5 s st).1, ⟨(rdB6 s st).1, (rdB7 s st).1, (rdB8 s st).1, (rdB9 s st).1⟩⟩, (rdB9 s st).2)
def decRun (s : List UInt8) : List Blk × RS := rdList (rdBlk s) s 24 (0, 0)
def decSpec (s : List UInt8) : List Blk × Int :=
  if ¬ (decRun s).2.2 = 0 then ([], (decRun s).2.2) else if (decRun s).2.1 < s.length then ([], 10) else if listOk (decRun s).1 = true then ((decRun s).1, 0) else ([], 30)
theorem rdStr_inv' {l t : List UInt8} {k : Nat} (h : rdStr l = some (t, k)) : k ≤ l.length ∧ t.length ≤ 65536 := by
  unfold rdStr at h
  split at h
  · cases h
  · next n j hr =>
    split at h
    · next hc =>
      have := (rdInt_inv hr).2.1
      simp only [Option.some.injEq, Prod.mk.injEq] at h
      obtain ⟨rfl, rfl⟩ := h
      refine ⟨by omega, ?_⟩
      rw [List.length_take]; omega
    · cases h
theorem rdI_le {s : List UInt8} {st : RS} (h : st.1 ≤ s.length) : (rdI s st).2.1 ≤ s.length := by
  unfold rdI
  split
  · split
    · exact h
    · next n k hr =>
      have := (rdInt_inv hr).2.1
      rw [List.length_drop] at this
      simp only; omega
  · exact h
theorem rdT_le {s : List UInt8} {st : RS} (h : st.1 ≤ s.length) : (rdT s st).2.1 ≤ s.length ∧ (rdT s st).1.size ≤ 65536 := by
  unfold rdT
  split
  · split
    · exact ⟨h, (show (0 : Nat) ≤ 65536 by decide)⟩
    · next n k hr =>
      have := rdStr_inv' hr
      rw [List.length_drop] at this
      exact ⟨by simp only; omega, by rw [ba_size]; exact this.2⟩
  · exact ⟨h, (show (0 : Nat) ≤ 65536 by decide)⟩
theorem rdMany_le {α : Type} {f : RS → α × RS} {s : List UInt8} (hf : ∀ st, st.1 ≤ s.length → (f st).2.1 ≤ s.length) : ∀ (n : Nat) (st : RS), st.1 ≤ s.length → (rdMany f n st).2.1 ≤ s.length ∧ (rdMany f n st).1.length ≤ n
  | 0, st, h => ⟨h, Nat.le_refl _⟩
  | n + 1, st, h => by
    unfold rdMany
    split
    · have := rdMany_le hf n (f st).2 (hf st h)
      exact ⟨this.1, by simp only [List.length_cons]; omega⟩
    · exact ⟨h, by simp⟩
theorem rdMany_err {α : Type} {f : RS → α × RS} {n : Nat} {st : RS} (h : ¬ st.2 = 0) : rdMany f n st = ([], st) := by
  cases n with
  | zero => rfl
  | succ n => rw [rdMany, if_neg h]
theorem rdCount_le {s : List UInt8} {most : Int} {st : RS} (h : st.1 ≤ s.length) : (rdCount s most st).2.1 ≤ s.length := by
  unfold rdCount
  split
  · exact rdI_le h
  · exact rdI_le h
theorem rdCount_ok {s : List UInt8} {most : Int} {st : RS} (h : (rdCount s most st).2.2 = 0) : 0 ≤ (rdCount s most st).1 ∧ (rdCount s most st).1 ≤ most := by
  unfold rdCount at *
  split at h
  · simp at h
  · next hn =>
    rw [if_neg hn]
    omega
theorem rdList_le {α : Type} {f : RS → α × RS} {s : List UInt8} {most : Nat} (hf : ∀ st, st.1 ≤ s.length → (f st).2.1 ≤ s.length) {st : RS} (h : st.1 ≤ s.length) : (rdList f s most st).2.1 ≤ s.length ∧ (rdList f s most st).1.length ≤ most := by
  unfold rdList
  have := rdMany_le hf (rdCount s most st).1.toNat (rdCount s most st).2 (rdCount_le h)
  refine ⟨this.1, ?_⟩
  by_cases he : (rdCount s most st).2.2 = 0
  · have := rdCount_ok he
    omega
  · rw [rdMany_err he]; simp
theorem rdB_le {s : List UInt8} {st : RS} (h : st.1 ≤ s.length) : (rdB1 s st).2.1 ≤ s.length ∧ (rdB2 s st).2.1 ≤ s.length ∧ (rdB3 s st).2.1 ≤ s.length ∧ (rdB4 s st).2.1 ≤ s.length ∧ (rdB5 s st).2.1 ≤ s.length ∧ (rdB6 s st).2.1 ≤ s.length ∧ (rdB7 s st).2.1 ≤ s.length ∧ (rdB8 s st).2.1 ≤ s.length ∧ (rdB9 s st).2.1 ≤ s.length := by
  have h1 := rdI_le h
  have h2 := rdI_le (s := s) h1
  have h3 := (rdT_le (s := s) h2).1
  have h4 := rdI_le (s := s) h3
  have h5 := rdI_le (s := s) h4
  have h6 := rdI_le (s := s) h5
  have h7 := (rdList_le (f := rdI s) (most := 64) (fun st => rdI_le) h6).1
  have h8 := rdI_le (s := s) h7
  have h9 := rdI_le (s := s) h8
  exact ⟨h1, h2, h3, h4, h5, h6, h7, h8, h9⟩
theorem rdBlk_le {s : List UInt8} {st : RS} (h : st.1 ≤ s.length) : (rdBlk s st).2.1 ≤ s.length := (rdB_le h).2.2.2.2.2.2.2.2
theorem rdBlk_fits {s : List UInt8} {st : RS} (h : st.1 ≤ s.length) : (rdBlk s st).1.Fits := by
  obtain ⟨h1, h2, h3, h4, h5, h6, h7, h8, h9⟩ := rdB_le h
  refine ⟨?_, ?_⟩
  · have := (rdT_le (s := s) h2).2
    show (rdB3 s st).1.size ≤ _
    unfold rdB3; omega
  · have := (rdList_le (f := rdI s) (most := 64) (fun st => rdI_le) h6).2
    show (rdB7 s st).1.length ≤ _
    exact Nat.le_trans this (by decide)
end Go.Eng
namespace Go.Eng
open Go Go.RowKit Wire
set_option linter.unusedVariables false
theorem drop_next {s x r : List UInt8} {a : Nat} (h : s.drop a = x ++ r) : s.drop (a + x.length) = r := by
  rw [← List.drop_drop, h, List.drop_left]
theorem rdI_fwd {s r : List UInt8} {a : Nat} {n : Int} (hn : okInt n) (h : s.drop a = Wire.enc n ++ r) : rdI s (a, 0) = (n, (a + (Wire.enc n).length, 0)) := by
  simp only [rdI, if_pos]
  rw [h, rdInt_enc hn]
theorem rdT_fwd {s r : List UInt8} {a : Nat} {t : ByteArray} (ht : t.size ≤ 65536) (h : s.drop a = encS (bts t) ++ r) : rdT s (a, 0) = (t, (a + (encS (bts t)).length, 0)) := by
  simp only [rdT, if_pos]
  rw [h, rdStr_enc (by rw [bts_len]; exact ht)]
theorem rdMany_fwd {α : Type} {f : RS → α × RS} {e : α → List UInt8} {s : List UInt8} : ∀ (l : List α) (a : Nat) (r : List UInt8), (∀ x ∈ l, ∀ a r, s.drop a = e x ++ r → f (a, 0) = (x, (a + (e x).length, 0))) → s.drop a = l.flatMap e ++ r →
    rdMany f l.length (a, 0) = (l, (a + (l.flatMap e).length, 0))
  | [], a, r, hf, h => rfl
  | x :: t, a, r, hf, h => by
    rw [List.flatMap_cons, List.append_assoc] at h
    have h1 := hf x List.mem_cons_self a _ h
    have h2 := rdMany_fwd t (a + (e x).length) r (fun y hy => hf y (List.mem_cons_of_mem _ hy)) (drop_next h)
    rw [List.length_cons, rdMany, if_pos rfl, h1, h2, List.flatMap_cons, List.length_append, Nat.add_assoc]
theorem rdList_fwd {α : Type} {f : RS → α × RS} {e : α → List UInt8} {s : List UInt8} {l : List α} {a most : Nat} {r : List UInt8} (hl : l.length ≤ most) (hm : most ≤ 65536) (hf : ∀ x ∈ l, ∀ a r, s.drop a = e x ++ r → f (a, 0) = (x, (a + (e x).length, 0)))
    (h : s.drop a = Wire.enc (l.length : Int) ++ (l.flatMap e ++ r)) : rdList f s most (a, 0) = (l, (a + ((Wire.enc (l.length : Int)).length + (l.flatMap e).length), 0)) := by
  have h1 := rdI_fwd (okI (by omega)) h
  have h2 : rdCount s most (a, 0) = ((l.length : Int), (a + (Wire.enc (l.length : Int)).length, 0)) := by
    rw [rdCount, h1, if_neg (by simp only; omega)]
  rw [rdList, h2]
  simp only [Int.toNat_natCast]
  rw [rdMany_fwd l _ r hf (drop_next h), Nat.add_assoc]
theorem rdBlk_fwd {s r : List UInt8} {a : Nat} {b : Blk} (hb : b.Good) (h : s.drop a = b.enc ++ r) : rdBlk s (a, 0) = (b, (a + b.enc.length, 0)) := by
  have i1 := hb.id; have i2 := hb.kind; have i3 := hb.text; have i4 := hb.story; have i5 := hb.ref; have i6 := hb.unt; have i7 := hb.appr; have i8 := hb.den; have i9 := hb.len
  unfold Blk.enc at h
  simp only [List.append_assoc] at h
  have h1 := rdI_fwd (okI (by omega)) h; have d1 := drop_next h
  have h2 := rdI_fwd (okI (by omega)) d1; have d2 := drop_next d1
  have h3 := rdT_fwd (by omega) d2; have d3 := drop_next d2
  have h4 := rdI_fwd (okI (by omega)) d3; have d4 := drop_next d3
  have h5 := rdI_fwd (okI (by omega)) d4; have d5 := drop_next d4
  have h6 := rdI_fwd (okI (by omega)) d5; have d6 := drop_next d5
  have h7 := rdList_fwd (f := rdI s) (e := Wire.enc) (most := 64) (l := b.lab.after) (by omega) (by omega) (fun x hx a r h => rdI_fwd (okI (by have := hb.after x hx; omega)) h) d6
  have d7 := drop_next (drop_next d6)
  rw [Nat.add_assoc] at d7
  have h8 := rdI_fwd (okI (by omega)) d7; have d8 := drop_next d7
  have h9 := rdI_fwd (okI (by omega)) d8
  have q1 : rdB1 s (a, 0) = _ := h1
  have q2 : rdB2 s (a, 0) = _ := (congrArg (fun x : (Int) × RS => rdI s x.2) q1).trans h2
  have q3 : rdB3 s (a, 0) = _ := (congrArg (fun x : (Int) × RS => rdT s x.2) q2).trans h3
  have q4 : rdB4 s (a, 0) = _ := (congrArg (fun x : (ByteArray) × RS => rdI s x.2) q3).trans h4
  have q5 : rdB5 s (a, 0) = _ := (congrArg (fun x : (Int) × RS => rdI s x.2) q4).trans h5
  have q6 : rdB6 s (a, 0) = _ := (congrArg (fun x : (Int) × RS => rdI s x.2) q5).trans h6
  have q7 : rdB7 s (a, 0) = _ := (congrArg (fun x : (Int) × RS => rdList (rdI s) s 64 x.2) q6).trans h7
  have q8 : rdB8 s (a, 0) = _ := (congrArg (fun x : (List Int) × RS => rdI s x.2) q7).trans h8
  have q9 : rdB9 s (a, 0) = _ := (congrArg (fun x : (Int) × RS => rdI s x.2) q8).trans h9
  rw [rdBlk, q1, q2, q3, q4, q5, q6, q7, q8, q9]
  simp only [Prod.mk.injEq, and_true, true_and]
  unfold Blk.enc
  simp only [List.length_append]
  have : encIs b.lab.after = b.lab.after.flatMap Wire.enc := rfl
  omega
theorem decRun_fwd {l : List Blk} (h : listOk l = true) (r : List UInt8) : decRun (encL l ++ r) = (l, ((encL l).length, 0)) := by
  obtain ⟨h1, h2⟩ := listOk_all h
  have := rdList_fwd (f := rdBlk (encL l ++ r)) (e := Blk.enc) (s := encL l ++ r) (a := 0) (l := l) (most := 24) (r := r) h1 (by omega) (fun b hb a r h => rdBlk_fwd (Blk.good (h2 b hb)) h) (by rw [List.drop_zero, encL, encBs, List.append_assoc])
  rw [decRun]
  refine this.trans ?_
  rw [Nat.zero_add, encL, List.length_append]; rfl
theorem dec_enc {l : List Blk} (h : listOk l = true) : decSpec (encL l) = (l, 0) := by
  have := decRun_fwd h []
  rw [List.append_nil] at this
  rw [decSpec, this, if_neg (by simp), if_neg (by simp), if_pos h]
end Go.Eng
namespace Go.Eng
open Go Go.RowKit Wire
set_option linter.unusedVariables false
theorem rdI_err {s : List UInt8} {st : RS} (h : ¬ st.2 = 0) : (rdI s st).2 = st := by rw [rdI, if_neg h]
theorem rdT_err {s : List UInt8} {st : RS} (h : ¬ st.2 = 0) : (rdT s st).2 = st := by rw [rdT, if_neg h]
theorem decode_len (s : List UInt8) : (decSpec s).1.length ≤ 24 := by
  have h := (rdList_le (f := rdBlk s) (s := s) (most := 24) (fun _ => rdBlk_le) (st := (0, 0)) (Nat.zero_le _)).2
  have h2 : (decRun s).1.length ≤ 24 := h
  unfold decSpec
  split
  · exact Nat.zero_le _
  · split
    · exact Nat.zero_le _
    · split
      · exact h2
      · exact Nat.zero_le _
end Go.Eng
namespace Go.Eng
open Go Go.RowKit Wire
set_option linter.unusedVariables false
abbrev e0 : ByteArray := ⟨#[]⟩
def Lab.zero : Lab := ⟨0, [], 0, 0⟩
def Fct.zero : Fct := ⟨0, 0, 0, 0, e0, 0, 0, e0, e0, [], [], Lab.zero, 0, 0, 0, e0, e0, 0, 0, 0⟩
inductive Fld where
  | n | time | kind | story | lang | rev | base | title | author | topics | blocks | label | editor | block | sentence | text | name | partner | cls | unt
deriving DecidableEq
inductive FTy where
  | int | str | topics | blocks | label
deriving DecidableEq
def Fld.ty : Fld → FTy
  | .n | .time | .kind | .story | .rev | .base | .editor | .block | .sentence | .partner | .cls | .unt => .int
  | .lang | .title | .author | .text | .name => .str
  | .topics => .topics
  | .blocks => .blocks
  | .label => .label
def Fld.off : Fld → Nat
  | .n => 0 | .time => 1 | .kind => 2 | .story => 3 | .lang => 4 | .rev => 5 | .base => 6 | .title => 7 | .author => 8 | .topics => 9 | .blocks => 10 | .label => 11
  | .editor => 15 | .block => 16 | .sentence => 17 | .text => 18 | .name => 19 | .partner => 20 | .cls => 21 | .unt => 22
abbrev FTy.T : FTy → Type
  | .int => Int
  | .str => ByteArray
  | .topics => List ByteArray
  | .blocks => List Blk
  | .label => Lab
def Fct.get (f : Fct) : (x : Fld) → x.ty.T
  | .n => f.n | .time => f.time | .kind => f.kind | .story => f.story | .lang => f.lang | .rev => f.rev | .base => f.base | .title => f.title | .author => f.author
  | .topics => f.topics | .blocks => f.blocks | .label => f.lab | .editor => f.editor | .block => f.block | .sentence => f.sentence | .text => f.text | .name => f.name | .partner => f.partner | .cls => f.cls | .unt => f.unt
def Fct.set (f : Fct) : (x : Fld) → x.ty.T → Fct
  | .n, v => { f with n := v } | .time, v => { f with time := v } | .kind, v => { f with kind := v } | .story, v => { f with story := v } | .lang, v => { f with lang := v }
  | .rev, v => { f with rev := v } | .base, v => { f with base := v } | .title, v => { f with title := v } | .author, v => { f with author := v } | .topics, v => { f with topics := v }
  | .blocks, v => { f with blocks := v } | .label, v => { f with lab := v } | .editor, v => { f with editor := v } | .block, v => { f with block := v } | .sentence, v => { f with sentence := v }
  | .text, v => { f with text := v } | .name, v => { f with name := v } | .partner, v => { f with partner := v } | .cls, v => { f with cls := v } | .unt, v => { f with unt := v }
theorem Fct.ext_get {f g : Fct} (h : ∀ x, f.get x = g.get x) : f = g := by
  have h0 := h .n; have h1 := h .time; have h2 := h .kind; have h3 := h .story; have h4 := h .lang; have h5 := h .rev; have h6 := h .base; have h7 := h .title; have h8 := h .author
  have h9 := h .topics; have h10 := h .blocks; have h11 := h .label; have h12 := h .editor; have h13 := h .block; have h14 := h .sentence; have h15 := h .text; have h16 := h .name; have h17 := h .partner; have h18 := h .cls; have h19 := h .unt
  cases f; cases g
  simp only [Fct.get] at *
  subst h0 h1 h2 h3 h4 h5 h6 h7 h8 h9 h10 h11 h12 h13 h14 h15 h16 h17 h18 h19
  rfl
def kfields (k : Int) : List Fld :=
  if k = 1 then [.story, .lang, .rev, .base, .title, .author, .topics, .blocks, .label]
  else if k = 2 then [.story, .editor]
  else if k = 3 then [.story, .label]
  else if k = 4 then [.story, .lang, .block, .sentence, .text]
  else if k = 5 then [.story, .text]
  else if k = 6 then [.story]
  else if k = 7 then [.name, .text]
  else if k = 8 then [.partner, .cls, .unt]
  else if k = 9 then [.partner, .unt]
  else if k = 10 then [.story]
  else []
def Fct.bare (n time kind : Int) : Fct := { Fct.zero with n := n, time := time, kind := kind }
def Fct.used (f : Fct) : Fct := (kfields f.kind).foldl (fun g x => g.set x (f.get x)) (Fct.bare f.n f.time f.kind)
def srcB (b : Int) : Bool := decide (b = 10) || txtB b
def srcOk (s : ByteArray) : Bool := decide (s.size ≤ 1000) && scan s srcB 0
def tLe (a b : ByteArray) : Bool := Op.bytesLess a.toList b.toList || (a.toList == b.toList)
def tAfter : Option ByteArray → ByteArray → Bool
  | none, _ => true
  | some a, t => !tLe t a
def topicsGo : Option ByteArray → List ByteArray → Bool
  | _, [] => true
  | last, t :: r => nameOk t && (tAfter last t && topicsGo (some t) r)
def topicsOk (l : List ByteArray) : Bool := decide (l.length ≤ 4) && topicsGo none l
def Fct.rvOk (f : Fct) : Bool := nameOk f.lang && (decide (1 ≤ f.rev ∧ f.rev ≤ 100) && (decide (0 ≤ f.base ∧ f.base ≤ f.rev - 1) && (fillOk f.title && (nameOk f.author && (topicsOk f.topics && (listOk f.blocks && f.lab.ok))))))
def Fct.coOk (f : Fct) : Bool := nameOk f.lang && (decide (1 ≤ f.block ∧ f.block ≤ 1000) && (decide (0 ≤ f.sentence ∧ f.sentence ≤ 299) && fillOk f.text))
def Fct.stOk (f : Fct) : Bool := decide (1 ≤ f.story ∧ f.story ≤ 64)
def Fct.paOk (f : Fct) : Bool := decide (1 ≤ f.partner ∧ f.partner ≤ 8 ∧ 0 ≤ f.unt ∧ f.unt ≤ 1000000000)
def Fct.vals (f : Fct) : Bool :=
  if f.kind = 1 then f.stOk && f.rvOk
  else if f.kind = 2 then f.stOk && decide (1 ≤ f.editor ∧ f.editor ≤ 5)
  else if f.kind = 3 then f.stOk && f.lab.ok
  else if f.kind = 4 then f.stOk && f.coOk
  else if f.kind = 5 then f.stOk && fillOk f.text
  else if f.kind = 6 then f.stOk
  else if f.kind = 7 then nameOk f.name && srcOk f.text
  else if f.kind = 8 then f.paOk && decide (0 ≤ f.cls ∧ f.cls ≤ 3)
  else if f.kind = 9 then f.paOk
  else if f.kind = 10 then f.stOk
  else false
def Fct.ok (f : Fct) : Bool := decide (0 ≤ f.n ∧ f.n ≤ 500 ∧ 0 ≤ f.time ∧ f.time ≤ 1000000000) && (f.vals && decide (f = f.used))
def putV : (t : FTy) → t.T → List UInt8
  | .int, n => Wire.enc n
  | .str, s => encS (bts s)
  | .topics, l => Wire.enc (l.length : Int) ++ l.flatMap fun s : ByteArray => encS (bts s)
  | .blocks, l => encS (encL l)
  | .label, l => Wire.enc l.unt ++ (Wire.enc (l.after.length : Int) ++ (l.after.flatMap Wire.enc ++ (Wire.enc l.appr ++ Wire.enc l.den)))
def Fct.put (f : Fct) (x : Fld) : List UInt8 := putV x.ty (f.get x)
def Fct.head (f : Fct) : List UInt8 := Wire.enc f.n ++ (Wire.enc f.time ++ Wire.enc f.kind)
def encF (f : Fct) : List UInt8 := f.head ++ (kfields f.kind).flatMap f.put
def vOk : (t : FTy) → t.T → Prop
  | .int, n => okInt n
  | .str, s => s.size ≤ 65536
  | .topics, (l : List ByteArray) => l.length ≤ 4 ∧ ∀ s ∈ l, s.size ≤ 65536
  | .blocks, l => listOk l = true
  | .label, l => okInt l.unt ∧ l.after.length ≤ 64 ∧ (∀ x ∈ l.after, okInt x) ∧ okInt l.appr ∧ okInt l.den
def fcnt (s : List UInt8) (most : Int) (st : RS) : Int × RS :=
  if (rdI s st).2.2 = 0 ∧ ((rdI s st).1 < 0 ∨ most < (rdI s st).1) then ((rdI s st).1, ((rdI s st).2.1, 50)) else rdI s st
def flist {α : Type} (f : RS → α × RS) (s : List UInt8) (most : Int) (st : RS) : List α × RS := rdMany f (fcnt s most st).1.toNat (fcnt s most st).2
def rdBlks (s : List UInt8) (st : RS) : List Blk × RS :=
  if (rdT s st).2.2 = 0 then (if (decSpec (bts (rdT s st).1)).2 = 0 then ((decSpec (bts (rdT s st).1)).1, (rdT s st).2) else ([], ((rdT s st).2.1, 50))) else ([], (rdT s st).2)
def rdL1 (s : List UInt8) (st : RS) := rdI s st
def rdL2 (s : List UInt8) (st : RS) := flist (rdI s) s 64 (rdL1 s st).2
def rdL3 (s : List UInt8) (st : RS) := rdI s (rdL2 s st).2
def rdL4 (s : List UInt8) (st : RS) := rdI s (rdL3 s st).2
def rdLab (s : List UInt8) (st : RS) : Lab × RS := (⟨(rdL1 s st).1, (rdL2 s st).1, (rdL3 s st).1, (rdL4 s st).1⟩, (rdL4 s st).2)
def rdV (s : List UInt8) : (t : FTy) → RS → t.T × RS
  | .int, st => rdI s st
  | .str, st => rdT s st
  | .topics, st => flist (rdT s) s 4 st
  | .blocks, st => rdBlks s st
  | .label, st => rdLab s st
def rdFld (s : List UInt8) (r : Fct × RS) (x : Fld) : Fct × RS := (r.1.set x (rdV s x.ty r.2).1, (rdV s x.ty r.2).2)
def rdH1 (s : List UInt8) := rdI s (0, 0)
def rdH2 (s : List UInt8) := rdI s (rdH1 s).2
def rdH3 (s : List UInt8) := rdI s (rdH2 s).2
def rdKind (s : List UInt8) : RS := if (rdH3 s).2.2 = 0 ∧ kfields (rdH3 s).1 = [] then ((rdH3 s).2.1, 50) else (rdH3 s).2
def decFRun (s : List UInt8) : Fct × RS := (kfields (rdH3 s).1).foldl (rdFld s) (Fct.bare (rdH1 s).1 (rdH2 s).1 (rdH3 s).1, rdKind s)
def decF (s : List UInt8) : Fct × Int :=
  if ¬ (decFRun s).2.2 = 0 then (Fct.zero, (decFRun s).2.2) else if (decFRun s).2.1 < s.length then (Fct.zero, 10) else if (decFRun s).1.ok = true then ((decFRun s).1, 0) else (Fct.zero, 50)
theorem encL_le {l : List Blk} (h : listOk l = true) : (encL l).length ≤ 30000 := by
  have h1 := encBs_len l (listOk_all h).2
  have h2 := (listOk_all h).1
  have h3 := enc_len (l.length : Int)
  rw [encL, List.length_append]; omega
theorem flist_fwd {α : Type} {f : RS → α × RS} {e : α → List UInt8} {s : List UInt8} {l : List α} {a most : Nat} {r : List UInt8} (hl : l.length ≤ most) (hm : most ≤ 65536) (hf : ∀ x ∈ l, ∀ a r, s.drop a = e x ++ r → f (a, 0) = (x, (a + (e x).length, 0)))
    (h : s.drop a = Wire.enc (l.length : Int) ++ (l.flatMap e ++ r)) : flist f s most (a, 0) = (l, (a + ((Wire.enc (l.length : Int)).length + (l.flatMap e).length), 0)) := by
  have h1 := rdI_fwd (okI (by omega)) h
  have h2 : fcnt s most (a, 0) = ((l.length : Int), (a + (Wire.enc (l.length : Int)).length, 0)) := by
    rw [fcnt, h1, if_neg (by simp only; omega)]
  rw [flist, h2]
  simp only [Int.toNat_natCast]
  rw [rdMany_fwd l _ r hf (drop_next h), Nat.add_assoc]
theorem rdV_fwd {s r : List UInt8} {a : Nat} : ∀ {t : FTy} {v : t.T}, vOk t v → s.drop a = putV t v ++ r → rdV s t (a, 0) = (v, (a + (putV t v).length, 0))
  | .int, n, hn, h => rdI_fwd hn h
  | .str, v, hv, h => rdT_fwd hv h
  | .topics, l, hl, h => by
    have h' : s.drop a = Wire.enc (l.length : Int) ++ ((l.flatMap fun s : ByteArray => encS (bts s)) ++ r) := by rw [← List.append_assoc]; exact h
    have := flist_fwd (f := rdT s) (e := fun s : ByteArray => encS (bts s)) (most := 4) hl.1 (by omega) (fun x hx a r h => rdT_fwd (hl.2 x hx) h) h'
    refine this.trans ?_
    simp only [putV, List.length_append]
  | .blocks, l, hl, h => by
    have h1 : rdT s (a, 0) = (ba (encL l), (a + (encS (encL l)).length, 0)) := by
      have := rdT_fwd (s := s) (r := r) (a := a) (t := ba (encL l)) (by rw [ba_size]; have := encL_le hl; omega) (by rw [bts_mk]; exact h)
      rw [bts_mk] at this
      exact this
    show rdBlks s (a, 0) = _
    rw [rdBlks, h1, if_pos rfl, bts_mk, dec_enc hl, if_pos rfl]
    rfl
  | .label, l, ⟨h1, h2, h3, h4, h5⟩, h => by
    have h : s.drop a = Wire.enc l.unt ++ (Wire.enc (l.after.length : Int) ++ (l.after.flatMap Wire.enc ++ (Wire.enc l.appr ++ (Wire.enc l.den ++ r)))) := by rw [h]; simp only [putV, List.append_assoc]
    have k1 := rdI_fwd h1 h; have d1 := drop_next h
    have k2 := flist_fwd (f := rdI s) (e := Wire.enc) (most := 64) h2 (by omega) (fun x hx a r h => rdI_fwd (h3 x hx) h) d1
    have d2 := drop_next (drop_next d1)
    rw [Nat.add_assoc] at d2
    have k3 := rdI_fwd h4 d2; have d3 := drop_next d2
    have k4 := rdI_fwd h5 d3
    have q1 : rdL1 s (a, 0) = _ := k1
    have q2 : rdL2 s (a, 0) = _ := (congrArg (fun x : (Int) × RS => flist (rdI s) s 64 x.2) q1).trans k2
    have q3 : rdL3 s (a, 0) = _ := (congrArg (fun x : (List Int) × RS => rdI s x.2) q2).trans k3
    have q4 : rdL4 s (a, 0) = _ := (congrArg (fun x : (Int) × RS => rdI s x.2) q3).trans k4
    show rdLab s (a, 0) = _
    rw [rdLab, q1, q2, q3, q4]
    simp only [Prod.mk.injEq, and_true, putV, List.length_append]
    refine ⟨trivial, by omega⟩
theorem fold_fwd {s : List UInt8} {f : Fct} : ∀ (l : List Fld) (g : Fct) (a : Nat) (r : List UInt8), (∀ x ∈ l, vOk x.ty (f.get x)) → s.drop a = l.flatMap f.put ++ r →
    l.foldl (rdFld s) (g, (a, 0)) = (l.foldl (fun g x => g.set x (f.get x)) g, (a + (l.flatMap f.put).length, 0))
  | [], g, a, r, _, h => rfl
  | x :: l, g, a, r, hv, h => by
    rw [List.flatMap_cons, List.append_assoc] at h
    have h1 := rdV_fwd (hv x List.mem_cons_self) h
    have h2 : rdFld s (g, (a, 0)) x = (g.set x (f.get x), (a + (f.put x).length, 0)) := by rw [rdFld, h1]; rfl
    rw [List.foldl_cons, h2, fold_fwd l _ _ r (fun y hy => hv y (List.mem_cons_of_mem _ hy)) (drop_next h), List.flatMap_cons, List.length_append, Nat.add_assoc]
    rfl
end Go.Eng
namespace Go.Eng
open Go Go.RowKit Wire
set_option linter.unusedVariables false
theorem Lab.ok_vOk {l : Lab} (h : l.ok = true) : vOk .label l := by
  simp only [Lab.ok, Bool.and_eq_true, decide_eq_true_eq] at h
  obtain ⟨hl, ha⟩ := h
  obtain ⟨h1, h2⟩ := asc_spec _ _ ha (by omega) (by omega)
  exact ⟨okI (by omega), by omega, fun x hx => okI (by have := h2 x hx; omega), okI (by omega), okI (by omega)⟩
theorem nameOk_sz {s : ByteArray} (h : nameOk s = true) : s.size ≤ 20 := by
  simp only [nameOk, Bool.and_eq_true, decide_eq_true_eq] at h; omega
theorem fillOk_sz {s : ByteArray} (h : fillOk s = true) : s.size ≤ 300 := by
  simp only [fillOk, txtOk, Bool.and_eq_true, decide_eq_true_eq] at h; omega
theorem srcOk_sz {s : ByteArray} (h : srcOk s = true) : s.size ≤ 1000 := by
  simp only [srcOk, Bool.and_eq_true, decide_eq_true_eq] at h; omega
theorem topicsGo_all : ∀ (l : List ByteArray) (last : Option ByteArray), topicsGo last l = true → ∀ s ∈ l, nameOk s = true
  | [], _, _, _, hb => by cases hb
  | t :: r, last, h, s, hs => by
    simp only [topicsGo, Bool.and_eq_true] at h
    rcases List.mem_cons.1 hs with rfl | hs
    · exact h.1
    · exact topicsGo_all r (some t) h.2.2 s hs
theorem topicsOk_all {l : List ByteArray} (h : topicsOk l = true) : l.length ≤ 4 ∧ ∀ s ∈ l, nameOk s = true := by
  simp only [topicsOk, Bool.and_eq_true, decide_eq_true_eq] at h
  exact ⟨h.1, topicsGo_all l none h.2⟩
theorem vals_kind {f : Fct} (h : f.vals = true) : 1 ≤ f.kind ∧ f.kind ≤ 10 := by
  unfold Fct.vals at h
  repeat' split at h
  all_goals first | omega | simp at h
theorem kfields_pos {k : Int} (h : 1 ≤ k ∧ k ≤ 10) : kfields k ≠ [] := by
  unfold kfields
  repeat' split
  all_goals first | omega | simp
theorem vals_vOk {f : Fct} (h : f.vals = true) : ∀ x ∈ kfields f.kind, vOk x.ty (f.get x) := by
  have hk := vals_kind h
  have hk : f.kind = 1 ∨ f.kind = 2 ∨ f.kind = 3 ∨ f.kind = 4 ∨ f.kind = 5 ∨ f.kind = 6 ∨ f.kind = 7 ∨ f.kind = 8 ∨ f.kind = 9 ∨ f.kind = 10 := by omega
  have I : ∀ {n : Int}, (0 ≤ n ∧ n ≤ 1000000000) → okInt n := fun h => okI (by omega)
  have N : ∀ {s : ByteArray}, nameOk s = true → s.size ≤ 65536 := fun h => by have := nameOk_sz h; omega
  have F : ∀ {s : ByteArray}, fillOk s = true → s.size ≤ 65536 := fun h => by have := fillOk_sz h; omega
  rcases hk with hk | hk | hk | hk | hk | hk | hk | hk | hk | hk
  · have e : kfields f.kind = [.story, .lang, .rev, .base, .title, .author, .topics, .blocks, .label] := by rw [hk]; rfl
    have e2 : f.vals = (f.stOk && f.rvOk) := by unfold Fct.vals; rw [if_pos hk]
    rw [e2] at h
    simp only [Fct.stOk, Fct.rvOk, Bool.and_eq_true, decide_eq_true_eq] at h
    obtain ⟨h1, h2, h3, h4, h5, h6, h7, h8, h9⟩ := h
    have h10 := topicsOk_all h7
    rw [e]
    simp only [List.forall_mem_cons]
    exact ⟨I (by simp only [Fct.get]; omega), N h2, I (by simp only [Fct.get]; omega), I (by simp only [Fct.get]; omega), F h5, N h6, ⟨h10.1, fun s hs => N (h10.2 s hs)⟩, h8, Lab.ok_vOk h9, by simp⟩
  · have e : kfields f.kind = [.story, .editor] := by rw [hk]; rfl
    have e2 : f.vals = (f.stOk && decide (1 ≤ f.editor ∧ f.editor ≤ 5)) := by unfold Fct.vals; simp only [hk, reduceIte, Int.reduceEq]
    rw [e2] at h
    simp only [Fct.stOk, Bool.and_eq_true, decide_eq_true_eq] at h
    rw [e]
    simp only [List.forall_mem_cons]
    exact ⟨I (by simp only [Fct.get]; omega), I (by simp only [Fct.get]; omega), by simp⟩
  · have e : kfields f.kind = [.story, .label] := by rw [hk]; rfl
    have e2 : f.vals = (f.stOk && f.lab.ok) := by unfold Fct.vals; simp only [hk, reduceIte, Int.reduceEq]
    rw [e2] at h
    simp only [Fct.stOk, Bool.and_eq_true, decide_eq_true_eq] at h
    rw [e]
    simp only [List.forall_mem_cons]
    exact ⟨I (by simp only [Fct.get]; omega), Lab.ok_vOk h.2, by simp⟩
  · have e : kfields f.kind = [.story, .lang, .block, .sentence, .text] := by rw [hk]; rfl
    have e2 : f.vals = (f.stOk && f.coOk) := by unfold Fct.vals; simp only [hk, reduceIte, Int.reduceEq]
    rw [e2] at h
    simp only [Fct.stOk, Fct.coOk, Bool.and_eq_true, decide_eq_true_eq] at h
    obtain ⟨h1, h2, h3, h4, h5⟩ := h
    rw [e]
    simp only [List.forall_mem_cons]
    exact ⟨I (by simp only [Fct.get]; omega), N h2, I (by simp only [Fct.get]; omega), I (by simp only [Fct.get]; omega), F h5, by simp⟩
  · have e : kfields f.kind = [.story, .text] := by rw [hk]; rfl
    have e2 : f.vals = (f.stOk && fillOk f.text) := by unfold Fct.vals; simp only [hk, reduceIte, Int.reduceEq]
    rw [e2] at h
    simp only [Fct.stOk, Bool.and_eq_true, decide_eq_true_eq] at h
    rw [e]
    simp only [List.forall_mem_cons]
    exact ⟨I (by simp only [Fct.get]; omega), F h.2, by simp⟩
  · have e : kfields f.kind = [.story] := by rw [hk]; rfl
    have e2 : f.vals = f.stOk := by unfold Fct.vals; simp only [hk, reduceIte, Int.reduceEq]
    rw [e2] at h
    simp only [Fct.stOk, decide_eq_true_eq] at h
    rw [e]
    simp only [List.forall_mem_cons]
    exact ⟨I (by simp only [Fct.get]; omega), by simp⟩
  · have e : kfields f.kind = [.name, .text] := by rw [hk]; rfl
    have e2 : f.vals = (nameOk f.name && srcOk f.text) := by unfold Fct.vals; simp only [hk, reduceIte, Int.reduceEq]
    rw [e2] at h
    simp only [Bool.and_eq_true] at h
    rw [e]
    simp only [List.forall_mem_cons]
    exact ⟨N h.1, Nat.le_trans (srcOk_sz h.2) (by decide), by simp⟩
  · have e : kfields f.kind = [.partner, .cls, .unt] := by rw [hk]; rfl
    have e2 : f.vals = (f.paOk && decide (0 ≤ f.cls ∧ f.cls ≤ 3)) := by unfold Fct.vals; simp only [hk, reduceIte, Int.reduceEq]
    rw [e2] at h
    simp only [Fct.paOk, Bool.and_eq_true, decide_eq_true_eq] at h
    rw [e]
    simp only [List.forall_mem_cons]
    exact ⟨I (by simp only [Fct.get]; omega), I (by simp only [Fct.get]; omega), I (by simp only [Fct.get]; omega), by simp⟩
  · have e : kfields f.kind = [.partner, .unt] := by rw [hk]; rfl
    have e2 : f.vals = f.paOk := by unfold Fct.vals; simp only [hk, reduceIte, Int.reduceEq]
    rw [e2] at h
    simp only [Fct.paOk, decide_eq_true_eq] at h
    rw [e]
    simp only [List.forall_mem_cons]
    exact ⟨I (by simp only [Fct.get]; omega), I (by simp only [Fct.get]; omega), by simp⟩
  · have e : kfields f.kind = [.story] := by rw [hk]; rfl
    have e2 : f.vals = f.stOk := by unfold Fct.vals; simp only [hk, reduceIte, Int.reduceEq]
    rw [e2] at h
    simp only [Fct.stOk, decide_eq_true_eq] at h
    rw [e]
    simp only [List.forall_mem_cons]
    exact ⟨I (by simp only [Fct.get]; omega), by simp⟩
structure Fct.Good (f : Fct) : Prop where
  n : 0 ≤ f.n ∧ f.n ≤ 500
  time : 0 ≤ f.time ∧ f.time ≤ 1000000000
  kind : 1 ≤ f.kind ∧ f.kind ≤ 10
  vals : f.vals = true
  fields : ∀ x ∈ kfields f.kind, vOk x.ty (f.get x)
  used : f = f.used
theorem Fct.good {f : Fct} (h : f.ok = true) : f.Good := by
  simp only [Fct.ok, Bool.and_eq_true, decide_eq_true_eq] at h
  obtain ⟨h1, h2, h3⟩ := h
  exact ⟨by omega, by omega, vals_kind h2, h2, vals_vOk h2, h3⟩
theorem decFRun_fwd {f : Fct} (h : f.ok = true) (r : List UInt8) : decFRun (encF f ++ r) = (f, ((encF f).length, 0)) := by
  have g := Fct.good h
  have hn := g.n; have ht := g.time; have hk := g.kind
  generalize hs : encF f ++ r = s
  have h0 : s.drop 0 = Wire.enc f.n ++ (Wire.enc f.time ++ (Wire.enc f.kind ++ ((kfields f.kind).flatMap f.put ++ r))) := by
    rw [← hs, List.drop_zero, encF, Fct.head]; simp only [List.append_assoc]
  have h1 := rdI_fwd (okI (by omega)) h0; have d1 := drop_next h0
  have h2 := rdI_fwd (okI (by omega)) d1; have d2 := drop_next d1
  have h3 := rdI_fwd (okI (by omega)) d2; have d3 := drop_next d2
  have q1 : rdH1 s = _ := h1
  have q2 : rdH2 s = _ := (congrArg (fun x : Int × RS => rdI s x.2) q1).trans h2
  have q3 : rdH3 s = _ := (congrArg (fun x : Int × RS => rdI s x.2) q2).trans h3
  have h4 := fold_fwd (f := f) (kfields f.kind) (Fct.bare f.n f.time f.kind) _ r g.fields d3
  rw [decFRun, rdKind, q1, q2, q3]
  simp only
  rw [if_neg (fun hh => kfields_pos hk hh.2), h4]
  have hu : (kfields f.kind).foldl (fun g x => g.set x (f.get x)) (Fct.bare f.n f.time f.kind) = f := g.used.symm
  rw [hu]
  simp only [encF, Fct.head, List.length_append, Prod.mk.injEq, true_and, and_true]
  omega
theorem decF_enc {f : Fct} (h : f.ok = true) : decF (encF f) = (f, 0) := by
  have := decFRun_fwd h []
  rw [List.append_nil] at this
  rw [decF, this, if_neg (by simp), if_neg (by simp), if_pos h]
theorem decF_more {f : Fct} (h : f.ok = true) {r : List UInt8} (hr : r ≠ []) : decF (encF f ++ r) = (Fct.zero, 10) := by
  have h1 : 0 < r.length := List.length_pos_iff.2 hr
  rw [decF, decFRun_fwd h, if_neg (by simp), if_pos (by simp only [List.length_append]; omega)]
theorem fcnt_err {s : List UInt8} {m : Int} {st : RS} (h : ¬ st.2 = 0) : (fcnt s m st).2 = st := by
  rw [fcnt, if_neg (fun h0 => h (by rw [rdI_err h] at h0; exact h0.1)), rdI_err h]
theorem flist_err {α : Type} {f : RS → α × RS} {s : List UInt8} {m : Int} {st : RS} (h : ¬ st.2 = 0) : (flist f s m st).2 = st := by
  rw [flist, rdMany_err (by rw [fcnt_err h]; exact h), fcnt_err h]
theorem rdV_err {s : List UInt8} : ∀ {t : FTy} {st : RS}, ¬ st.2 = 0 → (rdV s t st).2 = st
  | .int, st, h => rdI_err h
  | .str, st, h => rdT_err h
  | .topics, st, h => flist_err h
  | .blocks, st, h => by
    show (rdBlks s st).2 = st
    rw [rdBlks, if_neg (by rw [rdT_err h]; exact h)]
    exact rdT_err h
  | .label, st, h => by
    have e1 : (rdL1 s st).2 = st := rdI_err h
    have e2 : (rdL2 s st).2 = st := by rw [rdL2, e1]; exact flist_err h
    have e3 : (rdL3 s st).2 = st := by rw [rdL3, e2]; exact rdI_err h
    show (rdL4 s st).2 = st
    rw [rdL4, e3]; exact rdI_err h
theorem fold_err {s : List UInt8} : ∀ (l : List Fld) (r : Fct × RS), ¬ r.2.2 = 0 → (l.foldl (rdFld s) r).2 = r.2
  | [], r, _ => rfl
  | x :: l, r, h => by
    have h1 : (rdFld s r x).2 = r.2 := rdV_err h
    rw [List.foldl_cons, fold_err l _ (by rw [h1]; exact h), h1]
theorem fcnt_le {s : List UInt8} {m : Int} {st : RS} (h : st.1 ≤ s.length) : (fcnt s m st).2.1 ≤ s.length := by
  unfold fcnt
  split
  · exact rdI_le h
  · exact rdI_le h
theorem fcnt_ok {s : List UInt8} {m : Int} {st : RS} (h : (fcnt s m st).2.2 = 0) : 0 ≤ (fcnt s m st).1 ∧ (fcnt s m st).1 ≤ m := by
  unfold fcnt at *
  split at h
  · simp at h
  · next hn => rw [if_neg hn]; omega
theorem flist_le {α : Type} {f : RS → α × RS} {s : List UInt8} {m : Nat} (hf : ∀ st, st.1 ≤ s.length → (f st).2.1 ≤ s.length) {st : RS} (h : st.1 ≤ s.length) : (flist f s m st).2.1 ≤ s.length ∧ (flist f s m st).1.length ≤ m := by
  unfold flist
  have := rdMany_le hf (fcnt s m st).1.toNat (fcnt s m st).2 (fcnt_le h)
  refine ⟨this.1, ?_⟩
  by_cases he : (fcnt s m st).2.2 = 0
  · have := fcnt_ok he
    omega
  · rw [rdMany_err he]; simp
theorem rdBlks_le {s : List UInt8} {st : RS} (h : st.1 ≤ s.length) : (rdBlks s st).2.1 ≤ s.length := by
  unfold rdBlks
  split
  · split
    · exact (rdT_le h).1
    · exact (rdT_le h).1
  · exact (rdT_le h).1
theorem rdLab_le {s : List UInt8} {st : RS} (h : st.1 ≤ s.length) : (rdL1 s st).2.1 ≤ s.length ∧ (rdL2 s st).2.1 ≤ s.length ∧ (rdL3 s st).2.1 ≤ s.length ∧ (rdL4 s st).2.1 ≤ s.length := by
  have h1 : (rdL1 s st).2.1 ≤ s.length := rdI_le h
  have h2 : (rdL2 s st).2.1 ≤ s.length := (flist_le (f := rdI s) (m := 64) (fun st => rdI_le) h1).1
  have h3 : (rdL3 s st).2.1 ≤ s.length := rdI_le h2
  exact ⟨h1, h2, h3, rdI_le h3⟩
theorem rdV_le {s : List UInt8} : ∀ {t : FTy} {st : RS}, st.1 ≤ s.length → (rdV s t st).2.1 ≤ s.length
  | .int, st, h => rdI_le h
  | .str, st, h => (rdT_le h).1
  | .topics, st, h => (flist_le (f := rdT s) (m := 4) (fun st h => (rdT_le h).1) h).1
  | .blocks, st, h => rdBlks_le h
  | .label, st, h => (rdLab_le h).2.2.2
theorem rdH_le (s : List UInt8) : (rdH1 s).2.1 ≤ s.length ∧ (rdH2 s).2.1 ≤ s.length ∧ (rdH3 s).2.1 ≤ s.length := by
  have h1 : (rdH1 s).2.1 ≤ s.length := rdI_le (Nat.zero_le _)
  have h2 : (rdH2 s).2.1 ≤ s.length := rdI_le h1
  exact ⟨h1, h2, rdI_le h2⟩
end Go.Eng
namespace Go.Eng
open Go Go.RowKit Go.Proofs
set_option linter.unusedVariables false
set_option maxRecDepth 100000
def consN_c0 (s1 : ByteArray) (i : Int) (w0 : World) (R : Ending → World → Prop) : Prop :=
 AtE Tryz.prog 150 28 [.code (sub (Eng.body Tryz.f150) [1,1,0,1,0,0]), .inLoop (sub (Eng.body Tryz.f150) [1,1,0,1,0,0]), .inBlock 0, .code (sub (Eng.body Tryz.f150) [1,1,1])] [(0, .string s1), (3, .func (.func 152) #[] #[]), (9, .int .i64 i)] [] [] w0 (nrm R)
theorem consN_c0_vc (s1 : ByteArray) (i : Int) {R : Ending → World → Prop} {w0 : World}
  (H :
   ((i < (s1.size : Int)) →
    (0 ≤ i ∧ i < s1.size) ∧
    (((97 : Int) ≤ (bat s1 i)) →
     (((bat s1 i) ≤ (122 : Int)) →
      ∀ i1 : Int, i1 = (IntKind.i64.wrap (i + (1 : Int))) →
      consN_c0 s1 i1 w0 R) ∧
      ((¬ ((bat s1 i) ≤ (122 : Int))) →
      (((48 : Int) ≤ (bat s1 i)) →
       (((bat s1 i) ≤ (57 : Int)) →
        ∀ i2 : Int, i2 = (IntKind.i64.wrap (i + (1 : Int))) →
        consN_c0 s1 i2 w0 R) ∧
        ((¬ ((bat s1 i) ≤ (57 : Int))) →
        ((¬ ((bat s1 i) = (45 : Int))) →
         Fin R [] [] w0 (.bool false)) ∧
         (((bat s1 i) = (45 : Int)) →
         ∀ i3 : Int, i3 = (IntKind.i64.wrap (i + (1 : Int))) →
         consN_c0 s1 i3 w0 R))) ∧
       ((¬ ((48 : Int) ≤ (bat s1 i))) →
       ((¬ ((bat s1 i) = (45 : Int))) →
        Fin R [] [] w0 (.bool false)) ∧
        (((bat s1 i) = (45 : Int)) →
        ∀ i4 : Int, i4 = (IntKind.i64.wrap (i + (1 : Int))) →
        consN_c0 s1 i4 w0 R)))) ∧
     ((¬ ((97 : Int) ≤ (bat s1 i))) →
     (((48 : Int) ≤ (bat s1 i)) →
      (((bat s1 i) ≤ (57 : Int)) →
       ∀ i5 : Int, i5 = (IntKind.i64.wrap (i + (1 : Int))) →
       consN_c0 s1 i5 w0 R) ∧
       ((¬ ((bat s1 i) ≤ (57 : Int))) →
       ((¬ ((bat s1 i) = (45 : Int))) →
        Fin R [] [] w0 (.bool false)) ∧
        (((bat s1 i) = (45 : Int)) →
        ∀ i6 : Int, i6 = (IntKind.i64.wrap (i + (1 : Int))) →
        consN_c0 s1 i6 w0 R))) ∧
      ((¬ ((48 : Int) ≤ (bat s1 i))) →
      ((¬ ((bat s1 i) = (45 : Int))) →
       Fin R [] [] w0 (.bool false)) ∧
       (((bat s1 i) = (45 : Int)) →
       ∀ i7 : Int, i7 = (IntKind.i64.wrap (i + (1 : Int))) →
       consN_c0 s1 i7 w0 R)))) ∧
    ((¬ (i < (s1.size : Int))) →
    Fin R [] [] w0 (.bool true))) :
  consN_c0 s1 i w0 R := by
 unfold consN_c0
 refine AtE.ru 8 ?_
 refine AtE.splitP 19 (p := i < (s1.size : Int)) (by kernel_rfl) (fun h3' => ?_) (fun h3' => ?_)
 ·replace H := H.1 h3'
  refine AtE.ru 9 ?_
  refine AtE.indexS (s := s1) (kd := .i64) (i := i) (by kernel_rfl) H.1 ?_
  replace H := H.2
  refine AtE.norm (k' := [.inRegion (regOps [.code (sub (Eng.body Tryz.f150) [1,1,0,1,0,0,1,0,0,0])]) [4,5], .code (sub (Eng.body Tryz.f150) [1,1,0,1,0,0,1,0,0,1]), .inBlock 1, .code (sub (Eng.body Tryz.f150) [1,1,0,1,0,0,1,1]), .inLoop (sub (Eng.body Tryz.f150) [1,1,0,1,0,0]), .inBlock 0, .code (sub (Eng.body Tryz.f150) [1,1,1])]) (e' := [(0, .string s1), (3, .func (.func 152) #[] #[]), (9, .int .i64 i), (22, .func (.func 152) #[] #[]), (25, .int .u8 (bat s1 i))]) (L' := []) ?_ (by kernel_rfl)
  refine AtE.inl 152 ⟨[.int .u8 (bat s1 i)]⟩ (fun W => by kernel_rfl) (by kernel_rfl) (fun W hm => AtE.calls (nt := 21) Tryz.func152 (by kernel_rfl) hm ?_)
  refine AtE.ru 9 ?_
  refine AtE.splitP 5 (p := (97 : Int) ≤ (bat s1 i)) (by kernel_rfl) (fun h4' => ?_) (fun h4' => ?_)
  ·replace H := H.1 h4'
   refine AtE.ru 4 ?_
   refine AtE.splitP 9 (p := (bat s1 i) ≤ (122 : Int)) (by kernel_rfl) (fun h5' => ?_) (fun h5' => ?_)
   ·replace H := H.1 h5'
    refine AtE.ru 13 ?_
    refine AtE.retK (v := (.bool true)) Tryz.func152 (by kernel_rfl) ?_
    refine AtE.ru 9 ?_
    refine AtE.letI 9 (kd := .i64) (n := (IntKind.i64.wrap (i + (1 : Int)))) (by kernel_rfl) (fun i1 hi1 => ?_)
    replace H := H i1 hi1
    refine AtE.ru 2 ?_
    exact AtE.cut [] H (by kernel_rfl)
   ·replace H := H.2 h5'
    refine AtE.ru 3 ?_
    refine AtE.splitP 12 (p := (48 : Int) ≤ (bat s1 i)) (by kernel_rfl) (fun h6' => ?_) (fun h6' => ?_)
    ·replace H := H.1 h6'
     refine AtE.ru 5 ?_
     refine AtE.splitP 17 (p := (bat s1 i) ≤ (57 : Int)) (by kernel_rfl) (fun h7' => ?_) (fun h7' => ?_)
     ·replace H := H.1 h7'
      refine AtE.ru 5 ?_
      refine AtE.retK (v := (.bool true)) Tryz.func152 (by kernel_rfl) ?_
      refine AtE.ru 9 ?_
      refine AtE.letI 9 (kd := .i64) (n := (IntKind.i64.wrap (i + (1 : Int)))) (by kernel_rfl) (fun i2 hi2 => ?_)
      replace H := H i2 hi2
      refine AtE.ru 2 ?_
      exact AtE.cut [] H (by kernel_rfl)
     ·replace H := H.2 h7'
      refine AtE.ru 5 ?_
      refine AtE.retK (v := (.bool (decide ((bat s1 i) = (45 : Int))))) Tryz.func152 (by kernel_rfl) ?_
      refine AtE.ru 2 ?_
      refine AtE.splitN 27 (p := (bat s1 i) = (45 : Int)) (by kernel_rfl) (fun h8' => ?_) (fun h8' => ?_)
      ·replace H := H.1 h8'
       refine AtE.ru 5 ?_
       exact AtE.ret Tryz.func150 (by kernel_rfl) H
      ·replace H := H.2 h8'
       refine AtE.ru 7 ?_
       refine AtE.letI 9 (kd := .i64) (n := (IntKind.i64.wrap (i + (1 : Int)))) (by kernel_rfl) (fun i3 hi3 => ?_)
       replace H := H i3 hi3
       refine AtE.norm (k' := [.inRegion (regOps [.code (sub (Eng.body Tryz.f150) [1,1,0,1,0,0,1,1])]) [], .inLoop (sub (Eng.body Tryz.f150) [1,1,0,1,0,0]), .inBlock 0, .code (sub (Eng.body Tryz.f150) [1,1,1])]) (e' := [(0, .string s1), (3, .func (.func 152) #[] #[]), (9, .int .i64 i3)]) (L' := []) ?_ (by kernel_rfl)
       refine AtE.ru 2 ?_
       exact AtE.cut [] H (by kernel_rfl)
    ·replace H := H.2 h6'
     refine AtE.ru 10 ?_
     refine AtE.retK (v := (.bool (decide ((bat s1 i) = (45 : Int))))) Tryz.func152 (by kernel_rfl) ?_
     refine AtE.ru 2 ?_
     refine AtE.splitN 27 (p := (bat s1 i) = (45 : Int)) (by kernel_rfl) (fun h9' => ?_) (fun h9' => ?_)
     ·replace H := H.1 h9'
      refine AtE.ru 5 ?_
      exact AtE.ret Tryz.func150 (by kernel_rfl) H
     ·replace H := H.2 h9'
      refine AtE.ru 7 ?_
      refine AtE.letI 9 (kd := .i64) (n := (IntKind.i64.wrap (i + (1 : Int)))) (by kernel_rfl) (fun i4 hi4 => ?_)
      replace H := H i4 hi4
      refine AtE.ru 2 ?_
      exact AtE.cut [] H (by kernel_rfl)
  ·replace H := H.2 h4'
   refine AtE.ru 7 ?_
   refine AtE.splitP 12 (p := (48 : Int) ≤ (bat s1 i)) (by kernel_rfl) (fun h10' => ?_) (fun h10' => ?_)
   ·replace H := H.1 h10'
    refine AtE.ru 5 ?_
    refine AtE.splitP 17 (p := (bat s1 i) ≤ (57 : Int)) (by kernel_rfl) (fun h11' => ?_) (fun h11' => ?_)
    ·replace H := H.1 h11'
     refine AtE.ru 5 ?_
     refine AtE.retK (v := (.bool true)) Tryz.func152 (by kernel_rfl) ?_
     refine AtE.ru 9 ?_
     refine AtE.letI 9 (kd := .i64) (n := (IntKind.i64.wrap (i + (1 : Int)))) (by kernel_rfl) (fun i5 hi5 => ?_)
     replace H := H i5 hi5
     refine AtE.ru 2 ?_
     exact AtE.cut [] H (by kernel_rfl)
    ·replace H := H.2 h11'
     refine AtE.ru 5 ?_
     refine AtE.retK (v := (.bool (decide ((bat s1 i) = (45 : Int))))) Tryz.func152 (by kernel_rfl) ?_
     refine AtE.ru 2 ?_
     refine AtE.splitN 27 (p := (bat s1 i) = (45 : Int)) (by kernel_rfl) (fun h12' => ?_) (fun h12' => ?_)
     ·replace H := H.1 h12'
      refine AtE.ru 5 ?_
      exact AtE.ret Tryz.func150 (by kernel_rfl) H
     ·replace H := H.2 h12'
      refine AtE.ru 7 ?_
      refine AtE.letI 9 (kd := .i64) (n := (IntKind.i64.wrap (i + (1 : Int)))) (by kernel_rfl) (fun i6 hi6 => ?_)
      replace H := H i6 hi6
      refine AtE.ru 2 ?_
      exact AtE.cut [] H (by kernel_rfl)
   ·replace H := H.2 h10'
    refine AtE.ru 10 ?_
    refine AtE.retK (v := (.bool (decide ((bat s1 i) = (45 : Int))))) Tryz.func152 (by kernel_rfl) ?_
    refine AtE.ru 2 ?_
    refine AtE.splitN 27 (p := (bat s1 i) = (45 : Int)) (by kernel_rfl) (fun h13' => ?_) (fun h13' => ?_)
    ·replace H := H.1 h13'
     refine AtE.ru 5 ?_
     exact AtE.ret Tryz.func150 (by kernel_rfl) H
    ·replace H := H.2 h13'
     refine AtE.ru 7 ?_
     refine AtE.letI 9 (kd := .i64) (n := (IntKind.i64.wrap (i + (1 : Int)))) (by kernel_rfl) (fun i7 hi7 => ?_)
     replace H := H i7 hi7
     refine AtE.ru 2 ?_
     exact AtE.cut [] H (by kernel_rfl)
 ·replace H := H.2 h3'
  refine AtE.ru 6 ?_
  exact AtE.ret Tryz.func150 (by kernel_rfl) H
theorem consN_vc (s : ByteArray) (least : Int) (most : Int) {R : Ending → World → Prop} {w0 W : World} (hm : Mem [] [] w0 W)
  (H :
   ((least ≤ (s.size : Int)) →
    ((¬ ((s.size : Int) ≤ most)) →
     Fin R [] [] w0 (.bool false)) ∧
     (((s.size : Int) ≤ most) →
     consN_c0 s (0 : Int) w0 R)) ∧
    ((¬ (least ≤ (s.size : Int))) →
    Fin R [] [] w0 (.bool false))) :
  Calls Tryz.prog 150 ⟨[.string s, .int .i64 least, .int .i64 most, .func (.func 152) #[] #[]]⟩ W R := by
 refine AtE.calls (nt := 28) Tryz.func150 (by kernel_rfl) hm ?_
 refine AtE.ru 11 ?_
 refine AtE.inl 58 ⟨[.int .i64 (s.size : Int), .int .i64 least, .int .i64 most]⟩ (fun W => by kernel_rfl) (by kernel_rfl) (fun W hm => AtE.calls (nt := 15) Tryz.func58 (by kernel_rfl) hm ?_)
 refine AtE.ru 10 ?_
 refine AtE.splitP 10 (p := least ≤ (s.size : Int)) (by kernel_rfl) (fun h1' => ?_) (fun h1' => ?_)
 ·replace H := H.1 h1'
  refine AtE.ru 6 ?_
  refine AtE.retK (v := (.bool (decide ((s.size : Int) ≤ most)))) Tryz.func58 (by kernel_rfl) ?_
  refine AtE.ru 2 ?_
  refine AtE.splitN 15 (p := (s.size : Int) ≤ most) (by kernel_rfl) (fun h2' => ?_) (fun h2' => ?_)
  ·replace H := H.1 h2'
   refine AtE.ru 5 ?_
   exact AtE.ret Tryz.func150 (by kernel_rfl) H
  ·replace H := H.2 h2'
   refine AtE.ru 9 ?_
   exact AtE.cut [] H (by kernel_rfl)
 ·replace H := H.2 h1'
  refine AtE.ru 6 ?_
  refine AtE.retK (v := (.bool false)) Tryz.func58 (by kernel_rfl) ?_
  refine AtE.ru 7 ?_
  exact AtE.ret Tryz.func150 (by kernel_rfl) H
def consT_c0 (s1 : ByteArray) (i : Int) (w0 : World) (R : Ending → World → Prop) : Prop :=
 AtE Tryz.prog 150 28 [.code (sub (Eng.body Tryz.f150) [1,1,0,1,0,0]), .inLoop (sub (Eng.body Tryz.f150) [1,1,0,1,0,0]), .inBlock 0, .code (sub (Eng.body Tryz.f150) [1,1,1])] [(0, .string s1), (3, .func (.func 151) #[] #[]), (9, .int .i64 i)] [] [] w0 (nrm R)
theorem consT_c0_vc (s1 : ByteArray) (i : Int) {R : Ending → World → Prop} {w0 : World}
  (H :
   ((i < (s1.size : Int)) →
    (0 ≤ i ∧ i < s1.size) ∧
    (((32 : Int) ≤ (bat s1 i)) →
     ((¬ ((bat s1 i) ≤ (126 : Int))) →
      Fin R [] [] w0 (.bool false)) ∧
      (((bat s1 i) ≤ (126 : Int)) →
      ∀ i1 : Int, i1 = (IntKind.i64.wrap (i + (1 : Int))) →
      consT_c0 s1 i1 w0 R)) ∧
     ((¬ ((32 : Int) ≤ (bat s1 i))) →
     Fin R [] [] w0 (.bool false))) ∧
    ((¬ (i < (s1.size : Int))) →
    Fin R [] [] w0 (.bool true))) :
  consT_c0 s1 i w0 R := by
 unfold consT_c0
 refine AtE.ru 8 ?_
 refine AtE.splitP 19 (p := i < (s1.size : Int)) (by kernel_rfl) (fun h3' => ?_) (fun h3' => ?_)
 ·replace H := H.1 h3'
  refine AtE.ru 9 ?_
  refine AtE.indexS (s := s1) (kd := .i64) (i := i) (by kernel_rfl) H.1 ?_
  replace H := H.2
  refine AtE.norm (k' := [.inRegion (regOps [.code (sub (Eng.body Tryz.f150) [1,1,0,1,0,0,1,0,0,0])]) [4,5], .code (sub (Eng.body Tryz.f150) [1,1,0,1,0,0,1,0,0,1]), .inBlock 1, .code (sub (Eng.body Tryz.f150) [1,1,0,1,0,0,1,1]), .inLoop (sub (Eng.body Tryz.f150) [1,1,0,1,0,0]), .inBlock 0, .code (sub (Eng.body Tryz.f150) [1,1,1])]) (e' := [(0, .string s1), (3, .func (.func 151) #[] #[]), (9, .int .i64 i), (22, .func (.func 151) #[] #[]), (25, .int .u8 (bat s1 i))]) (L' := []) ?_ (by kernel_rfl)
  refine AtE.inl 151 ⟨[.int .u8 (bat s1 i)]⟩ (fun W => by kernel_rfl) (by kernel_rfl) (fun W hm => AtE.calls (nt := 9) Tryz.func151 (by kernel_rfl) hm ?_)
  refine AtE.ru 9 ?_
  refine AtE.splitP 5 (p := (32 : Int) ≤ (bat s1 i)) (by kernel_rfl) (fun h4' => ?_) (fun h4' => ?_)
  ·replace H := H.1 h4'
   refine AtE.ru 5 ?_
   refine AtE.retK (v := (.bool (decide ((bat s1 i) ≤ (126 : Int))))) Tryz.func151 (by kernel_rfl) ?_
   refine AtE.ru 2 ?_
   refine AtE.splitN 27 (p := (bat s1 i) ≤ (126 : Int)) (by kernel_rfl) (fun h5' => ?_) (fun h5' => ?_)
   ·replace H := H.1 h5'
    refine AtE.ru 5 ?_
    exact AtE.ret Tryz.func150 (by kernel_rfl) H
   ·replace H := H.2 h5'
    refine AtE.ru 7 ?_
    refine AtE.letI 9 (kd := .i64) (n := (IntKind.i64.wrap (i + (1 : Int)))) (by kernel_rfl) (fun i1 hi1 => ?_)
    replace H := H i1 hi1
    refine AtE.ru 2 ?_
    exact AtE.cut [] H (by kernel_rfl)
  ·replace H := H.2 h4'
   refine AtE.ru 5 ?_
   refine AtE.retK (v := (.bool false)) Tryz.func151 (by kernel_rfl) ?_
   refine AtE.ru 7 ?_
   exact AtE.ret Tryz.func150 (by kernel_rfl) H
 ·replace H := H.2 h3'
  refine AtE.ru 6 ?_
  exact AtE.ret Tryz.func150 (by kernel_rfl) H
theorem consT_vc (s : ByteArray) (least : Int) (most : Int) {R : Ending → World → Prop} {w0 W : World} (hm : Mem [] [] w0 W)
  (H :
   ((least ≤ (s.size : Int)) →
    ((¬ ((s.size : Int) ≤ most)) →
     Fin R [] [] w0 (.bool false)) ∧
     (((s.size : Int) ≤ most) →
     consT_c0 s (0 : Int) w0 R)) ∧
    ((¬ (least ≤ (s.size : Int))) →
    Fin R [] [] w0 (.bool false))) :
  Calls Tryz.prog 150 ⟨[.string s, .int .i64 least, .int .i64 most, .func (.func 151) #[] #[]]⟩ W R := by
 refine AtE.calls (nt := 28) Tryz.func150 (by kernel_rfl) hm ?_
 refine AtE.ru 11 ?_
 refine AtE.inl 58 ⟨[.int .i64 (s.size : Int), .int .i64 least, .int .i64 most]⟩ (fun W => by kernel_rfl) (by kernel_rfl) (fun W hm => AtE.calls (nt := 15) Tryz.func58 (by kernel_rfl) hm ?_)
 refine AtE.ru 10 ?_
 refine AtE.splitP 10 (p := least ≤ (s.size : Int)) (by kernel_rfl) (fun h1' => ?_) (fun h1' => ?_)
 ·replace H := H.1 h1'
  refine AtE.ru 6 ?_
  refine AtE.retK (v := (.bool (decide ((s.size : Int) ≤ most)))) Tryz.func58 (by kernel_rfl) ?_
  refine AtE.ru 2 ?_
  refine AtE.splitN 15 (p := (s.size : Int) ≤ most) (by kernel_rfl) (fun h2' => ?_) (fun h2' => ?_)
  ·replace H := H.1 h2'
   refine AtE.ru 5 ?_
   exact AtE.ret Tryz.func150 (by kernel_rfl) H
  ·replace H := H.2 h2'
   refine AtE.ru 9 ?_
   exact AtE.cut [] H (by kernel_rfl)
 ·replace H := H.2 h1'
  refine AtE.ru 6 ?_
  refine AtE.retK (v := (.bool false)) Tryz.func58 (by kernel_rfl) ?_
  refine AtE.ru 7 ?_
  exact AtE.ret Tryz.func150 (by kernel_rfl) H
def consS_c0 (s1 : ByteArray) (i : Int) (w0 : World) (R : Ending → World → Prop) : Prop :=
 AtE Tryz.prog 150 28 [.code (sub (Eng.body Tryz.f150) [1,1,0,1,0,0]), .inLoop (sub (Eng.body Tryz.f150) [1,1,0,1,0,0]), .inBlock 0, .code (sub (Eng.body Tryz.f150) [1,1,1])] [(0, .string s1), (3, .func (.func 153) #[] #[]), (9, .int .i64 i)] [] [] w0 (nrm R)
theorem consS_c0_vc (s1 : ByteArray) (i : Int) {R : Ending → World → Prop} {w0 : World}
  (H :
   ((i < (s1.size : Int)) →
    (0 ≤ i ∧ i < s1.size) ∧
    (((bat s1 i) = (10 : Int)) →
     ∀ i1 : Int, i1 = (IntKind.i64.wrap (i + (1 : Int))) →
     consS_c0 s1 i1 w0 R) ∧
     ((¬ ((bat s1 i) = (10 : Int))) →
     (((32 : Int) ≤ (bat s1 i)) →
      ((¬ ((bat s1 i) ≤ (126 : Int))) →
       Fin R [] [] w0 (.bool false)) ∧
       (((bat s1 i) ≤ (126 : Int)) →
       ∀ i2 : Int, i2 = (IntKind.i64.wrap (i + (1 : Int))) →
       consS_c0 s1 i2 w0 R)) ∧
      ((¬ ((32 : Int) ≤ (bat s1 i))) →
      Fin R [] [] w0 (.bool false)))) ∧
    ((¬ (i < (s1.size : Int))) →
    Fin R [] [] w0 (.bool true))) :
  consS_c0 s1 i w0 R := by
 unfold consS_c0
 refine AtE.ru 8 ?_
 refine AtE.splitP 19 (p := i < (s1.size : Int)) (by kernel_rfl) (fun h3' => ?_) (fun h3' => ?_)
 ·replace H := H.1 h3'
  refine AtE.ru 9 ?_
  refine AtE.indexS (s := s1) (kd := .i64) (i := i) (by kernel_rfl) H.1 ?_
  replace H := H.2
  refine AtE.norm (k' := [.inRegion (regOps [.code (sub (Eng.body Tryz.f150) [1,1,0,1,0,0,1,0,0,0])]) [4,5], .code (sub (Eng.body Tryz.f150) [1,1,0,1,0,0,1,0,0,1]), .inBlock 1, .code (sub (Eng.body Tryz.f150) [1,1,0,1,0,0,1,1]), .inLoop (sub (Eng.body Tryz.f150) [1,1,0,1,0,0]), .inBlock 0, .code (sub (Eng.body Tryz.f150) [1,1,1])]) (e' := [(0, .string s1), (3, .func (.func 153) #[] #[]), (9, .int .i64 i), (22, .func (.func 153) #[] #[]), (25, .int .u8 (bat s1 i))]) (L' := []) ?_ (by kernel_rfl)
  refine AtE.inl 153 ⟨[.int .u8 (bat s1 i)]⟩ (fun W => by kernel_rfl) (by kernel_rfl) (fun W hm => AtE.calls (nt := 9) Tryz.func153 (by kernel_rfl) hm ?_)
  refine AtE.ru 9 ?_
  refine AtE.splitP 5 (p := (bat s1 i) = (10 : Int)) (by kernel_rfl) (fun h4' => ?_) (fun h4' => ?_)
  ·replace H := H.1 h4'
   refine AtE.ru 5 ?_
   refine AtE.retK (v := (.bool true)) Tryz.func153 (by kernel_rfl) ?_
   refine AtE.ru 9 ?_
   refine AtE.letI 9 (kd := .i64) (n := (IntKind.i64.wrap (i + (1 : Int)))) (by kernel_rfl) (fun i1 hi1 => ?_)
   replace H := H i1 hi1
   refine AtE.ru 2 ?_
   exact AtE.cut [] H (by kernel_rfl)
  ·replace H := H.2 h4'
   refine AtE.ru 1 ?_
   refine AtE.norm (k' := [.inRegion (regOps [.code (sub (Eng.body Tryz.f153) [1,0])]) [4,5,6], .code (sub (Eng.body Tryz.f153) [1,1])]) (e' := [(5, .bool false), (6, .int .u8 (bat s1 i))]) (L' := []) ?_ (by kernel_rfl)
   refine AtE.inl 151 ⟨[.int .u8 (bat s1 i)]⟩ (fun W => by kernel_rfl) (by kernel_rfl) (fun W hm => AtE.calls (nt := 9) Tryz.func151 (by kernel_rfl) hm ?_)
   refine AtE.ru 9 ?_
   refine AtE.splitP 5 (p := (32 : Int) ≤ (bat s1 i)) (by kernel_rfl) (fun h5' => ?_) (fun h5' => ?_)
   ·replace H := H.1 h5'
    refine AtE.ru 5 ?_
    refine AtE.retK (v := (.bool (decide ((bat s1 i) ≤ (126 : Int))))) Tryz.func151 (by kernel_rfl) ?_
    refine AtE.ru 3 ?_
    refine AtE.retK (v := (.bool (decide ((bat s1 i) ≤ (126 : Int))))) Tryz.func153 (by kernel_rfl) ?_
    refine AtE.ru 2 ?_
    refine AtE.splitN 27 (p := (bat s1 i) ≤ (126 : Int)) (by kernel_rfl) (fun h6' => ?_) (fun h6' => ?_)
    ·replace H := H.1 h6'
     refine AtE.ru 5 ?_
     exact AtE.ret Tryz.func150 (by kernel_rfl) H
    ·replace H := H.2 h6'
     refine AtE.ru 7 ?_
     refine AtE.letI 9 (kd := .i64) (n := (IntKind.i64.wrap (i + (1 : Int)))) (by kernel_rfl) (fun i2 hi2 => ?_)
     replace H := H i2 hi2
     refine AtE.ru 2 ?_
     exact AtE.cut [] H (by kernel_rfl)
   ·replace H := H.2 h5'
    refine AtE.ru 5 ?_
    refine AtE.retK (v := (.bool false)) Tryz.func151 (by kernel_rfl) ?_
    refine AtE.ru 3 ?_
    refine AtE.retK (v := (.bool false)) Tryz.func153 (by kernel_rfl) ?_
    refine AtE.ru 7 ?_
    exact AtE.ret Tryz.func150 (by kernel_rfl) H
 ·replace H := H.2 h3'
  refine AtE.ru 6 ?_
  exact AtE.ret Tryz.func150 (by kernel_rfl) H
theorem consS_vc (s : ByteArray) (least : Int) (most : Int) {R : Ending → World → Prop} {w0 W : World} (hm : Mem [] [] w0 W)
  (H :
   ((least ≤ (s.size : Int)) →
    ((¬ ((s.size : Int) ≤ most)) →
     Fin R [] [] w0 (.bool false)) ∧
     (((s.size : Int) ≤ most) →
     consS_c0 s (0 : Int) w0 R)) ∧
    ((¬ (least ≤ (s.size : Int))) →
    Fin R [] [] w0 (.bool false))) :
  Calls Tryz.prog 150 ⟨[.string s, .int .i64 least, .int .i64 most, .func (.func 153) #[] #[]]⟩ W R := by
 refine AtE.calls (nt := 28) Tryz.func150 (by kernel_rfl) hm ?_
 refine AtE.ru 11 ?_
 refine AtE.inl 58 ⟨[.int .i64 (s.size : Int), .int .i64 least, .int .i64 most]⟩ (fun W => by kernel_rfl) (by kernel_rfl) (fun W hm => AtE.calls (nt := 15) Tryz.func58 (by kernel_rfl) hm ?_)
 refine AtE.ru 10 ?_
 refine AtE.splitP 10 (p := least ≤ (s.size : Int)) (by kernel_rfl) (fun h1' => ?_) (fun h1' => ?_)
 ·replace H := H.1 h1'
  refine AtE.ru 6 ?_
  refine AtE.retK (v := (.bool (decide ((s.size : Int) ≤ most)))) Tryz.func58 (by kernel_rfl) ?_
  refine AtE.ru 2 ?_
  refine AtE.splitN 15 (p := (s.size : Int) ≤ most) (by kernel_rfl) (fun h2' => ?_) (fun h2' => ?_)
  ·replace H := H.1 h2'
   refine AtE.ru 5 ?_
   exact AtE.ret Tryz.func150 (by kernel_rfl) H
  ·replace H := H.2 h2'
   refine AtE.ru 9 ?_
   exact AtE.cut [] H (by kernel_rfl)
 ·replace H := H.2 h1'
  refine AtE.ru 6 ?_
  refine AtE.retK (v := (.bool false)) Tryz.func58 (by kernel_rfl) ?_
  refine AtE.ru 7 ?_
  exact AtE.ret Tryz.func150 (by kernel_rfl) H
theorem fName_vc (s : ByteArray) {R : Ending → World → Prop} {w0 W : World} (hm : Mem [] [] w0 W)
  (H :
   CallH Tryz.prog 150 ⟨[.string s, .int .i64 (1 : Int), .int .i64 (20 : Int), .func (.func 152) #[] #[]]⟩ [] [] w0 (fun v L' => ∃ (r1 : Bool), v = (.bool r1) ∧ L' = [] ∧
    Fin R [] [] w0 (.bool r1))) :
  Calls Tryz.prog 105 ⟨[.string s]⟩ W R := by
 refine AtE.calls (nt := 5) Tryz.func105 (by kernel_rfl) hm ?_
 refine AtE.ru 7 ?_
 refine AtE.call 150 ⟨[.string s, .int .i64 (1 : Int), .int .i64 (20 : Int), .func (.func 152) #[] #[]]⟩ (fun W => by kernel_rfl) (by kernel_rfl) H ?_
 clear H
 rintro _ _ ⟨r1, rfl, rfl, H⟩
 refine AtE.ru 2 ?_
 exact AtE.ret Tryz.func105 (by kernel_rfl) H
theorem fText_vc (s : ByteArray) {R : Ending → World → Prop} {w0 W : World} (hm : Mem [] [] w0 W)
  (H :
   CallH Tryz.prog 150 ⟨[.string s, .int .i64 (1 : Int), .int .i64 (300 : Int), .func (.func 151) #[] #[]]⟩ [] [] w0 (fun v L' => ∃ (r1 : Bool), v = (.bool r1) ∧ L' = [] ∧
    Fin R [] [] w0 (.bool r1))) :
  Calls Tryz.prog 104 ⟨[.string s]⟩ W R := by
 refine AtE.calls (nt := 5) Tryz.func104 (by kernel_rfl) hm ?_
 refine AtE.ru 7 ?_
 refine AtE.call 150 ⟨[.string s, .int .i64 (1 : Int), .int .i64 (300 : Int), .func (.func 151) #[] #[]]⟩ (fun W => by kernel_rfl) (by kernel_rfl) H ?_
 clear H
 rintro _ _ ⟨r1, rfl, rfl, H⟩
 refine AtE.ru 2 ?_
 exact AtE.ret Tryz.func104 (by kernel_rfl) H
theorem fSource_vc (s : ByteArray) {R : Ending → World → Prop} {w0 W : World} (hm : Mem [] [] w0 W)
  (H :
   CallH Tryz.prog 150 ⟨[.string s, .int .i64 (0 : Int), .int .i64 (1000 : Int), .func (.func 153) #[] #[]]⟩ [] [] w0 (fun v L' => ∃ (r1 : Bool), v = (.bool r1) ∧ L' = [] ∧
    Fin R [] [] w0 (.bool r1))) :
  Calls Tryz.prog 106 ⟨[.string s]⟩ W R := by
 refine AtE.calls (nt := 5) Tryz.func106 (by kernel_rfl) hm ?_
 refine AtE.ru 7 ?_
 refine AtE.call 150 ⟨[.string s, .int .i64 (0 : Int), .int .i64 (1000 : Int), .func (.func 153) #[] #[]]⟩ (fun W => by kernel_rfl) (by kernel_rfl) H ?_
 clear H
 rintro _ _ ⟨r1, rfl, rfl, H⟩
 refine AtE.ru 2 ?_
 exact AtE.ret Tryz.func106 (by kernel_rfl) H
def areTopics_c0 (l_p : Option Addr) (l_l : Nat) (l_c : Nat) (t10 : Int) (w0 : World) (R : Ending → World → Prop) : Prop :=
 AtE Tryz.prog 147 32 [.code (sub (Eng.body Tryz.f147) [1,1,0,1,0,0]), .inLoop (sub (Eng.body Tryz.f147) [1,1,0,1,0,0]), .inBlock 0, .code (sub (Eng.body Tryz.f147) [1,1,1])] [(0, .slice l_p l_l l_c), (8, .slice l_p l_l l_c), (9, .int .i64 (l_l : Int)), (10, .int .i64 t10)] [] [] w0 (nrm R)
theorem areTopics_c0_vc (l_p : Option Addr) (l_l : Nat) (l_c : Nat) (t10 : Int) {R : Ending → World → Prop} {w0 : World}
  (H :
   ((t10 < (l_l : Int)) →
    ∃ l_pb l_po : Nat, l_p = some ⟨l_pb, l_po, none⟩ ∧ (0 ≤ t10 ∧ t10 < l_l) ∧
    ∃ (cw : List Value) (m1 : ByteArray), blkW w0 l_pb = some cw ∧ cw[(l_po + (Int.toNat t10))]? = some (.string m1) ∧
    CallH Tryz.prog 105 ⟨[.string m1]⟩ [] [] w0 (fun v L' => ∃ (r1 : Bool), v = (.bool r1) ∧ L' = [] ∧
     ((r1 = true) →
      (((0 : Int) < t10) →
       ∃ l_pb1 l_po1 : Nat, l_p = some ⟨l_pb1, l_po1, none⟩ ∧ (0 ≤ (IntKind.i64.wrap (t10 - (1 : Int))) ∧ (IntKind.i64.wrap (t10 - (1 : Int))) < l_l) ∧
       ∃ (cw1 : List Value) (m21 : ByteArray), blkW w0 l_pb1 = some cw1 ∧ cw1[(l_po1 + (Int.toNat (IntKind.i64.wrap (t10 - (1 : Int)))))]? = some (.string m21) ∧
       ((((Op.bytesLess m1.toList m21.toList) || (m1.toList == m21.toList)) = true) →
        Fin R [] [] w0 (.bool false)) ∧
        ((((Op.bytesLess m1.toList m21.toList) || (m1.toList == m21.toList)) = false) →
        areTopics_c0 l_p l_l l_c (IntKind.i64.wrap (t10 + (1 : Int))) w0 R)) ∧
       ((¬ ((0 : Int) < t10)) →
       areTopics_c0 l_p l_l l_c (IntKind.i64.wrap (t10 + (1 : Int))) w0 R)) ∧
      ((r1 = false) →
      Fin R [] [] w0 (.bool false)))) ∧
    ((¬ (t10 < (l_l : Int))) →
    Fin R [] [] w0 (.bool true))) :
  areTopics_c0 l_p l_l l_c t10 w0 R := by
 unfold areTopics_c0
 refine AtE.ru 5 ?_
 refine AtE.splitP 11 (p := t10 < (l_l : Int)) (by kernel_rfl) (fun h2' => ?_) (fun h2' => ?_)
 ·replace H := H.1 h2'
  refine AtE.ru 7 ?_
  obtain ⟨l_pb, l_po, hp, H⟩ := H
  refine AtE.indexAddrP (E := 9) (p := l_p) (b := l_pb) (o := l_po) (len := l_l) (cap := l_c) (sz := 1) (o' := (l_po + (Int.toNat t10))) (kd := .i64) (i := t10) hp (by kernel_rfl) H.1 (by omega) ?_
  replace H := H.2
  obtain ⟨cw, m1, hw, hx, H⟩ := H
  refine AtE.loadW (b := l_pb) (off := (l_po + (Int.toNat t10))) (T := 9) (v := .string m1) (by kernel_rfl) List.not_mem_nil hw (valAt_one hx (by kernel_rfl)) ?_
  refine AtE.ru 6 ?_
  refine AtE.call 105 ⟨[.string m1]⟩ (fun W => by kernel_rfl) (by kernel_rfl) H ?_
  clear H
  rintro _ _ ⟨r1, rfl, rfl, H⟩
  refine AtE.split 16 (b := r1) (by kernel_rfl) (fun h3' => ?_) (fun h3' => ?_)
  ·replace H := H.1 h3'
   refine AtE.ru 5 ?_
   refine AtE.splitP 21 (p := (0 : Int) < t10) (by kernel_rfl) (fun h4' => ?_) (fun h4' => ?_)
   ·replace H := H.1 h4'
    refine AtE.ru 4 ?_
    obtain ⟨l_pb1, l_po1, hp, H⟩ := H
    refine AtE.indexAddrP (E := 9) (p := l_p) (b := l_pb1) (o := l_po1) (len := l_l) (cap := l_c) (sz := 1) (o' := (l_po1 + (Int.toNat (IntKind.i64.wrap (t10 - (1 : Int)))))) (kd := .i64) (i := (IntKind.i64.wrap (t10 - (1 : Int)))) hp (by kernel_rfl) H.1 (by omega) ?_
    replace H := H.2
    refine AtE.norm (k' := [.inRegion (regOps [.code (sub (Eng.body Tryz.f147) [1,1,0,1,0,0,1,1,0,0,1,0])]) [12,13,14,15], .code (sub (Eng.body Tryz.f147) [1,1,0,1,0,0,1,1,0,0,1,1]), .inBlock 1, .code (sub (Eng.body Tryz.f147) [1,1,0,1,0,0,1,1,1]), .inLoop (sub (Eng.body Tryz.f147) [1,1,0,1,0,0]), .inBlock 0, .code (sub (Eng.body Tryz.f147) [1,1,1])]) (e' := [(0, .slice l_p l_l l_c), (8, .slice l_p l_l l_c), (9, .int .i64 (l_l : Int)), (10, .int .i64 t10), (18, .bool false), (21, .bool true), (22, .string m1), (26, .pointer (some ⟨l_pb1, (l_po1 + (Int.toNat (IntKind.i64.wrap (t10 - (1 : Int))))), none⟩))]) (L' := []) ?_ (by kernel_rfl)
    obtain ⟨cw1, m21, hw, hx, H⟩ := H
    refine AtE.loadW (b := l_pb1) (off := (l_po1 + (Int.toNat (IntKind.i64.wrap (t10 - (1 : Int)))))) (T := 9) (v := .string m21) (by kernel_rfl) List.not_mem_nil hw (valAt_one hx (by kernel_rfl)) ?_
    refine AtE.ru 4 ?_
    refine AtE.split 30 (b := ((Op.bytesLess m1.toList m21.toList) || (m1.toList == m21.toList))) (by kernel_rfl) (fun h5' => ?_) (fun h5' => ?_)
    ·replace H := H.1 h5'
     refine AtE.ru 5 ?_
     exact AtE.ret Tryz.func147 (by kernel_rfl) H
    ·replace H := H.2 h5'
     refine AtE.ru 8 ?_
     exact AtE.cut [] H (by kernel_rfl)
   ·replace H := H.2 h4'
    refine AtE.ru 18 ?_
    exact AtE.cut [] H (by kernel_rfl)
  ·replace H := H.2 h3'
   refine AtE.ru 20 ?_
   exact AtE.ret Tryz.func147 (by kernel_rfl) H
 ·replace H := H.2 h2'
  refine AtE.ru 6 ?_
  exact AtE.ret Tryz.func147 (by kernel_rfl) H
theorem areTopics_vc (l_p : Option Addr) (l_l : Nat) (l_c : Nat) {R : Ending → World → Prop} {w0 W : World} (hm : Mem [] [] w0 W)
  (H :
   (((4 : Int) < (l_l : Int)) →
    Fin R [] [] w0 (.bool false)) ∧
    ((¬ ((4 : Int) < (l_l : Int))) →
    areTopics_c0 l_p l_l l_c (0 : Int) w0 R)) :
  Calls Tryz.prog 147 ⟨[.slice l_p l_l l_c]⟩ W R := by
 refine AtE.calls (nt := 32) Tryz.func147 (by kernel_rfl) hm ?_
 refine AtE.ru 11 ?_
 refine AtE.splitP 7 (p := (4 : Int) < (l_l : Int)) (by kernel_rfl) (fun h1' => ?_) (fun h1' => ?_)
 ·replace H := H.1 h1'
  refine AtE.ru 5 ?_
  exact AtE.ret Tryz.func147 (by kernel_rfl) H
 ·replace H := H.2 h1'
  refine AtE.ru 11 ?_
  exact AtE.cut [] H (by kernel_rfl)
def eqStrs_c0 (s1_p : Option Addr) (s1_l : Nat) (s1_c : Nat) (s2_p : Option Addr) (s2_l : Nat) (s2_c : Nat) (t13 : Int) (w0 : World) (R : Ending → World → Prop) : Prop :=
 AtE Tryz.prog 61 26 [.code (sub (Eng.body Tryz.f61) [1,1,0,1,0,0]), .inLoop (sub (Eng.body Tryz.f61) [1,1,0,1,0,0]), .inBlock 0, .code (sub (Eng.body Tryz.f61) [1,1,1])] [(0, .slice s1_p s1_l s1_c), (1, .slice s2_p s2_l s2_c), (12, .int .i64 (s1_l : Int)), (13, .int .i64 t13)] [] [] w0 (nrm R)
theorem eqStrs_c0_vc (s1_p : Option Addr) (s1_l : Nat) (s1_c : Nat) (s2_p : Option Addr) (s2_l : Nat) (s2_c : Nat) (t13 : Int) {R : Ending → World → Prop} {w0 : World}
  (H :
   ((t13 < (s1_l : Int)) →
    ∃ s1_pb s1_po : Nat, s1_p = some ⟨s1_pb, s1_po, none⟩ ∧ (0 ≤ t13 ∧ t13 < s1_l) ∧
    ∃ (cw : List Value) (m1 : ByteArray), blkW w0 s1_pb = some cw ∧ cw[(s1_po + (Int.toNat t13))]? = some (.string m1) ∧
    ∃ s2_pb s2_po : Nat, s2_p = some ⟨s2_pb, s2_po, none⟩ ∧ (0 ≤ t13 ∧ t13 < s2_l) ∧
    ∃ (cw1 : List Value) (m21 : ByteArray), blkW w0 s2_pb = some cw1 ∧ cw1[(s2_po + (Int.toNat t13))]? = some (.string m21) ∧
    ((¬ m1 = m21) →
     Fin R [] [] w0 (.bool false)) ∧
     ((m1 = m21) →
     eqStrs_c0 s1_p s1_l s1_c s2_p s2_l s2_c (IntKind.i64.wrap (t13 + (1 : Int))) w0 R)) ∧
    ((¬ (t13 < (s1_l : Int))) →
    Fin R [] [] w0 (.bool true))) :
  eqStrs_c0 s1_p s1_l s1_c s2_p s2_l s2_c t13 w0 R := by
 unfold eqStrs_c0
 refine AtE.ru 5 ?_
 refine AtE.splitP 14 (p := t13 < (s1_l : Int)) (by kernel_rfl) (fun h2' => ?_) (fun h2' => ?_)
 ·replace H := H.1 h2'
  refine AtE.ru 10 ?_
  refine AtE.norm (k' := [.code (sub (Eng.body Tryz.f61) [1,1,0,1,0,0,1,1,0,0,1,0]), .code (sub (Eng.body Tryz.f61) [1,1,0,1,0,0,1,1,0,0,1,1]), .inBlock 1, .code (sub (Eng.body Tryz.f61) [1,1,0,1,0,0,1,1,1]), .inLoop (sub (Eng.body Tryz.f61) [1,1,0,1,0,0]), .inBlock 0, .code (sub (Eng.body Tryz.f61) [1,1,1])]) (e' := [(0, .slice s1_p s1_l s1_c), (1, .slice s2_p s2_l s2_c), (5, .int .i64 t13), (12, .int .i64 (s1_l : Int)), (13, .int .i64 t13)]) (L' := []) ?_ (by kernel_rfl)
  refine AtE.draw 9 (by kernel_rfl) ?_
  refine AtQ.pu ?_
  refine AtQ.pu ?_
  obtain ⟨s1_pb, s1_po, hp, H⟩ := H
  refine AtQ.indexAddrP (E := 9) (p := s1_p) (b := s1_pb) (o := s1_po) (len := s1_l) (cap := s1_c) (sz := 1) (o' := (s1_po + (Int.toNat t13))) (kd := .i64) (i := t13) hp (by kernel_rfl) H.1 (by omega) ?_
  replace H := H.2
  obtain ⟨cw, m1, hw, hx, H⟩ := H
  refine AtQ.loadW (b := s1_pb) (off := (s1_po + (Int.toNat t13))) (T := 9) (v := .string m1) (by kernel_rfl) List.not_mem_nil hw (valAt_one hx (by kernel_rfl)) ?_
  refine AtQ.pu ?_
  refine AtQ.pu ?_
  obtain ⟨s2_pb, s2_po, hp, H⟩ := H
  refine AtQ.indexAddrP (E := 9) (p := s2_p) (b := s2_pb) (o := s2_po) (len := s2_l) (cap := s2_c) (sz := 1) (o' := (s2_po + (Int.toNat t13))) (kd := .i64) (i := t13) hp (by kernel_rfl) H.1 (by omega) ?_
  replace H := H.2
  obtain ⟨cw1, m21, hw, hx, H⟩ := H
  refine AtQ.loadW (b := s2_pb) (off := (s2_po + (Int.toNat t13))) (T := 9) (v := .string m21) (by kernel_rfl) List.not_mem_nil hw (valAt_one hx (by kernel_rfl)) ?_
  refine AtQ.pu ?_
  refine AtQ.done (by kernel_rfl) ?_
  refine AtE.ru 1 ?_
  refine AtE.splitT 24 (x := m1) (y := m21) (by kernel_rfl) (fun h3' => ?_) (fun h3' => ?_)
  ·replace H := H.1 h3'
   refine AtE.ru 5 ?_
   exact AtE.ret Tryz.func61 (by kernel_rfl) H
  ·replace H := H.2 h3'
   refine AtE.ru 8 ?_
   exact AtE.cut [] H (by kernel_rfl)
 ·replace H := H.2 h2'
  refine AtE.ru 6 ?_
  exact AtE.ret Tryz.func61 (by kernel_rfl) H
theorem eqStrs_vc (s1_p : Option Addr) (s1_l : Nat) (s1_c : Nat) (s2_p : Option Addr) (s2_l : Nat) (s2_c : Nat) {R : Ending → World → Prop} {w0 W : World} (hm : Mem [] [] w0 W)
  (H :
   ((¬ ((s1_l : Int) = (s2_l : Int))) →
    Fin R [] [] w0 (.bool false)) ∧
    (((s1_l : Int) = (s2_l : Int)) →
    eqStrs_c0 s1_p s1_l s1_c s2_p s2_l s2_c (0 : Int) w0 R)) :
  Calls Tryz.prog 61 ⟨[.slice s1_p s1_l s1_c, .slice s2_p s2_l s2_c]⟩ W R := by
 refine AtE.calls (nt := 26) Tryz.func61 (by kernel_rfl) hm ?_
 refine AtE.ru 13 ?_
 refine AtE.splitN 10 (p := (s1_l : Int) = (s2_l : Int)) (by kernel_rfl) (fun h1' => ?_) (fun h1' => ?_)
 ·replace H := H.1 h1'
  refine AtE.ru 5 ?_
  exact AtE.ret Tryz.func61 (by kernel_rfl) H
 ·replace H := H.2 h1'
  refine AtE.ru 11 ?_
  exact AtE.cut [] H (by kernel_rfl)
end Go.Eng
namespace Go.Eng
open Go Go.RowKit Go.Proofs
set_option linter.unusedVariables false
set_option maxRecDepth 100000
abbrev isRevH0 (B : Nat) (f : Fct) (ftp : Option Addr) (ftc : Nat) (fbp : Option Addr) (fbc : Nat) (fap : Option Addr) (fac : Nat) : SHeap := [(B, .cells #[.int .i64 f.n, .int .i64 f.time, .int .i64 f.kind, .int .i64 f.story, .string f.lang, .int .i64 f.rev, .int .i64 f.base, .string f.title, .string f.author, .slice ftp f.topics.length ftc, .slice fbp f.blocks.length fbc, .int .i64 f.lab.unt, .slice fap f.lab.after.length fac, .int .i64 f.lab.appr, .int .i64 f.lab.den, .int .i64 f.editor, .int .i64 f.block, .int .i64 f.sentence, .string f.text, .string f.name, .int .i64 f.partner, .int .i64 f.cls, .int .i64 f.unt] 28)]
abbrev isRevA0 (f : Fct) (ftp : Option Addr) (ftc : Nat) (fbp : Option Addr) (fbc : Nat) (fap : Option Addr) (fac : Nat) : Array Value := #[.int .i64 f.n, .int .i64 f.time, .int .i64 f.kind, .int .i64 f.story, .string f.lang, .int .i64 f.rev, .int .i64 f.base, .string f.title, .string f.author, .slice ftp f.topics.length ftc, .slice fbp f.blocks.length fbc, .int .i64 f.lab.unt, .slice fap f.lab.after.length fac, .int .i64 f.lab.appr, .int .i64 f.lab.den, .int .i64 f.editor, .int .i64 f.block, .int .i64 f.sentence, .string f.text, .string f.name, .int .i64 f.partner, .int .i64 f.cls, .int .i64 f.unt]
theorem isRev_vc (f : Fct) (ftp : Option Addr) (ftc : Nat) (fbp : Option Addr) (fbc : Nat) (fap : Option Addr) (fac : Nat) {R : Ending → World → Prop} {w0 W : World} (hm : Mem [] [] w0 W)
  (H :
   ∀ B : Nat,
   CallH Tryz.prog 105 ⟨[.string f.lang]⟩ (isRevH0 B f ftp ftc fbp fbc fap fac) [] w0 (fun v L' => ∃ (r1 : Bool), v = (.bool r1) ∧ L' = (isRevH0 B f ftp ftc fbp fbc fap fac) ∧
    ((r1 = true) →
     (((1 : Int) ≤ f.rev) →
      ((f.rev ≤ (100 : Int)) →
       (((0 : Int) ≤ f.base) →
        ((f.base ≤ (IntKind.i64.wrap (f.rev - (1 : Int)))) →
         CallH Tryz.prog 104 ⟨[.string f.title]⟩ (isRevH0 B f ftp ftc fbp fbc fap fac) [] w0 (fun v L' => ∃ (r41 : Bool), v = (.bool r41) ∧ L' = (isRevH0 B f ftp ftc fbp fbc fap fac) ∧
          ((r41 = true) →
           CallH Tryz.prog 105 ⟨[.string f.author]⟩ (isRevH0 B f ftp ftc fbp fbc fap fac) [] w0 (fun v L' => ∃ (r51 : Bool), v = (.bool r51) ∧ L' = (isRevH0 B f ftp ftc fbp fbc fap fac) ∧
            ((r51 = true) →
             CallH Tryz.prog 147 ⟨[.slice ftp f.topics.length ftc]⟩ (isRevH0 B f ftp ftc fbp fbc fap fac) [] w0 (fun v L' => ∃ (r61 : Bool), v = (.bool r61) ∧ L' = (isRevH0 B f ftp ftc fbp fbc fap fac) ∧
              ((r61 = true) →
               CallH Tryz.prog 148 ⟨[.slice fbp f.blocks.length fbc]⟩ (isRevH0 B f ftp ftc fbp fbc fap fac) [] w0 (fun v L' => ∃ (r71 : Bool), v = (.bool r71) ∧ L' = (isRevH0 B f ftp ftc fbp fbc fap fac) ∧
                ((r71 = true) →
                 CallH Tryz.prog 102 ⟨[.agg #[.int .i64 f.lab.unt, .slice fap f.lab.after.length fac, .int .i64 f.lab.appr, .int .i64 f.lab.den]]⟩ (isRevH0 B f ftp ftc fbp fbc fap fac) [] w0 (fun v L' => ∃ (r81 : Bool), v = (.bool r81) ∧ L' = (isRevH0 B f ftp ftc fbp fbc fap fac) ∧
                  Fin R (isRevH0 B f ftp ftc fbp fbc fap fac) [] w0 (.bool r81))) ∧
                 ((r71 = false) →
                 Fin R (isRevH0 B f ftp ftc fbp fbc fap fac) [] w0 (.bool false)))) ∧
               ((r61 = false) →
               Fin R (isRevH0 B f ftp ftc fbp fbc fap fac) [] w0 (.bool false)))) ∧
             ((r51 = false) →
             Fin R (isRevH0 B f ftp ftc fbp fbc fap fac) [] w0 (.bool false)))) ∧
           ((r41 = false) →
           Fin R (isRevH0 B f ftp ftc fbp fbc fap fac) [] w0 (.bool false)))) ∧
         ((¬ (f.base ≤ (IntKind.i64.wrap (f.rev - (1 : Int))))) →
         Fin R (isRevH0 B f ftp ftc fbp fbc fap fac) [] w0 (.bool false))) ∧
        ((¬ ((0 : Int) ≤ f.base)) →
        Fin R (isRevH0 B f ftp ftc fbp fbc fap fac) [] w0 (.bool false))) ∧
       ((¬ (f.rev ≤ (100 : Int))) →
       Fin R (isRevH0 B f ftp ftc fbp fbc fap fac) [] w0 (.bool false))) ∧
      ((¬ ((1 : Int) ≤ f.rev)) →
      Fin R (isRevH0 B f ftp ftc fbp fbc fap fac) [] w0 (.bool false))) ∧
     ((r1 = false) →
     Fin R (isRevH0 B f ftp ftc fbp fbc fap fac) [] w0 (.bool false)))) :
  Calls Tryz.prog 101 ⟨[.agg (isRevA0 f ftp ftc fbp fbc fap fac)]⟩ W R := by
 refine AtE.calls (nt := 44) Tryz.func101 (by kernel_rfl) hm ?_
 refine AtE.ru 2 ?_
 refine AtE.new (fun B => .pointer (some ⟨B, 0, none⟩)) (.cells (isRevA0 f ftp ftc fbp fbc fap fac) 28) (fun W => by kernel_rfl) (by kernel_rfl) (fun B => ?_)
 replace H := H B
 refine AtE.ru 5 ?_
 refine AtE.load 0 4 (T := 9) (v := .string f.lang) (by kernel_rfl) ?_
 refine AtE.call 105 ⟨[.string f.lang]⟩ (fun W => by kernel_rfl) (by kernel_rfl) H ?_
 clear H
 rintro _ _ ⟨r1, rfl, rfl, H⟩
 refine AtE.ru 1 ?_
 refine AtE.split 6 (b := r1) (by kernel_rfl) (fun h1' => ?_) (fun h1' => ?_)
 ·replace H := H.1 h1'
  refine AtE.ru 1 ?_
  refine AtE.load 0 5 (T := 3) (v := .int .i64 f.rev) (by kernel_rfl) ?_
  refine AtE.norm (k' := [.inRegion (regOps [.code (sub (Eng.body Tryz.f101) [1,0])]) [6,7,8,9,10,11,12,13,14,15,16,17,18,19,20,21,22,23,24,25,26,27,28,29,30,31,32,33,34,35,36,37,38,39,40,41], .code (sub (Eng.body Tryz.f101) [1,1])]) (e' := [(1, .pointer (some ⟨B, 0, none⟩)), (6, .bool true), (8, .int .i64 f.rev)]) (L' := (isRevH0 B f ftp ftc fbp fbc fap fac)) ?_ (by kernel_rfl)
  refine AtE.inl 58 ⟨[.int .i64 f.rev, .int .i64 (1 : Int), .int .i64 (100 : Int)]⟩ (fun W => by kernel_rfl) (by kernel_rfl) (fun W hm => AtE.calls (nt := 15) Tryz.func58 (by kernel_rfl) hm ?_)
  refine AtE.ru 10 ?_
  refine AtE.splitP 10 (p := (1 : Int) ≤ f.rev) (by kernel_rfl) (fun h2' => ?_) (fun h2' => ?_)
  ·replace H := H.1 h2'
   refine AtE.ru 6 ?_
   refine AtE.retK (v := (.bool (decide (f.rev ≤ (100 : Int))))) Tryz.func58 (by kernel_rfl) ?_
   refine AtE.ru 2 ?_
   refine AtE.splitP 11 (p := f.rev ≤ (100 : Int)) (by kernel_rfl) (fun h3' => ?_) (fun h3' => ?_)
   ·replace H := H.1 h3'
    refine AtE.ru 1 ?_
    refine AtE.load 0 6 (T := 3) (v := .int .i64 f.base) (by kernel_rfl) ?_
    refine AtE.ru 1 ?_
    refine AtE.load 0 5 (T := 3) (v := .int .i64 f.rev) (by kernel_rfl) ?_
    refine AtE.ru 1 ?_
    refine AtE.norm (k' := [.inRegion (regOps [.code (sub (Eng.body Tryz.f101) [1,0])]) [14,15,16,17,18,19,20,21,22,23,24,25,26,27,28,29,30,31,32,33,34,35,36,37,38,39,40,41], .code (sub (Eng.body Tryz.f101) [1,1])]) (e' := [(1, .pointer (some ⟨B, 0, none⟩)), (11, .bool true), (13, .int .i64 f.base), (16, .int .i64 (IntKind.i64.wrap (f.rev - (1 : Int))))]) (L' := (isRevH0 B f ftp ftc fbp fbc fap fac)) ?_ (by kernel_rfl)
    refine AtE.inl 58 ⟨[.int .i64 f.base, .int .i64 (0 : Int), .int .i64 (IntKind.i64.wrap (f.rev - (1 : Int)))]⟩ (fun W => by kernel_rfl) (by kernel_rfl) (fun W hm => AtE.calls (nt := 15) Tryz.func58 (by kernel_rfl) hm ?_)
    refine AtE.ru 10 ?_
    refine AtE.splitP 10 (p := (0 : Int) ≤ f.base) (by kernel_rfl) (fun h4' => ?_) (fun h4' => ?_)
    ·replace H := H.1 h4'
     refine AtE.ru 6 ?_
     refine AtE.retK (v := (.bool (decide (f.base ≤ (IntKind.i64.wrap (f.rev - (1 : Int))))))) Tryz.func58 (by kernel_rfl) ?_
     refine AtE.ru 2 ?_
     refine AtE.splitP 19 (p := f.base ≤ (IntKind.i64.wrap (f.rev - (1 : Int)))) (by kernel_rfl) (fun h5' => ?_) (fun h5' => ?_)
     ·replace H := H.1 h5'
      refine AtE.ru 1 ?_
      refine AtE.load 0 7 (T := 9) (v := .string f.title) (by kernel_rfl) ?_
      refine AtE.call 104 ⟨[.string f.title]⟩ (fun W => by kernel_rfl) (by kernel_rfl) H ?_
      clear H
      rintro _ _ ⟨r41, rfl, rfl, H⟩
      refine AtE.ru 2 ?_
      refine AtE.split 24 (b := r41) (by kernel_rfl) (fun h6' => ?_) (fun h6' => ?_)
      ·replace H := H.1 h6'
       refine AtE.ru 1 ?_
       refine AtE.load 0 8 (T := 9) (v := .string f.author) (by kernel_rfl) ?_
       refine AtE.norm (k' := [.inRegion (regOps [.code (sub (Eng.body Tryz.f101) [1,0])]) [24,25,26,27,28,29,30,31,32,33,34,35,36,37,38,39,40,41], .code (sub (Eng.body Tryz.f101) [1,1])]) (e' := [(1, .pointer (some ⟨B, 0, none⟩)), (24, .bool true), (26, .string f.author)]) (L' := (isRevH0 B f ftp ftc fbp fbc fap fac)) ?_ (by kernel_rfl)
       refine AtE.call 105 ⟨[.string f.author]⟩ (fun W => by kernel_rfl) (by kernel_rfl) H ?_
       clear H
       rintro _ _ ⟨r51, rfl, rfl, H⟩
       refine AtE.ru 2 ?_
       refine AtE.split 29 (b := r51) (by kernel_rfl) (fun h7' => ?_) (fun h7' => ?_)
       ·replace H := H.1 h7'
        refine AtE.ru 1 ?_
        refine AtE.load 0 9 (T := 22) (v := .slice ftp f.topics.length ftc) (by kernel_rfl) ?_
        refine AtE.call 147 ⟨[.slice ftp f.topics.length ftc]⟩ (fun W => by kernel_rfl) (by kernel_rfl) H ?_
        clear H
        rintro _ _ ⟨r61, rfl, rfl, H⟩
        refine AtE.ru 2 ?_
        refine AtE.split 34 (b := r61) (by kernel_rfl) (fun h8' => ?_) (fun h8' => ?_)
        ·replace H := H.1 h8'
         refine AtE.ru 1 ?_
         refine AtE.load 0 10 (T := 23) (v := .slice fbp f.blocks.length fbc) (by kernel_rfl) ?_
         refine AtE.call 148 ⟨[.slice fbp f.blocks.length fbc]⟩ (fun W => by kernel_rfl) (by kernel_rfl) H ?_
         clear H
         rintro _ _ ⟨r71, rfl, rfl, H⟩
         refine AtE.norm (k' := [.inRegion (regOps [.code (sub (Eng.body Tryz.f101) [1,0])]) [35,36,37,38,39,40,41], .code (sub (Eng.body Tryz.f101) [1,1])]) (e' := [(1, .pointer (some ⟨B, 0, none⟩)), (34, .bool true), (37, .bool r71)]) (L' := (isRevH0 B f ftp ftc fbp fbc fap fac)) ?_ (by kernel_rfl)
         refine AtE.ru 2 ?_
         refine AtE.split 39 (b := r71) (by kernel_rfl) (fun h9' => ?_) (fun h9' => ?_)
         ·replace H := H.1 h9'
          refine AtE.ru 1 ?_
          refine AtE.load 0 11 (T := 26) (v := .agg #[.int .i64 f.lab.unt, .slice fap f.lab.after.length fac, .int .i64 f.lab.appr, .int .i64 f.lab.den]) (by kernel_rfl) ?_
          refine AtE.call 102 ⟨[.agg #[.int .i64 f.lab.unt, .slice fap f.lab.after.length fac, .int .i64 f.lab.appr, .int .i64 f.lab.den]]⟩ (fun W => by kernel_rfl) (by kernel_rfl) H ?_
          clear H
          rintro _ _ ⟨r81, rfl, rfl, H⟩
          refine AtE.ru 3 ?_
          exact AtE.ret Tryz.func101 (by kernel_rfl) H
         ·replace H := H.2 h9'
          refine AtE.ru 6 ?_
          exact AtE.ret Tryz.func101 (by kernel_rfl) H
        ·replace H := H.2 h8'
         refine AtE.ru 11 ?_
         exact AtE.ret Tryz.func101 (by kernel_rfl) H
       ·replace H := H.2 h7'
        refine AtE.ru 16 ?_
        exact AtE.ret Tryz.func101 (by kernel_rfl) H
      ·replace H := H.2 h6'
       refine AtE.ru 21 ?_
       exact AtE.ret Tryz.func101 (by kernel_rfl) H
     ·replace H := H.2 h5'
      refine AtE.ru 26 ?_
      exact AtE.ret Tryz.func101 (by kernel_rfl) H
    ·replace H := H.2 h4'
     refine AtE.ru 6 ?_
     refine AtE.retK (v := (.bool false)) Tryz.func58 (by kernel_rfl) ?_
     refine AtE.ru 28 ?_
     exact AtE.ret Tryz.func101 (by kernel_rfl) H
   ·replace H := H.2 h3'
    refine AtE.ru 34 ?_
    exact AtE.ret Tryz.func101 (by kernel_rfl) H
  ·replace H := H.2 h2'
   refine AtE.ru 6 ?_
   refine AtE.retK (v := (.bool false)) Tryz.func58 (by kernel_rfl) ?_
   refine AtE.ru 36 ?_
   exact AtE.ret Tryz.func101 (by kernel_rfl) H
 ·replace H := H.2 h1'
  refine AtE.ru 39 ?_
  exact AtE.ret Tryz.func101 (by kernel_rfl) H
abbrev isCorH0 (B : Nat) (f : Fct) (ftp : Option Addr) (ftc : Nat) (fbp : Option Addr) (fbc : Nat) (fap : Option Addr) (fac : Nat) : SHeap := [(B, .cells #[.int .i64 f.n, .int .i64 f.time, .int .i64 f.kind, .int .i64 f.story, .string f.lang, .int .i64 f.rev, .int .i64 f.base, .string f.title, .string f.author, .slice ftp f.topics.length ftc, .slice fbp f.blocks.length fbc, .int .i64 f.lab.unt, .slice fap f.lab.after.length fac, .int .i64 f.lab.appr, .int .i64 f.lab.den, .int .i64 f.editor, .int .i64 f.block, .int .i64 f.sentence, .string f.text, .string f.name, .int .i64 f.partner, .int .i64 f.cls, .int .i64 f.unt] 28)]
abbrev isCorA0 (f : Fct) (ftp : Option Addr) (ftc : Nat) (fbp : Option Addr) (fbc : Nat) (fap : Option Addr) (fac : Nat) : Array Value := #[.int .i64 f.n, .int .i64 f.time, .int .i64 f.kind, .int .i64 f.story, .string f.lang, .int .i64 f.rev, .int .i64 f.base, .string f.title, .string f.author, .slice ftp f.topics.length ftc, .slice fbp f.blocks.length fbc, .int .i64 f.lab.unt, .slice fap f.lab.after.length fac, .int .i64 f.lab.appr, .int .i64 f.lab.den, .int .i64 f.editor, .int .i64 f.block, .int .i64 f.sentence, .string f.text, .string f.name, .int .i64 f.partner, .int .i64 f.cls, .int .i64 f.unt]
theorem isCor_vc (f : Fct) (ftp : Option Addr) (ftc : Nat) (fbp : Option Addr) (fbc : Nat) (fap : Option Addr) (fac : Nat) {R : Ending → World → Prop} {w0 W : World} (hm : Mem [] [] w0 W)
  (H :
   ∀ B : Nat,
   CallH Tryz.prog 105 ⟨[.string f.lang]⟩ (isCorH0 B f ftp ftc fbp fbc fap fac) [] w0 (fun v L' => ∃ (r1 : Bool), v = (.bool r1) ∧ L' = (isCorH0 B f ftp ftc fbp fbc fap fac) ∧
    ((r1 = true) →
     (((1 : Int) ≤ f.block) →
      ((f.block ≤ (1000 : Int)) →
       (((0 : Int) ≤ f.sentence) →
        ((f.sentence ≤ (299 : Int)) →
         CallH Tryz.prog 104 ⟨[.string f.text]⟩ (isCorH0 B f ftp ftc fbp fbc fap fac) [] w0 (fun v L' => ∃ (r41 : Bool), v = (.bool r41) ∧ L' = (isCorH0 B f ftp ftc fbp fbc fap fac) ∧
          Fin R (isCorH0 B f ftp ftc fbp fbc fap fac) [] w0 (.bool r41))) ∧
         ((¬ (f.sentence ≤ (299 : Int))) →
         Fin R (isCorH0 B f ftp ftc fbp fbc fap fac) [] w0 (.bool false))) ∧
        ((¬ ((0 : Int) ≤ f.sentence)) →
        Fin R (isCorH0 B f ftp ftc fbp fbc fap fac) [] w0 (.bool false))) ∧
       ((¬ (f.block ≤ (1000 : Int))) →
       Fin R (isCorH0 B f ftp ftc fbp fbc fap fac) [] w0 (.bool false))) ∧
      ((¬ ((1 : Int) ≤ f.block)) →
      Fin R (isCorH0 B f ftp ftc fbp fbc fap fac) [] w0 (.bool false))) ∧
     ((r1 = false) →
     Fin R (isCorH0 B f ftp ftc fbp fbc fap fac) [] w0 (.bool false)))) :
  Calls Tryz.prog 103 ⟨[.agg (isCorA0 f ftp ftc fbp fbc fap fac)]⟩ W R := by
 refine AtE.calls (nt := 21) Tryz.func103 (by kernel_rfl) hm ?_
 refine AtE.ru 2 ?_
 refine AtE.new (fun B => .pointer (some ⟨B, 0, none⟩)) (.cells (isCorA0 f ftp ftc fbp fbc fap fac) 28) (fun W => by kernel_rfl) (by kernel_rfl) (fun B => ?_)
 replace H := H B
 refine AtE.ru 5 ?_
 refine AtE.load 0 4 (T := 9) (v := .string f.lang) (by kernel_rfl) ?_
 refine AtE.call 105 ⟨[.string f.lang]⟩ (fun W => by kernel_rfl) (by kernel_rfl) H ?_
 clear H
 rintro _ _ ⟨r1, rfl, rfl, H⟩
 refine AtE.ru 1 ?_
 refine AtE.split 6 (b := r1) (by kernel_rfl) (fun h1' => ?_) (fun h1' => ?_)
 ·replace H := H.1 h1'
  refine AtE.ru 1 ?_
  refine AtE.load 0 16 (T := 3) (v := .int .i64 f.block) (by kernel_rfl) ?_
  refine AtE.norm (k' := [.inRegion (regOps [.code (sub (Eng.body Tryz.f103) [1,0])]) [6,7,8,9,10,11,12,13,14,15,16,17,18], .code (sub (Eng.body Tryz.f103) [1,1])]) (e' := [(1, .pointer (some ⟨B, 0, none⟩)), (6, .bool true), (8, .int .i64 f.block)]) (L' := (isCorH0 B f ftp ftc fbp fbc fap fac)) ?_ (by kernel_rfl)
  refine AtE.inl 58 ⟨[.int .i64 f.block, .int .i64 (1 : Int), .int .i64 (1000 : Int)]⟩ (fun W => by kernel_rfl) (by kernel_rfl) (fun W hm => AtE.calls (nt := 15) Tryz.func58 (by kernel_rfl) hm ?_)
  refine AtE.ru 10 ?_
  refine AtE.splitP 10 (p := (1 : Int) ≤ f.block) (by kernel_rfl) (fun h2' => ?_) (fun h2' => ?_)
  ·replace H := H.1 h2'
   refine AtE.ru 6 ?_
   refine AtE.retK (v := (.bool (decide (f.block ≤ (1000 : Int))))) Tryz.func58 (by kernel_rfl) ?_
   refine AtE.ru 2 ?_
   refine AtE.splitP 11 (p := f.block ≤ (1000 : Int)) (by kernel_rfl) (fun h3' => ?_) (fun h3' => ?_)
   ·replace H := H.1 h3'
    refine AtE.ru 1 ?_
    refine AtE.load 0 17 (T := 3) (v := .int .i64 f.sentence) (by kernel_rfl) ?_
    refine AtE.norm (k' := [.inRegion (regOps [.code (sub (Eng.body Tryz.f103) [1,0])]) [11,12,13,14,15,16,17,18], .code (sub (Eng.body Tryz.f103) [1,1])]) (e' := [(1, .pointer (some ⟨B, 0, none⟩)), (11, .bool true), (13, .int .i64 f.sentence)]) (L' := (isCorH0 B f ftp ftc fbp fbc fap fac)) ?_ (by kernel_rfl)
    refine AtE.inl 58 ⟨[.int .i64 f.sentence, .int .i64 (0 : Int), .int .i64 (299 : Int)]⟩ (fun W => by kernel_rfl) (by kernel_rfl) (fun W hm => AtE.calls (nt := 15) Tryz.func58 (by kernel_rfl) hm ?_)
    refine AtE.ru 10 ?_
    refine AtE.splitP 10 (p := (0 : Int) ≤ f.sentence) (by kernel_rfl) (fun h4' => ?_) (fun h4' => ?_)
    ·replace H := H.1 h4'
     refine AtE.ru 6 ?_
     refine AtE.retK (v := (.bool (decide (f.sentence ≤ (299 : Int))))) Tryz.func58 (by kernel_rfl) ?_
     refine AtE.ru 2 ?_
     refine AtE.splitP 16 (p := f.sentence ≤ (299 : Int)) (by kernel_rfl) (fun h5' => ?_) (fun h5' => ?_)
     ·replace H := H.1 h5'
      refine AtE.ru 1 ?_
      refine AtE.load 0 18 (T := 9) (v := .string f.text) (by kernel_rfl) ?_
      refine AtE.call 104 ⟨[.string f.text]⟩ (fun W => by kernel_rfl) (by kernel_rfl) H ?_
      clear H
      rintro _ _ ⟨r41, rfl, rfl, H⟩
      refine AtE.ru 3 ?_
      exact AtE.ret Tryz.func103 (by kernel_rfl) H
     ·replace H := H.2 h5'
      refine AtE.ru 6 ?_
      exact AtE.ret Tryz.func103 (by kernel_rfl) H
    ·replace H := H.2 h4'
     refine AtE.ru 6 ?_
     refine AtE.retK (v := (.bool false)) Tryz.func58 (by kernel_rfl) ?_
     refine AtE.ru 8 ?_
     exact AtE.ret Tryz.func103 (by kernel_rfl) H
   ·replace H := H.2 h3'
    refine AtE.ru 11 ?_
    exact AtE.ret Tryz.func103 (by kernel_rfl) H
  ·replace H := H.2 h2'
   refine AtE.ru 6 ?_
   refine AtE.retK (v := (.bool false)) Tryz.func58 (by kernel_rfl) ?_
   refine AtE.ru 13 ?_
   exact AtE.ret Tryz.func103 (by kernel_rfl) H
 ·replace H := H.2 h1'
  refine AtE.ru 16 ?_
  exact AtE.ret Tryz.func103 (by kernel_rfl) H
abbrev fSameH0 (B : Nat) (x : Fct) (xtp : Option Addr) (xtc : Nat) (xbp : Option Addr) (xbc : Nat) (xap : Option Addr) (xac : Nat) (B1 : Nat) (y : Fct) (ytp : Option Addr) (ytc : Nat) (ybp : Option Addr) (ybc : Nat) (yap : Option Addr) (yac : Nat) : SHeap := [(B, .cells #[.int .i64 x.n, .int .i64 x.time, .int .i64 x.kind, .int .i64 x.story, .string x.lang, .int .i64 x.rev, .int .i64 x.base, .string x.title, .string x.author, .slice xtp x.topics.length xtc, .slice xbp x.blocks.length xbc, .int .i64 x.lab.unt, .slice xap x.lab.after.length xac, .int .i64 x.lab.appr, .int .i64 x.lab.den, .int .i64 x.editor, .int .i64 x.block, .int .i64 x.sentence, .string x.text, .string x.name, .int .i64 x.partner, .int .i64 x.cls, .int .i64 x.unt] 28), (B1, .cells #[.int .i64 y.n, .int .i64 y.time, .int .i64 y.kind, .int .i64 y.story, .string y.lang, .int .i64 y.rev, .int .i64 y.base, .string y.title, .string y.author, .slice ytp y.topics.length ytc, .slice ybp y.blocks.length ybc, .int .i64 y.lab.unt, .slice yap y.lab.after.length yac, .int .i64 y.lab.appr, .int .i64 y.lab.den, .int .i64 y.editor, .int .i64 y.block, .int .i64 y.sentence, .string y.text, .string y.name, .int .i64 y.partner, .int .i64 y.cls, .int .i64 y.unt] 28)]
abbrev fSameA0 (x : Fct) (xtp : Option Addr) (xtc : Nat) (xbp : Option Addr) (xbc : Nat) (xap : Option Addr) (xac : Nat) : Array Value := #[.int .i64 x.n, .int .i64 x.time, .int .i64 x.kind, .int .i64 x.story, .string x.lang, .int .i64 x.rev, .int .i64 x.base, .string x.title, .string x.author, .slice xtp x.topics.length xtc, .slice xbp x.blocks.length xbc, .int .i64 x.lab.unt, .slice xap x.lab.after.length xac, .int .i64 x.lab.appr, .int .i64 x.lab.den, .int .i64 x.editor, .int .i64 x.block, .int .i64 x.sentence, .string x.text, .string x.name, .int .i64 x.partner, .int .i64 x.cls, .int .i64 x.unt]
abbrev fSameA1 (y : Fct) (ytp : Option Addr) (ytc : Nat) (ybp : Option Addr) (ybc : Nat) (yap : Option Addr) (yac : Nat) : Array Value := #[.int .i64 y.n, .int .i64 y.time, .int .i64 y.kind, .int .i64 y.story, .string y.lang, .int .i64 y.rev, .int .i64 y.base, .string y.title, .string y.author, .slice ytp y.topics.length ytc, .slice ybp y.blocks.length ybc, .int .i64 y.lab.unt, .slice yap y.lab.after.length yac, .int .i64 y.lab.appr, .int .i64 y.lab.den, .int .i64 y.editor, .int .i64 y.block, .int .i64 y.sentence, .string y.text, .string y.name, .int .i64 y.partner, .int .i64 y.cls, .int .i64 y.unt]
theorem fSame_vc (x : Fct) (xtp : Option Addr) (xtc : Nat) (xbp : Option Addr) (xbc : Nat) (xap : Option Addr) (xac : Nat) (y : Fct) (ytp : Option Addr) (ytc : Nat) (ybp : Option Addr) (ybc : Nat) (yap : Option Addr) (yac : Nat) {R : Ending → World → Prop} {w0 W : World} (hm : Mem [] [] w0 W)
  (H :
   ∀ B : Nat,
   ∀ B1 : Nat,
   ((x.n = y.n) →
    ((x.time = y.time) →
     ((x.kind = y.kind) →
      ((x.story = y.story) →
       ((x.lang = y.lang) →
        ((x.rev = y.rev) →
         ((x.base = y.base) →
          ((x.title = y.title) →
           ((x.author = y.author) →
            CallH Tryz.prog 61 ⟨[.slice xtp x.topics.length xtc, .slice ytp y.topics.length ytc]⟩ (fSameH0 B x xtp xtc xbp xbc xap xac B1 y ytp ytc ybp ybc yap yac) [] w0 (fun v L' => ∃ (r1 : Bool), v = (.bool r1) ∧ L' = (fSameH0 B x xtp xtc xbp xbc xap xac B1 y ytp ytc ybp ybc yap yac) ∧
             ((r1 = true) →
              CallH Tryz.prog 62 ⟨[.slice xbp x.blocks.length xbc, .slice ybp y.blocks.length ybc]⟩ (fSameH0 B x xtp xtc xbp xbc xap xac B1 y ytp ytc ybp ybc yap yac) [] w0 (fun v L' => ∃ (r21 : Bool), v = (.bool r21) ∧ L' = (fSameH0 B x xtp xtc xbp xbc xap xac B1 y ytp ytc ybp ybc yap yac) ∧
               ((r21 = true) →
                CallH Tryz.prog 63 ⟨[.agg #[.int .i64 x.lab.unt, .slice xap x.lab.after.length xac, .int .i64 x.lab.appr, .int .i64 x.lab.den], .agg #[.int .i64 y.lab.unt, .slice yap y.lab.after.length yac, .int .i64 y.lab.appr, .int .i64 y.lab.den]]⟩ (fSameH0 B x xtp xtc xbp xbc xap xac B1 y ytp ytc ybp ybc yap yac) [] w0 (fun v L' => ∃ (r31 : Bool), v = (.bool r31) ∧ L' = (fSameH0 B x xtp xtc xbp xbc xap xac B1 y ytp ytc ybp ybc yap yac) ∧
                 ((r31 = true) →
                  ((x.editor = y.editor) →
                   ((x.block = y.block) →
                    ((x.sentence = y.sentence) →
                     ((x.text = y.text) →
                      ((x.name = y.name) →
                       ((x.partner = y.partner) →
                        ((x.cls = y.cls) →
                         Fin R (fSameH0 B x xtp xtc xbp xbc xap xac B1 y ytp ytc ybp ybc yap yac) [] w0 (.bool (decide (x.unt = y.unt)))) ∧
                         ((¬ (x.cls = y.cls)) →
                         Fin R (fSameH0 B x xtp xtc xbp xbc xap xac B1 y ytp ytc ybp ybc yap yac) [] w0 (.bool false))) ∧
                        ((¬ (x.partner = y.partner)) →
                        Fin R (fSameH0 B x xtp xtc xbp xbc xap xac B1 y ytp ytc ybp ybc yap yac) [] w0 (.bool false))) ∧
                       ((¬ x.name = y.name) →
                       Fin R (fSameH0 B x xtp xtc xbp xbc xap xac B1 y ytp ytc ybp ybc yap yac) [] w0 (.bool false))) ∧
                      ((¬ x.text = y.text) →
                      Fin R (fSameH0 B x xtp xtc xbp xbc xap xac B1 y ytp ytc ybp ybc yap yac) [] w0 (.bool false))) ∧
                     ((¬ (x.sentence = y.sentence)) →
                     Fin R (fSameH0 B x xtp xtc xbp xbc xap xac B1 y ytp ytc ybp ybc yap yac) [] w0 (.bool false))) ∧
                    ((¬ (x.block = y.block)) →
                    Fin R (fSameH0 B x xtp xtc xbp xbc xap xac B1 y ytp ytc ybp ybc yap yac) [] w0 (.bool false))) ∧
                   ((¬ (x.editor = y.editor)) →
                   Fin R (fSameH0 B x xtp xtc xbp xbc xap xac B1 y ytp ytc ybp ybc yap yac) [] w0 (.bool false))) ∧
                  ((r31 = false) →
                  Fin R (fSameH0 B x xtp xtc xbp xbc xap xac B1 y ytp ytc ybp ybc yap yac) [] w0 (.bool false)))) ∧
                ((r21 = false) →
                Fin R (fSameH0 B x xtp xtc xbp xbc xap xac B1 y ytp ytc ybp ybc yap yac) [] w0 (.bool false)))) ∧
              ((r1 = false) →
              Fin R (fSameH0 B x xtp xtc xbp xbc xap xac B1 y ytp ytc ybp ybc yap yac) [] w0 (.bool false)))) ∧
            ((¬ x.author = y.author) →
            Fin R (fSameH0 B x xtp xtc xbp xbc xap xac B1 y ytp ytc ybp ybc yap yac) [] w0 (.bool false))) ∧
           ((¬ x.title = y.title) →
           Fin R (fSameH0 B x xtp xtc xbp xbc xap xac B1 y ytp ytc ybp ybc yap yac) [] w0 (.bool false))) ∧
          ((¬ (x.base = y.base)) →
          Fin R (fSameH0 B x xtp xtc xbp xbc xap xac B1 y ytp ytc ybp ybc yap yac) [] w0 (.bool false))) ∧
         ((¬ (x.rev = y.rev)) →
         Fin R (fSameH0 B x xtp xtc xbp xbc xap xac B1 y ytp ytc ybp ybc yap yac) [] w0 (.bool false))) ∧
        ((¬ x.lang = y.lang) →
        Fin R (fSameH0 B x xtp xtc xbp xbc xap xac B1 y ytp ytc ybp ybc yap yac) [] w0 (.bool false))) ∧
       ((¬ (x.story = y.story)) →
       Fin R (fSameH0 B x xtp xtc xbp xbc xap xac B1 y ytp ytc ybp ybc yap yac) [] w0 (.bool false))) ∧
      ((¬ (x.kind = y.kind)) →
      Fin R (fSameH0 B x xtp xtc xbp xbc xap xac B1 y ytp ytc ybp ybc yap yac) [] w0 (.bool false))) ∧
     ((¬ (x.time = y.time)) →
     Fin R (fSameH0 B x xtp xtc xbp xbc xap xac B1 y ytp ytc ybp ybc yap yac) [] w0 (.bool false))) ∧
    ((¬ (x.n = y.n)) →
    Fin R (fSameH0 B x xtp xtc xbp xbc xap xac B1 y ytp ytc ybp ybc yap yac) [] w0 (.bool false))) :
  Calls Tryz.prog 22 ⟨[.agg (fSameA0 x xtp xtc xbp xbc xap xac), .agg (fSameA1 y ytp ytc ybp ybc yap yac)]⟩ W R := by
 refine AtE.calls (nt := 143) Tryz.func22 (by kernel_rfl) hm ?_
 refine AtE.ru 2 ?_
 refine AtE.new (fun B => .pointer (some ⟨B, 0, none⟩)) (.cells (fSameA0 x xtp xtc xbp xbc xap xac) 28) (fun W => by kernel_rfl) (by kernel_rfl) (fun B => ?_)
 replace H := H B
 refine AtE.new (fun B => .pointer (some ⟨B, 0, none⟩)) (.cells (fSameA1 y ytp ytc ybp ybc yap yac) 28) (fun W => by kernel_rfl) (by kernel_rfl) (fun B1 => ?_)
 replace H := H B1
 refine AtE.ru 5 ?_
 refine AtE.load 0 0 (T := 3) (v := .int .i64 x.n) (by kernel_rfl) ?_
 refine AtE.ru 1 ?_
 refine AtE.load 1 0 (T := 3) (v := .int .i64 y.n) (by kernel_rfl) ?_
 refine AtE.ru 2 ?_
 refine AtE.splitP 10 (p := x.n = y.n) (by kernel_rfl) (fun h1' => ?_) (fun h1' => ?_)
 ·replace H := H.1 h1'
  refine AtE.ru 1 ?_
  refine AtE.load 0 1 (T := 3) (v := .int .i64 x.time) (by kernel_rfl) ?_
  refine AtE.ru 1 ?_
  refine AtE.load 1 1 (T := 3) (v := .int .i64 y.time) (by kernel_rfl) ?_
  refine AtE.norm (k' := [.inRegion (regOps [.code (sub (Eng.body Tryz.f22) [1,0])]) [10,11,12,13,14,15,16,17,18,19,20,21,22,23,24,25,26,27,28,29,30,31,32,33,34,35,36,37,38,39,40,41,42,43,44,45,46,47,48,49,50,51,52,53,54,55,56,57,58,59,60,61,62,63,64,65,66,67,68,69,70,71,72,73,74,75,76,77,78,79,80,81,82,83,84,85,86,87,88,89,90,91,92,93,94,95,96,97,98,99,100,101,102,103,104,105,106,107,108,109,110,111,112,113,114,115,116,117,118,119,120,121,122,123,124,125,126,127,128,129,130,131,132,133,134,135,136,137,138], .code (sub (Eng.body Tryz.f22) [1,1])]) (e' := [(2, .pointer (some ⟨B, 0, none⟩)), (3, .pointer (some ⟨B1, 0, none⟩)), (10, .bool true), (12, .int .i64 x.time), (14, .int .i64 y.time)]) (L' := (fSameH0 B x xtp xtc xbp xbc xap xac B1 y ytp ytc ybp ybc yap yac)) ?_ (by kernel_rfl)
  refine AtE.ru 3 ?_
  refine AtE.splitP 17 (p := x.time = y.time) (by kernel_rfl) (fun h2' => ?_) (fun h2' => ?_)
  ·replace H := H.1 h2'
   refine AtE.ru 1 ?_
   refine AtE.load 0 2 (T := 3) (v := .int .i64 x.kind) (by kernel_rfl) ?_
   refine AtE.ru 1 ?_
   refine AtE.load 1 2 (T := 3) (v := .int .i64 y.kind) (by kernel_rfl) ?_
   refine AtE.ru 3 ?_
   refine AtE.splitP 24 (p := x.kind = y.kind) (by kernel_rfl) (fun h3' => ?_) (fun h3' => ?_)
   ·replace H := H.1 h3'
    refine AtE.ru 1 ?_
    refine AtE.load 0 3 (T := 3) (v := .int .i64 x.story) (by kernel_rfl) ?_
    refine AtE.ru 1 ?_
    refine AtE.load 1 3 (T := 3) (v := .int .i64 y.story) (by kernel_rfl) ?_
    refine AtE.ru 3 ?_
    refine AtE.splitP 31 (p := x.story = y.story) (by kernel_rfl) (fun h4' => ?_) (fun h4' => ?_)
    ·replace H := H.1 h4'
     refine AtE.norm (k' := [.inRegion (regOps [.code (sub (Eng.body Tryz.f22) [1,0])]) [27,28,29,30,31,32,33,34,35,36,37,38,39,40,41,42,43,44,45,46,47,48,49,50,51,52,53,54,55,56,57,58,59,60,61,62,63,64,65,66,67,68,69,70,71,72,73,74,75,76,77,78,79,80,81,82,83,84,85,86,87,88,89,90,91,92,93,94,95,96,97,98,99,100,101,102,103,104,105,106,107,108,109,110,111,112,113,114,115,116,117,118,119,120,121,122,123,124,125,126,127,128,129,130,131,132,133,134,135,136,137,138], .code (sub (Eng.body Tryz.f22) [1,1])]) (e' := [(2, .pointer (some ⟨B, 0, none⟩)), (3, .pointer (some ⟨B1, 0, none⟩)), (31, .bool true)]) (L' := (fSameH0 B x xtp xtc xbp xbc xap xac B1 y ytp ytc ybp ybc yap yac)) ?_ (by kernel_rfl)
     refine AtE.ru 1 ?_
     refine AtE.load 0 4 (T := 9) (v := .string x.lang) (by kernel_rfl) ?_
     refine AtE.ru 1 ?_
     refine AtE.load 1 4 (T := 9) (v := .string y.lang) (by kernel_rfl) ?_
     refine AtE.ru 3 ?_
     refine AtE.splitS 38 (x := x.lang) (y := y.lang) (by kernel_rfl) (fun h5' => ?_) (fun h5' => ?_)
     ·replace H := H.1 h5'
      refine AtE.ru 1 ?_
      refine AtE.load 0 5 (T := 3) (v := .int .i64 x.rev) (by kernel_rfl) ?_
      refine AtE.ru 1 ?_
      refine AtE.load 1 5 (T := 3) (v := .int .i64 y.rev) (by kernel_rfl) ?_
      refine AtE.ru 3 ?_
      refine AtE.splitP 45 (p := x.rev = y.rev) (by kernel_rfl) (fun h6' => ?_) (fun h6' => ?_)
      ·replace H := H.1 h6'
       refine AtE.ru 1 ?_
       refine AtE.load 0 6 (T := 3) (v := .int .i64 x.base) (by kernel_rfl) ?_
       refine AtE.norm (k' := [.inRegion (regOps [.code (sub (Eng.body Tryz.f22) [1,0])]) [43,44,45,46,47,48,49,50,51,52,53,54,55,56,57,58,59,60,61,62,63,64,65,66,67,68,69,70,71,72,73,74,75,76,77,78,79,80,81,82,83,84,85,86,87,88,89,90,91,92,93,94,95,96,97,98,99,100,101,102,103,104,105,106,107,108,109,110,111,112,113,114,115,116,117,118,119,120,121,122,123,124,125,126,127,128,129,130,131,132,133,134,135,136,137,138], .code (sub (Eng.body Tryz.f22) [1,1])]) (e' := [(2, .pointer (some ⟨B, 0, none⟩)), (3, .pointer (some ⟨B1, 0, none⟩)), (45, .bool true), (47, .int .i64 x.base)]) (L' := (fSameH0 B x xtp xtc xbp xbc xap xac B1 y ytp ytc ybp ybc yap yac)) ?_ (by kernel_rfl)
       refine AtE.ru 1 ?_
       refine AtE.load 1 6 (T := 3) (v := .int .i64 y.base) (by kernel_rfl) ?_
       refine AtE.ru 3 ?_
       refine AtE.splitP 52 (p := x.base = y.base) (by kernel_rfl) (fun h7' => ?_) (fun h7' => ?_)
       ·replace H := H.1 h7'
        refine AtE.ru 1 ?_
        refine AtE.load 0 7 (T := 9) (v := .string x.title) (by kernel_rfl) ?_
        refine AtE.ru 1 ?_
        refine AtE.load 1 7 (T := 9) (v := .string y.title) (by kernel_rfl) ?_
        refine AtE.ru 3 ?_
        refine AtE.splitS 59 (x := x.title) (y := y.title) (by kernel_rfl) (fun h8' => ?_) (fun h8' => ?_)
        ·replace H := H.1 h8'
         refine AtE.ru 1 ?_
         refine AtE.load 0 8 (T := 9) (v := .string x.author) (by kernel_rfl) ?_
         refine AtE.ru 1 ?_
         refine AtE.load 1 8 (T := 9) (v := .string y.author) (by kernel_rfl) ?_
         refine AtE.norm (k' := [.inRegion (regOps [.code (sub (Eng.body Tryz.f22) [1,0])]) [59,60,61,62,63,64,65,66,67,68,69,70,71,72,73,74,75,76,77,78,79,80,81,82,83,84,85,86,87,88,89,90,91,92,93,94,95,96,97,98,99,100,101,102,103,104,105,106,107,108,109,110,111,112,113,114,115,116,117,118,119,120,121,122,123,124,125,126,127,128,129,130,131,132,133,134,135,136,137,138], .code (sub (Eng.body Tryz.f22) [1,1])]) (e' := [(2, .pointer (some ⟨B, 0, none⟩)), (3, .pointer (some ⟨B1, 0, none⟩)), (59, .bool true), (61, .string x.author), (63, .string y.author)]) (L' := (fSameH0 B x xtp xtc xbp xbc xap xac B1 y ytp ytc ybp ybc yap yac)) ?_ (by kernel_rfl)
         refine AtE.ru 3 ?_
         refine AtE.splitS 66 (x := x.author) (y := y.author) (by kernel_rfl) (fun h9' => ?_) (fun h9' => ?_)
         ·replace H := H.1 h9'
          refine AtE.ru 1 ?_
          refine AtE.load 0 9 (T := 22) (v := .slice xtp x.topics.length xtc) (by kernel_rfl) ?_
          refine AtE.ru 1 ?_
          refine AtE.load 1 9 (T := 22) (v := .slice ytp y.topics.length ytc) (by kernel_rfl) ?_
          refine AtE.call 61 ⟨[.slice xtp x.topics.length xtc, .slice ytp y.topics.length ytc]⟩ (fun W => by kernel_rfl) (by kernel_rfl) H ?_
          clear H
          rintro _ _ ⟨r1, rfl, rfl, H⟩
          refine AtE.ru 2 ?_
          refine AtE.split 73 (b := r1) (by kernel_rfl) (fun h10' => ?_) (fun h10' => ?_)
          ·replace H := H.1 h10'
           refine AtE.ru 1 ?_
           refine AtE.load 0 10 (T := 23) (v := .slice xbp x.blocks.length xbc) (by kernel_rfl) ?_
           refine AtE.ru 1 ?_
           refine AtE.load 1 10 (T := 23) (v := .slice ybp y.blocks.length ybc) (by kernel_rfl) ?_
           refine AtE.norm (k' := [.inRegion (regOps [.code (sub (Eng.body Tryz.f22) [1,0])]) [73,74,75,76,77,78,79,80,81,82,83,84,85,86,87,88,89,90,91,92,93,94,95,96,97,98,99,100,101,102,103,104,105,106,107,108,109,110,111,112,113,114,115,116,117,118,119,120,121,122,123,124,125,126,127,128,129,130,131,132,133,134,135,136,137,138], .code (sub (Eng.body Tryz.f22) [1,1])]) (e' := [(2, .pointer (some ⟨B, 0, none⟩)), (3, .pointer (some ⟨B1, 0, none⟩)), (73, .bool true), (75, .slice xbp x.blocks.length xbc), (77, .slice ybp y.blocks.length ybc)]) (L' := (fSameH0 B x xtp xtc xbp xbc xap xac B1 y ytp ytc ybp ybc yap yac)) ?_ (by kernel_rfl)
           refine AtE.call 62 ⟨[.slice xbp x.blocks.length xbc, .slice ybp y.blocks.length ybc]⟩ (fun W => by kernel_rfl) (by kernel_rfl) H ?_
           clear H
           rintro _ _ ⟨r21, rfl, rfl, H⟩
           refine AtE.ru 2 ?_
           refine AtE.split 80 (b := r21) (by kernel_rfl) (fun h11' => ?_) (fun h11' => ?_)
           ·replace H := H.1 h11'
            refine AtE.ru 1 ?_
            refine AtE.load 0 11 (T := 26) (v := .agg #[.int .i64 x.lab.unt, .slice xap x.lab.after.length xac, .int .i64 x.lab.appr, .int .i64 x.lab.den]) (by kernel_rfl) ?_
            refine AtE.ru 1 ?_
            refine AtE.load 1 11 (T := 26) (v := .agg #[.int .i64 y.lab.unt, .slice yap y.lab.after.length yac, .int .i64 y.lab.appr, .int .i64 y.lab.den]) (by kernel_rfl) ?_
            refine AtE.call 63 ⟨[.agg #[.int .i64 x.lab.unt, .slice xap x.lab.after.length xac, .int .i64 x.lab.appr, .int .i64 x.lab.den], .agg #[.int .i64 y.lab.unt, .slice yap y.lab.after.length yac, .int .i64 y.lab.appr, .int .i64 y.lab.den]]⟩ (fun W => by kernel_rfl) (by kernel_rfl) H ?_
            clear H
            rintro _ _ ⟨r31, rfl, rfl, H⟩
            refine AtE.ru 2 ?_
            refine AtE.split 87 (b := r31) (by kernel_rfl) (fun h12' => ?_) (fun h12' => ?_)
            ·replace H := H.1 h12'
             refine AtE.ru 1 ?_
             refine AtE.load 0 15 (T := 3) (v := .int .i64 x.editor) (by kernel_rfl) ?_
             refine AtE.norm (k' := [.inRegion (regOps [.code (sub (Eng.body Tryz.f22) [1,0])]) [85,86,87,88,89,90,91,92,93,94,95,96,97,98,99,100,101,102,103,104,105,106,107,108,109,110,111,112,113,114,115,116,117,118,119,120,121,122,123,124,125,126,127,128,129,130,131,132,133,134,135,136,137,138], .code (sub (Eng.body Tryz.f22) [1,1])]) (e' := [(2, .pointer (some ⟨B, 0, none⟩)), (3, .pointer (some ⟨B1, 0, none⟩)), (87, .bool true), (89, .int .i64 x.editor)]) (L' := (fSameH0 B x xtp xtc xbp xbc xap xac B1 y ytp ytc ybp ybc yap yac)) ?_ (by kernel_rfl)
             refine AtE.ru 1 ?_
             refine AtE.load 1 15 (T := 3) (v := .int .i64 y.editor) (by kernel_rfl) ?_
             refine AtE.ru 3 ?_
             refine AtE.splitP 94 (p := x.editor = y.editor) (by kernel_rfl) (fun h13' => ?_) (fun h13' => ?_)
             ·replace H := H.1 h13'
              refine AtE.ru 1 ?_
              refine AtE.load 0 16 (T := 3) (v := .int .i64 x.block) (by kernel_rfl) ?_
              refine AtE.ru 1 ?_
              refine AtE.load 1 16 (T := 3) (v := .int .i64 y.block) (by kernel_rfl) ?_
              refine AtE.ru 3 ?_
              refine AtE.splitP 101 (p := x.block = y.block) (by kernel_rfl) (fun h14' => ?_) (fun h14' => ?_)
              ·replace H := H.1 h14'
               refine AtE.ru 1 ?_
               refine AtE.load 0 17 (T := 3) (v := .int .i64 x.sentence) (by kernel_rfl) ?_
               refine AtE.ru 1 ?_
               refine AtE.load 1 17 (T := 3) (v := .int .i64 y.sentence) (by kernel_rfl) ?_
               refine AtE.norm (k' := [.inRegion (regOps [.code (sub (Eng.body Tryz.f22) [1,0])]) [101,102,103,104,105,106,107,108,109,110,111,112,113,114,115,116,117,118,119,120,121,122,123,124,125,126,127,128,129,130,131,132,133,134,135,136,137,138], .code (sub (Eng.body Tryz.f22) [1,1])]) (e' := [(2, .pointer (some ⟨B, 0, none⟩)), (3, .pointer (some ⟨B1, 0, none⟩)), (101, .bool true), (103, .int .i64 x.sentence), (105, .int .i64 y.sentence)]) (L' := (fSameH0 B x xtp xtc xbp xbc xap xac B1 y ytp ytc ybp ybc yap yac)) ?_ (by kernel_rfl)
               refine AtE.ru 3 ?_
               refine AtE.splitP 108 (p := x.sentence = y.sentence) (by kernel_rfl) (fun h15' => ?_) (fun h15' => ?_)
               ·replace H := H.1 h15'
                refine AtE.ru 1 ?_
                refine AtE.load 0 18 (T := 9) (v := .string x.text) (by kernel_rfl) ?_
                refine AtE.ru 1 ?_
                refine AtE.load 1 18 (T := 9) (v := .string y.text) (by kernel_rfl) ?_
                refine AtE.ru 3 ?_
                refine AtE.splitS 115 (x := x.text) (y := y.text) (by kernel_rfl) (fun h16' => ?_) (fun h16' => ?_)
                ·replace H := H.1 h16'
                 refine AtE.ru 1 ?_
                 refine AtE.load 0 19 (T := 9) (v := .string x.name) (by kernel_rfl) ?_
                 refine AtE.ru 1 ?_
                 refine AtE.load 1 19 (T := 9) (v := .string y.name) (by kernel_rfl) ?_
                 refine AtE.ru 3 ?_
                 refine AtE.splitS 122 (x := x.name) (y := y.name) (by kernel_rfl) (fun h17' => ?_) (fun h17' => ?_)
                 ·replace H := H.1 h17'
                  refine AtE.norm (k' := [.inRegion (regOps [.code (sub (Eng.body Tryz.f22) [1,0])]) [118,119,120,121,122,123,124,125,126,127,128,129,130,131,132,133,134,135,136,137,138], .code (sub (Eng.body Tryz.f22) [1,1])]) (e' := [(2, .pointer (some ⟨B, 0, none⟩)), (3, .pointer (some ⟨B1, 0, none⟩)), (122, .bool true)]) (L' := (fSameH0 B x xtp xtc xbp xbc xap xac B1 y ytp ytc ybp ybc yap yac)) ?_ (by kernel_rfl)
                  refine AtE.ru 1 ?_
                  refine AtE.load 0 20 (T := 3) (v := .int .i64 x.partner) (by kernel_rfl) ?_
                  refine AtE.ru 1 ?_
                  refine AtE.load 1 20 (T := 3) (v := .int .i64 y.partner) (by kernel_rfl) ?_
                  refine AtE.ru 3 ?_
                  refine AtE.splitP 129 (p := x.partner = y.partner) (by kernel_rfl) (fun h18' => ?_) (fun h18' => ?_)
                  ·replace H := H.1 h18'
                   refine AtE.ru 1 ?_
                   refine AtE.load 0 21 (T := 3) (v := .int .i64 x.cls) (by kernel_rfl) ?_
                   refine AtE.ru 1 ?_
                   refine AtE.load 1 21 (T := 3) (v := .int .i64 y.cls) (by kernel_rfl) ?_
                   refine AtE.ru 3 ?_
                   refine AtE.splitP 136 (p := x.cls = y.cls) (by kernel_rfl) (fun h19' => ?_) (fun h19' => ?_)
                   ·replace H := H.1 h19'
                    refine AtE.ru 1 ?_
                    refine AtE.load 0 22 (T := 3) (v := .int .i64 x.unt) (by kernel_rfl) ?_
                    refine AtE.norm (k' := [.inRegion (regOps [.code (sub (Eng.body Tryz.f22) [1,0])]) [134,135,136,137,138], .code (sub (Eng.body Tryz.f22) [1,1])]) (e' := [(3, .pointer (some ⟨B1, 0, none⟩)), (136, .bool true), (138, .int .i64 x.unt)]) (L' := (fSameH0 B x xtp xtc xbp xbc xap xac B1 y ytp ytc ybp ybc yap yac)) ?_ (by kernel_rfl)
                    refine AtE.ru 1 ?_
                    refine AtE.load 1 22 (T := 3) (v := .int .i64 y.unt) (by kernel_rfl) ?_
                    refine AtE.ru 4 ?_
                    exact AtE.ret Tryz.func22 (by kernel_rfl) H
                   ·replace H := H.2 h19'
                    refine AtE.ru 8 ?_
                    exact AtE.ret Tryz.func22 (by kernel_rfl) H
                  ·replace H := H.2 h18'
                   refine AtE.ru 15 ?_
                   exact AtE.ret Tryz.func22 (by kernel_rfl) H
                 ·replace H := H.2 h17'
                  refine AtE.norm (k' := [.inRegion (regOps [.code (sub (Eng.body Tryz.f22) [1,0])]) [118,119,120,121,122,123,124,125,126,127,128,129,130,131,132,133,134,135,136,137,138], .code (sub (Eng.body Tryz.f22) [1,1])]) (e' := [(2, .pointer (some ⟨B, 0, none⟩)), (3, .pointer (some ⟨B1, 0, none⟩)), (122, .bool false)]) (L' := (fSameH0 B x xtp xtc xbp xbc xap xac B1 y ytp ytc ybp ybc yap yac)) ?_ (by kernel_rfl)
                  refine AtE.ru 22 ?_
                  exact AtE.ret Tryz.func22 (by kernel_rfl) H
                ·replace H := H.2 h16'
                 refine AtE.ru 29 ?_
                 exact AtE.ret Tryz.func22 (by kernel_rfl) H
               ·replace H := H.2 h15'
                refine AtE.ru 36 ?_
                exact AtE.ret Tryz.func22 (by kernel_rfl) H
              ·replace H := H.2 h14'
               refine AtE.ru 43 ?_
               exact AtE.ret Tryz.func22 (by kernel_rfl) H
             ·replace H := H.2 h13'
              refine AtE.ru 50 ?_
              exact AtE.ret Tryz.func22 (by kernel_rfl) H
            ·replace H := H.2 h12'
             refine AtE.ru 57 ?_
             exact AtE.ret Tryz.func22 (by kernel_rfl) H
           ·replace H := H.2 h11'
            refine AtE.ru 64 ?_
            exact AtE.ret Tryz.func22 (by kernel_rfl) H
          ·replace H := H.2 h10'
           refine AtE.ru 71 ?_
           exact AtE.ret Tryz.func22 (by kernel_rfl) H
         ·replace H := H.2 h9'
          refine AtE.ru 78 ?_
          exact AtE.ret Tryz.func22 (by kernel_rfl) H
        ·replace H := H.2 h8'
         refine AtE.ru 85 ?_
         exact AtE.ret Tryz.func22 (by kernel_rfl) H
       ·replace H := H.2 h7'
        refine AtE.ru 92 ?_
        exact AtE.ret Tryz.func22 (by kernel_rfl) H
      ·replace H := H.2 h6'
       refine AtE.ru 99 ?_
       exact AtE.ret Tryz.func22 (by kernel_rfl) H
     ·replace H := H.2 h5'
      refine AtE.ru 106 ?_
      exact AtE.ret Tryz.func22 (by kernel_rfl) H
    ·replace H := H.2 h4'
     refine AtE.norm (k' := [.inRegion (regOps [.code (sub (Eng.body Tryz.f22) [1,0])]) [27,28,29,30,31,32,33,34,35,36,37,38,39,40,41,42,43,44,45,46,47,48,49,50,51,52,53,54,55,56,57,58,59,60,61,62,63,64,65,66,67,68,69,70,71,72,73,74,75,76,77,78,79,80,81,82,83,84,85,86,87,88,89,90,91,92,93,94,95,96,97,98,99,100,101,102,103,104,105,106,107,108,109,110,111,112,113,114,115,116,117,118,119,120,121,122,123,124,125,126,127,128,129,130,131,132,133,134,135,136,137,138], .code (sub (Eng.body Tryz.f22) [1,1])]) (e' := [(2, .pointer (some ⟨B, 0, none⟩)), (3, .pointer (some ⟨B1, 0, none⟩)), (31, .bool false)]) (L' := (fSameH0 B x xtp xtc xbp xbc xap xac B1 y ytp ytc ybp ybc yap yac)) ?_ (by kernel_rfl)
     refine AtE.ru 113 ?_
     exact AtE.ret Tryz.func22 (by kernel_rfl) H
   ·replace H := H.2 h3'
    refine AtE.ru 120 ?_
    exact AtE.ret Tryz.func22 (by kernel_rfl) H
  ·replace H := H.2 h2'
   refine AtE.ru 127 ?_
   exact AtE.ret Tryz.func22 (by kernel_rfl) H
 ·replace H := H.2 h1'
  refine AtE.ru 134 ?_
  exact AtE.ret Tryz.func22 (by kernel_rfl) H
end Go.Eng
namespace Go.Eng
open Go Go.RowKit Go.Proofs Wire
set_option linter.unusedVariables false
def Fct.Fits (f : Fct) : Prop :=
  (f.lang.size ≤ 9223372036854775807 ∧ f.title.size ≤ 9223372036854775807 ∧ f.author.size ≤ 9223372036854775807 ∧ f.text.size ≤ 9223372036854775807 ∧ f.name.size ≤ 9223372036854775807) ∧
  (f.topics.length ≤ 9223372036854775807 ∧ ∀ t ∈ f.topics, t.size ≤ 9223372036854775807) ∧ f.blocks.length ≤ 9223372036854775807 ∧ f.lab.after.length ≤ 9223372036854775807
structure FAt (lk : Lk) (f : Fct) (tp : Option Addr) (tc : Nat) (bp : Option Addr) (bc : Nat) (ap : Option Addr) (ac : Nat) : Prop where
  tops : StrsL lk tp f.topics
  blks : BlksL lk bp f.blocks
  ints : IntsL lk ap f.lab.after
  ct : f.topics.length ≤ tc
  cb : f.blocks.length ≤ bc
  ca : f.lab.after.length ≤ ac
  fits : f.Fits
theorem FAt.mono {lk lk' : Lk} {f : Fct} {tp : Option Addr} {tc : Nat} {bp : Option Addr} {bc : Nat} {ap : Option Addr} {ac : Nat} (h : FAt lk f tp tc bp bc ap ac) (hl : ∀ b c, lk b c → lk' b c) : FAt lk' f tp tc bp bc ap ac :=
  ⟨h.tops.mono hl, h.blks.mono hl, h.ints.mono hl, h.ct, h.cb, h.ca, h.fits⟩
def FctL (lk : Lk) (cs : List Value) (f : Fct) : Prop := ∃ tp tc bp bc ap ac, cs = f.cells tp tc bp bc ap ac ∧ FAt lk f tp tc bp bc ap ac
theorem consN_loop {s : ByteArray} (hs : s.size ≤ 9223372036854775807) {w0 : World} {R : Ending → World → Prop} : ∀ (g i : Nat), g + i = s.size → Fin R [] [] w0 (.bool (scan s nameB i)) → consN_c0 s (i : Int) w0 R
  | 0, i, hg, H => by
    apply consN_c0_vc
    exact no (by omega) (finEq H (by rw [scan_end (by omega)]))
  | g + 1, i, hg, H => by
    apply consN_c0_vc
    have hi : i < s.size := by omega
    have next : nameB (bat s i) = true → ∀ x : Int, x = IntKind.i64.wrap ((i : Int) + 1) → consN_c0 s x w0 R := by
      rintro hn _ rfl
      rw [wi64 (by omega), show (i : Int) + 1 = ((i + 1 : Nat) : Int) by omega]
      rw [scan_yes hi hn] at H
      exact consN_loop hs g (i + 1) (by omega) H
    have stop : nameB (bat s i) = false → Fin R [] [] w0 (.bool false) := fun hn => finEq H (by rw [scan_no hi hn])
    refine yes (by omega) ?_
    repeat' (first
      | refine And.intro ?_ ?_
      | omega
      | exact stop (decide_eq_false (by omega))
      | exact next (decide_eq_true (by omega))
      | intro _)
theorem consT_loop {s : ByteArray} (hs : s.size ≤ 9223372036854775807) {w0 : World} {R : Ending → World → Prop} : ∀ (g i : Nat), g + i = s.size → Fin R [] [] w0 (.bool (scan s txtB i)) → consT_c0 s (i : Int) w0 R
  | 0, i, hg, H => by
    apply consT_c0_vc
    exact no (by omega) (finEq H (by rw [scan_end (by omega)]))
  | g + 1, i, hg, H => by
    apply consT_c0_vc
    have hi : i < s.size := by omega
    have next : txtB (bat s i) = true → ∀ x : Int, x = IntKind.i64.wrap ((i : Int) + 1) → consT_c0 s x w0 R := by
      rintro hn _ rfl
      rw [wi64 (by omega), show (i : Int) + 1 = ((i + 1 : Nat) : Int) by omega]
      rw [scan_yes hi hn] at H
      exact consT_loop hs g (i + 1) (by omega) H
    have stop : txtB (bat s i) = false → Fin R [] [] w0 (.bool false) := fun hn => finEq H (by rw [scan_no hi hn])
    refine yes (by omega) ?_
    repeat' (first
      | refine And.intro ?_ ?_
      | omega
      | exact stop (decide_eq_false (by omega))
      | exact next (decide_eq_true (by omega))
      | intro _)
theorem srcB_yes {b : Int} (h : b = 10 ∨ (32 ≤ b ∧ b ≤ 126)) : srcB b = true := by
  simp only [srcB, txtB, Bool.or_eq_true, decide_eq_true_eq]; exact h
theorem srcB_no {b : Int} (h : ¬ (b = 10 ∨ (32 ≤ b ∧ b ≤ 126))) : srcB b = false := by
  cases hb : srcB b with
  | false => rfl
  | true => simp only [srcB, txtB, Bool.or_eq_true, decide_eq_true_eq] at hb; exact absurd hb h
theorem consS_loop {s : ByteArray} (hs : s.size ≤ 9223372036854775807) {w0 : World} {R : Ending → World → Prop} : ∀ (g i : Nat), g + i = s.size → Fin R [] [] w0 (.bool (scan s srcB i)) → consS_c0 s (i : Int) w0 R
  | 0, i, hg, H => by
    apply consS_c0_vc
    exact no (by omega) (finEq H (by rw [scan_end (by omega)]))
  | g + 1, i, hg, H => by
    apply consS_c0_vc
    have hi : i < s.size := by omega
    have next : srcB (bat s i) = true → ∀ x : Int, x = IntKind.i64.wrap ((i : Int) + 1) → consS_c0 s x w0 R := by
      rintro hn _ rfl
      rw [wi64 (by omega), show (i : Int) + 1 = ((i + 1 : Nat) : Int) by omega]
      rw [scan_yes hi hn] at H
      exact consS_loop hs g (i + 1) (by omega) H
    have stop : srcB (bat s i) = false → Fin R [] [] w0 (.bool false) := fun hn => finEq H (by rw [scan_no hi hn])
    refine yes (by omega) ?_
    repeat' (first
      | refine And.intro ?_ ?_
      | omega
      | exact stop (srcB_no (by omega))
      | exact next (srcB_yes (by omega))
      | intro _)
theorem fName_c (s : ByteArray) (hs : s.size ≤ 9223372036854775807) : PureC Tryz.prog 105 ⟨[.string s]⟩ (.bool (nameOk s)) := by
  have h : PureC Tryz.prog 150 ⟨[.string s, .int .i64 1, .int .i64 20, .func (.func 152) #[] #[]]⟩ (.bool (nameOk s)) := fun W => by
    refine consN_vc s 1 20 (Mem.start [] W) ⟨fun h => ⟨fun h2 => finPure ?_, fun h2 => consN_loop hs s.size 0 (by omega) (finPure ?_)⟩, fun h => finPure ?_⟩
    · rw [nameOk, decide_eq_false (by omega), Bool.false_and]
    · rw [nameOk, decide_eq_true (by omega), Bool.true_and]
    · rw [nameOk, decide_eq_false (by omega), Bool.false_and]
  exact fun W => fName_vc s (Mem.start [] W) (CallH.pure h ⟨_, rfl, rfl, finPure rfl⟩)
theorem fText_c (s : ByteArray) (hs : s.size ≤ 9223372036854775807) : PureC Tryz.prog 104 ⟨[.string s]⟩ (.bool (fillOk s)) := by
  have h : PureC Tryz.prog 150 ⟨[.string s, .int .i64 1, .int .i64 300, .func (.func 151) #[] #[]]⟩ (.bool (fillOk s)) := fun W => by
    refine consT_vc s 1 300 (Mem.start [] W) ⟨fun h => ⟨fun h2 => finPure ?_, fun h2 => consT_loop hs s.size 0 (by omega) (finPure ?_)⟩, fun h => finPure ?_⟩
    · rw [fillOk, txtOk, decide_eq_false (p := s.size ≤ 300) (by omega), Bool.false_and, Bool.and_false]
    · rw [fillOk, txtOk, decide_eq_true (p := s.size ≤ 300) (by omega), decide_eq_true (p := s.size ≠ 0) (by omega), Bool.true_and, Bool.true_and]
    · rw [fillOk, decide_eq_false (p := s.size ≠ 0) (by omega), Bool.false_and]
  exact fun W => fText_vc s (Mem.start [] W) (CallH.pure h ⟨_, rfl, rfl, finPure rfl⟩)
theorem fSource_c (s : ByteArray) (hs : s.size ≤ 9223372036854775807) : PureC Tryz.prog 106 ⟨[.string s]⟩ (.bool (srcOk s)) := by
  have h : PureC Tryz.prog 150 ⟨[.string s, .int .i64 0, .int .i64 1000, .func (.func 153) #[] #[]]⟩ (.bool (srcOk s)) := fun W => by
    refine consS_vc s 0 1000 (Mem.start [] W) ⟨fun h => ⟨fun h2 => finPure ?_, fun h2 => consS_loop hs s.size 0 (by omega) (finPure ?_)⟩, fun h => absurd h (by omega)⟩
    · rw [srcOk, decide_eq_false (by omega), Bool.false_and]
    · rw [srcOk, decide_eq_true (by omega), Bool.true_and]
  exact fun W => fSource_vc s (Mem.start [] W) (CallH.pure h ⟨_, rfl, rfl, finPure rfl⟩)
def prevT (l : List ByteArray) : Nat → Option ByteArray
  | 0 => none
  | k + 1 => l[k]?
theorem areTopics_loop {w0 : World} {p : Option Addr} {c : Nat} {R : Ending → World → Prop} {l : List ByteArray} (hp : StrsL (lkW w0) p l) (hs : ∀ t ∈ l, t.size ≤ 9223372036854775807) (hm : l.length ≤ 9223372036854775807) :
    ∀ (g i : Nat), g + i = l.length → Fin R [] [] w0 (.bool (topicsGo (prevT l i) (l.drop i))) → areTopics_c0 p l.length c (i : Int) w0 R
  | 0, i, hg, H => by
    apply areTopics_c0_vc
    refine no (by omega) (finEq H ?_)
    rw [List.drop_of_length_le (by omega)]
    cases i <;> rfl
  | g + 1, i, hg, H => by
    apply areTopics_c0_vc
    have hi : i < l.length := by omega
    obtain ⟨b, o, cc, e1, e2, e3⟩ := hp.get hi
    rw [List.drop_eq_getElem_cons hi, topicsGo] at H
    have next : nameOk l[i] = true → tAfter (prevT l i) l[i] = true → areTopics_c0 p l.length c (IntKind.i64.wrap ((i : Int) + 1)) w0 R := fun h1 h2 => by
      rw [h1, h2, Bool.true_and, Bool.true_and] at H
      rw [wi64 (by omega), show (i : Int) + 1 = ((i + 1 : Nat) : Int) by omega]
      refine areTopics_loop hp hs hm g (i + 1) (by omega) (finEq H ?_)
      rw [prevT, List.getElem?_eq_getElem hi]
    refine yes (by omega) ⟨b, o, e1, by omega, cc, l[i], e2, by simpa using e3, CallH.pure (fName_c _ (hs _ (List.getElem_mem hi))) ⟨_, rfl, rfl, fun h1 => ⟨fun h0 => ?_, fun h0 => ?_⟩, fun h1 => finEq H (by rw [h1]; rfl)⟩⟩
    · obtain ⟨k, rfl⟩ : ∃ k, i = k + 1 := ⟨i - 1, by omega⟩
      have hk : k < l.length := by omega
      obtain ⟨b2, o2, c2, f1, f2, f3⟩ := hp.get hk
      have hw : IntKind.i64.wrap (((k + 1 : Nat) : Int) - 1) = (k : Int) := by rw [wi64 (by omega)]; omega
      have hpv : prevT l (k + 1) = some l[k] := by rw [prevT, List.getElem?_eq_getElem hk]
      rw [hw]
      refine ⟨b2, o2, f1, by omega, c2, l[k], f2, by simpa using f3, fun hl => finEq H ?_, fun hl => next h1 ?_⟩
      · rw [h1, hpv, tAfter, tLe, hl]; rfl
      · rw [hpv, tAfter, tLe, hl]; rfl
    · have : i = 0 := by omega
      subst this
      exact next h1 rfl
theorem areTopics_c {W : World} {p : Option Addr} {c : Nat} {l : List ByteArray} (hp : StrsL (lkW W) p l) (hs : ∀ t ∈ l, t.size ≤ 9223372036854775807) (hm : l.length ≤ 9223372036854775807) :
    PW Tryz.prog 147 ⟨[.slice p l.length c]⟩ W (.bool (topicsOk l)) := by
  refine areTopics_vc p l.length c (Mem.start [] W) ⟨fun h => finPW ?_, fun h => areTopics_loop hp hs hm l.length 0 (by omega) (finPW ?_)⟩
  · rw [topicsOk, decide_eq_false (by omega), Bool.false_and]
  · rw [topicsOk, decide_eq_true (by omega), Bool.true_and]; rfl
theorem eqStrs_loop {w0 : World} {p q : Option Addr} {cp cq : Nat} {R : Ending → World → Prop} {a b : List ByteArray} (ha : StrsL (lkW w0) p a) (hb : StrsL (lkW w0) q b) (hl : a.length = b.length) (hm : a.length ≤ 9223372036854775807) :
    ∀ (g i : Nat), g + i = a.length → Fin R [] [] w0 (.bool (decide (a.drop i = b.drop i))) → eqStrs_c0 p a.length cp q b.length cq (i : Int) w0 R
  | 0, i, hg, H => by
    apply eqStrs_c0_vc
    refine no (by omega) (finEq H ?_)
    rw [List.drop_of_length_le (by omega), List.drop_of_length_le (by omega)]
    simp
  | g + 1, i, hg, H => by
    apply eqStrs_c0_vc
    have h1 : i < a.length := by omega
    have h2 : i < b.length := by omega
    obtain ⟨B1, o1, c1, e1, e2, e3⟩ := ha.get h1
    obtain ⟨B2, o2, c2, f1, f2, f3⟩ := hb.get h2
    simp only [drop_eq h1 h2] at H
    refine yes (by omega) ⟨B1, o1, e1, by omega, c1, a[i], e2, by simpa using e3, B2, o2, f1, by omega, c2, b[i], f2, by simpa using f3, fun h => finEq H (by simp [h]), fun h => ?_⟩
    rw [wi64 (by omega), show (i : Int) + 1 = ((i + 1 : Nat) : Int) by omega]
    refine eqStrs_loop ha hb hl hm g (i + 1) (by omega) (finEq H ?_)
    simp [h]
theorem eqStrs_c {W : World} {p q : Option Addr} {cp cq : Nat} {a b : List ByteArray} (ha : StrsL (lkW W) p a) (hb : StrsL (lkW W) q b) (hm : a.length ≤ 9223372036854775807) :
    PW Tryz.prog 61 ⟨[.slice p a.length cp, .slice q b.length cq]⟩ W (.bool (decide (a = b))) := by
  refine eqStrs_vc p a.length cp q b.length cq (Mem.start [] W) ⟨fun h => finPW ?_, fun h => eqStrs_loop ha hb (by omega) hm a.length 0 (by omega) (finPW ?_)⟩
  · rw [decide_eq_false]
    intro hab; subst hab; exact h rfl
  · simp
theorem Fct.ne_of {x y : Fct} (z : Fld) (h : ¬ x.get z = y.get z) : (Value.bool false) = .bool (decide (x = y)) := by
  rw [decide_eq_false]
  intro e; exact h (by rw [e])
theorem fSame_c {W : World} {x y : Fct} {xtp xbp xap ytp ybp yap : Option Addr} {xtc xbc xac ytc ybc yac : Nat} (hx : FAt (lkW W) x xtp xtc xbp xbc xap xac) (hy : FAt (lkW W) y ytp ytc ybp ybc yap yac) :
    PW Tryz.prog 22 ⟨[.agg ⟨x.cells xtp xtc xbp xbc xap xac⟩, .agg ⟨y.cells ytp ytc ybp ybc yap yac⟩]⟩ W (.bool (decide (x = y))) := by
  refine fSame_vc x xtp xtc xbp xbc xap xac y ytp ytc ybp ybc yap yac (Mem.start [] W) fun B B1 => ?_
  refine ⟨fun h1 => ⟨fun h2 => ⟨fun h3 => ⟨fun h4 => ⟨fun h5 => ⟨fun h6 => ⟨fun h7 => ⟨fun h8 => ⟨fun h9 => ?_, fun h => finPW (Fct.ne_of .author h)⟩, fun h => finPW (Fct.ne_of .title h)⟩, fun h => finPW (Fct.ne_of .base h)⟩, fun h => finPW (Fct.ne_of .rev h)⟩, fun h => finPW (Fct.ne_of .lang h)⟩, fun h => finPW (Fct.ne_of .story h)⟩, fun h => finPW (Fct.ne_of .kind h)⟩, fun h => finPW (Fct.ne_of .time h)⟩, fun h => finPW (Fct.ne_of .n h)⟩
  refine CallH.pw (fun W' hm' => eqStrs_c (hx.tops.mono (lkW_kept hm')) (hy.tops.mono (lkW_kept hm')) hx.fits.2.1.1) ⟨_, rfl, rfl, fun g1 => ?_, fun g => finPW (Fct.ne_of .topics (of_decide_eq_false (p := x.topics = y.topics) g))⟩
  refine CallH.pw (fun W' hm' => sameL_c (hx.blks.mono (lkW_kept hm')) (hy.blks.mono (lkW_kept hm')) hx.fits.2.2.1) ⟨_, rfl, rfl, fun g2 => ?_, fun g => finPW (Fct.ne_of .blocks (of_decide_eq_false (p := x.blocks = y.blocks) g))⟩
  refine CallH.pw (fun W' hm' => labSame_c (hx.ints.mono (lkW_kept hm')) (hy.ints.mono (lkW_kept hm')) hx.fits.2.2.2) ⟨_, rfl, rfl, fun g3 => ?_, fun g => finPW (Fct.ne_of .label (of_decide_eq_false (p := x.lab = y.lab) g))⟩
  have g1 := of_decide_eq_true g1; have g2 := of_decide_eq_true g2; have g3 := of_decide_eq_true g3
  refine ⟨fun k1 => ⟨fun k2 => ⟨fun k3 => ⟨fun k4 => ⟨fun k5 => ⟨fun k6 => ⟨fun k7 => finPW ?_, fun h => finPW (Fct.ne_of .cls h)⟩, fun h => finPW (Fct.ne_of .partner h)⟩, fun h => finPW (Fct.ne_of .name h)⟩, fun h => finPW (Fct.ne_of .text h)⟩, fun h => finPW (Fct.ne_of .sentence h)⟩, fun h => finPW (Fct.ne_of .block h)⟩, fun h => finPW (Fct.ne_of .editor h)⟩
  congr 1
  rw [decide_eq_decide]
  refine ⟨fun k8 => ?_, fun h => by rw [h]⟩
  apply Fct.ext_get
  intro z
  cases z <;> assumption
end Go.Eng
