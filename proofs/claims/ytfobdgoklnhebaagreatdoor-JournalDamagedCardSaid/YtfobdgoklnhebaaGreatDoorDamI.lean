/- A part of the proof. -/
import Derived.Test.YtfobdgoklnhebaaGreatDoorDamH
set_option linter.unusedVariables false
set_option linter.unusedSimpArgs false
set_option maxRecDepth 100000
namespace Go.Proofs.YtfobdgoklnhebaaGreatDoor
open Go Go.Eng Go.RowKit Go.ChangeShapes Go.WideShapes Go.ChangeMaps
theorem ints_of {w : World} {p : Option Addr} {l : List Int} (h : SlAt (lkW w) 1 (intP .i64) p l) : IntsL (lkW w) p l := by
 intro hp
 obtain ⟨b, o, c, M, O, V⟩ := h hp
 refine ⟨b, o, c, M, O, fun i hi => ?_⟩
 obtain ⟨_, Z, _⟩ := V i hi
 have : ((c.drop (o + i * 1)).take 1)[0]? = some (.int .i64 l[i]) := by rw [Z]; rfl
 rw [List.getElem?_take_of_lt (by decide), List.getElem?_drop] at this
 simpa using this
theorem strs_of {w : World} {p : Option Addr} {l : List ByteArray} (h : SlAt (lkW w) 1 strP p l) : StrsL (lkW w) p l := by
 intro hp
 obtain ⟨b, o, c, M, O, V⟩ := h hp
 refine ⟨b, o, c, M, O, fun i hi => ?_⟩
 obtain ⟨_, Z, _⟩ := V i hi
 have : ((c.drop (o + i * 1)).take 1)[0]? = some (.string l[i]) := by rw [Z]; rfl
 rw [List.getElem?_take_of_lt (by decide), List.getElem?_drop] at this
 simpa using this
theorem strs_sz {w : World} {p : Option Addr} {l : List ByteArray} (h : SlAt (lkW w) 1 strP p l) : ∀ t ∈ l, t.size ≤ 9223372036854775807 := by
 intro t O
 obtain ⟨i, hi, rfl⟩ := List.getElem_of_mem O
 obtain ⟨_, _, _, _, _, _, _, M⟩ := h.get hi
 exact Nat.le_trans M (by decide)
def labP (w : World) (cs : List Value) (l : Lab) : Prop := ∃ p c, cs = l.cells p c ∧ IntsL (lkW w) p l.after ∧ l.after.length ≤ 9223372036854775807 ∧ l.after.length ≤ c
theorem opn_Lab {H : Type} {enc : TypeId × Value → H} {w : World} : Opn enc Tryz.prog w 36 (labP w) := by
 intro a8 cs x h
 have a7 := opn_len Tryz.underlying36 h (n := 4) (by kernel_rfl)
 obtain ⟨a1, O, _⟩ := opn_field Tryz.underlying36 h 0 3 0 1 rfl (by kernel_rfl) (opn_int (kd := .i64) Tryz.underlying3)
 obtain ⟨a2, p, n, c, V, e1, M, a5, _, a6⟩ := opn_field Tryz.underlying36 h 1 34 1 1 rfl (by kernel_rfl) (opn_slice (sz := 1) Tryz.underlying34 (by kernel_rfl) (by decide) (opn_int (kd := .i64) Tryz.underlying3))
 obtain ⟨a3, Z, _⟩ := opn_field Tryz.underlying36 h 2 3 2 1 rfl (by kernel_rfl) (opn_int (kd := .i64) Tryz.underlying3)
 obtain ⟨a4, a0, _⟩ := opn_field Tryz.underlying36 h 3 3 3 1 rfl (by kernel_rfl) (opn_int (kd := .i64) Tryz.underlying3)
 match cs, a7 with
 | [c0, c1, c2, c3], _ =>
  simp only [List.drop_zero, List.drop_succ_cons, List.take_succ_cons, List.take_zero, List.cons.injEq, and_true] at O V Z a0
  subst O V Z a0 e1
  exact ⟨⟨a1, a2, a3, a4⟩, p, c, rfl, ints_of a6, Nat.le_trans M (Nat.le_trans a5 (by decide)), M⟩
theorem opn_Blk {H : Type} {enc : TypeId × Value → H} {w : World} : Opn enc Tryz.prog w 149 (BlkLc (lkW w)) := by
 intro b4 cs x h
 have b3 := opn_len Tryz.underlying149 h (n := 9) (by kernel_rfl)
 obtain ⟨a2, M, _⟩ := opn_field Tryz.underlying149 h 0 3 0 1 rfl (by kernel_rfl) (opn_int (kd := .i64) Tryz.underlying3)
 obtain ⟨a3, O, _⟩ := opn_field Tryz.underlying149 h 1 3 1 1 rfl (by kernel_rfl) (opn_int (kd := .i64) Tryz.underlying3)
 obtain ⟨a4, V, a8⟩ := opn_field Tryz.underlying149 h 2 9 2 1 rfl (by kernel_rfl) (opn_string Tryz.underlying9)
 obtain ⟨a5, Z, _⟩ := opn_field Tryz.underlying149 h 3 3 3 1 rfl (by kernel_rfl) (opn_int (kd := .i64) Tryz.underlying3)
 obtain ⟨a6, a0, _⟩ := opn_field Tryz.underlying149 h 4 3 4 1 rfl (by kernel_rfl) (opn_int (kd := .i64) Tryz.underlying3)
 obtain ⟨a7, p, c, a1, a9, b0, b1⟩ := opn_field Tryz.underlying149 h 5 36 5 4 rfl (by kernel_rfl) opn_Lab
 match cs, b3 with
 | [c0, c1, c2, c3, c4, c5, c6, c7, c8], _ =>
  simp only [List.drop_zero, List.drop_succ_cons, List.take_succ_cons, List.take_zero, List.cons.injEq, and_true] at M O V Z a0 a1
  obtain ⟨rfl, rfl, rfl, rfl⟩ := a1
  subst M O V Z a0
  exact ⟨⟨a2, a3, a4, a5, a6, a7⟩, p, c, rfl, a9, ⟨Nat.le_trans a8 (by decide), b0⟩, b1⟩
def fctP (w : World) (cs : List Value) (f : Fct) : Prop := ∃ tp tc bp bc ap ac, cs = f.cells tp tc bp bc ap ac ∧ FArg (lkW w) f tp tc bp bc ap ac
set_option maxHeartbeats 1000000 in
theorem opn_Fct {H : Type} {enc : TypeId × Value → H} {w : World} : Opn enc Tryz.prog w 38 (fctP w) := by
 intro fuel cs x h
 have hl := opn_len Tryz.underlying38 h (n := 23) (by kernel_rfl)
 have I := fun (i off : Nat) (hi) => opn_field Tryz.underlying38 h i 3 off 1 hi (by kernel_rfl) (opn_int (kd := .i64) Tryz.underlying3)
 have S := fun (i off : Nat) (hi) => opn_field Tryz.underlying38 h i 9 off 1 hi (by kernel_rfl) (opn_string Tryz.underlying9)
 obtain ⟨a0, h0, _⟩ := I 0 0 rfl
 obtain ⟨a1, h1, _⟩ := I 1 1 rfl
 obtain ⟨a2, h2, _⟩ := I 2 2 rfl
 obtain ⟨a3, h3, _⟩ := I 3 3 rfl
 obtain ⟨a4, h4, s4⟩ := S 4 4 rfl
 obtain ⟨a5, h5, _⟩ := I 5 5 rfl
 obtain ⟨a6, h6, _⟩ := I 6 6 rfl
 obtain ⟨a7, h7, s7⟩ := S 7 7 rfl
 obtain ⟨a8, h8, s8⟩ := S 8 8 rfl
 obtain ⟨a9, tp, tn, tc, h9, t1, t2, t3, _, t5⟩ := opn_field Tryz.underlying38 h 9 32 9 1 rfl (by kernel_rfl) (opn_slice (sz := 1) Tryz.underlying32 (by kernel_rfl) (by decide) (opn_string Tryz.underlying9))
 obtain ⟨a10, bp, bn, bc, h10, b1, b2, b3, _, b5⟩ := opn_field Tryz.underlying38 h 10 33 10 1 rfl (by kernel_rfl) (opn_slice (sz := 9) Tryz.underlying33 (by kernel_rfl) (by decide) opn_Blk)
 obtain ⟨a11, ap, ac, h11, l1, l2, l3⟩ := opn_field Tryz.underlying38 h 11 36 11 4 rfl (by kernel_rfl) opn_Lab
 obtain ⟨a12, h12, _⟩ := I 12 15 rfl
 obtain ⟨a13, h13, _⟩ := I 13 16 rfl
 obtain ⟨a14, h14, _⟩ := I 14 17 rfl
 obtain ⟨a15, h15, s15⟩ := S 15 18 rfl
 obtain ⟨a16, h16, s16⟩ := S 16 19 rfl
 obtain ⟨a17, h17, _⟩ := I 17 20 rfl
 obtain ⟨a18, h18, _⟩ := I 18 21 rfl
 obtain ⟨a19, h19, _⟩ := I 19 22 rfl
 obtain ⟨y0, y1, y2, y3, y4, y5, y6, y7, y8, y9, y10, y11, y12, y13, y14, y15, y16, y17, y18, y19, y20, y21, y22, rfl⟩ := len23 hl
 simp only [List.drop_zero, List.drop_succ_cons, List.take_succ_cons, List.take_zero, List.cons.injEq, and_true] at h0 h1 h2 h3 h4 h5 h6 h7 h8 h9 h10 h11 h12 h13 h14 h15 h16 h17 h18 h19
 obtain ⟨rfl, rfl, rfl, rfl⟩ := h11
 subst h0 h1 h2 h3 h4 h5 h6 h7 h8 h9 h10 h12 h13 h14 h15 h16 h17 h18 h19 t1 b1
 have m : maxLen ≤ 9223372036854775807 := by decide
 exact ⟨⟨a0, a1, a2, a3, a4, a5, a6, a7, a8, a9, a10, a11, a12, a13, a14, a15, a16, a17, a18, a19⟩, tp, tc, bp, bc, ap, ac, rfl, strs_of t5, b5, l1, t2, b2, l3,
  ⟨Nat.le_trans s4 m, Nat.le_trans s7 m, Nat.le_trans s8 m, Nat.le_trans s15 m, Nat.le_trans s16 m⟩, ⟨Nat.le_trans t2 (Nat.le_trans t3 m), strs_sz t5⟩, Nat.le_trans b2 (Nat.le_trans b3 m), l2⟩
set_option maxRecDepth 100000 in
theorem open_Fcts {H : Type} {enc : TypeId × Value → H} {w : World} {r : Reach} {b0 : Nat} {v : Value} {d : DataW H} {ps : List MemPlace} (hval : Value.okWide Tryz.prog w r b0 22 v) (hd : DataW.Trod enc Tryz.prog w 0 (fun _ => true) true 22 v d ps) :
  ∃ (l : List Fct) (p : Option Addr) (c : Nat), v = .slice p l.length c ∧ SlAt (lkW w) 23 (fctP w) p l := by
 obtain ⟨l, p, c, rfl, _, _, _, h⟩ := open_slice (sz := 23) Tryz.underlying22 (by kernel_rfl) (by decide) opn_Fct hval hd
 exact ⟨l, p, c, rfl, h⟩
end Go.Proofs.YtfobdgoklnhebaaGreatDoor
