/- Contracts and plain laws for the proof; no claim of its own. -/
import Derived.Test.YtgplckfjbdnedaaDoorWireGr
import Derived.Laws.BytesString
import Derived.Lib.Hide
namespace Go.Proofs
open Go.RowKit Go.Shelf
attribute [local go_sem] Oper.semAt_some
open _root_.Wire

theorem Tryd.groups_stops (F : Fence) (n : Nat) (h25 : F.fn 40) (hro : F.round = none) (hn : 1 ≤ n) (Bz n₀ z : Nat) (hz : z < 9223372036854775808) (w : World) (hBz : Bz < w.heap.size)
    (hc : w.cell? ⟨Bz, 0, none⟩ = some (.int .u64 z)) :
    SeqStopsK F n Tryd.prog 40 #[.pointer (some ⟨Bz, 0, none⟩)] (fun x : Int => #[Value.int .u8 x]) (Below n₀) (fun ys => ys = lebI 9 z) (fun pre => pre <+: lebI 9 z) (lebI 9 z).length w := fun l J Jx W hW _ _ hY h0 =>
  Tryd.groups_in F n h25 hro hn l Bz n₀ z hz J Jx hY W ((hW.cell (p := ⟨Bz, 0, none⟩) hBz).trans hc) h0

theorem Tryd.groupsf_in (F : Fence) (n : Nat) (h23 : F.fn 33) (hro : F.round = none) (z : Int) (w : World) :
    CallsIn F n Tryd.prog 33 #[.int .u64 z] w fun e w' => e = .returned (.func (.func 40) #[] #[.pointer (some ⟨w.heap.size, 0, none⟩)]) ∧ w' = w.alloc (.cells #[.int .u64 z] 56) := by
  refine callsIn_of_wp Tryd.func33 rfl h23 ?_ hro
  simp only [Tryd.ntmps33, List.size_toArray, List.length_cons, List.length_nil, Nat.reduceAdd, Nat.reduceSub, Array.replicate_succ, Array.replicate_zero, List.push_toArray, List.append_toArray, List.nil_append, List.cons_append]
  gi_wp2
  go_ret
  exact ⟨rfl, rfl⟩

def padTo (xs : List Int) : Array Value := ⟨(xs.map (Value.int .u8)) ++ List.replicate (10 - xs.length) (.int .u8 0)⟩

theorem heap_kept {A B : World} {k : Nat} {c : Array Value} {t : TypeId} {fz : Nat × Nat} {row : Option Nat} (h : A.heap[k]? = some (.cells c t fz)) (hg : A.grownBy B row) (hr : ∀ r, row = some r → ∃ o : Obj, A.heap[r]? = some o ∧ o.isCells = false) : B.heap[k]? = some (.cells c t fz) := by
  have hlt : k < A.heap.size := (Array.getElem?_eq_some_iff.1 h).1
  rw [hg.block k hlt (fun e => by
    obtain ⟨o, ho, hc⟩ := hr k e.symm
    rw [h] at ho; cases ho; cases hc)]
  exact h

theorem lebI_len (z : Nat) : (lebI 9 z).length ≤ 10 := by have := leb_len 9 z; simpa [lebI] using this

theorem cells_at {W : World} {b : Nat} {pre : List Int} (hA : W.heap[b]? = some (.cells (padTo pre) 57)) (hC : W.heap[b + 1]? = some (.cells #[.int .i64 pre.length] 3)) (hlt : pre.length < 10) :
    W.cell? ⟨b, pre.length, none⟩ = some (.int .u8 0) ∧ W.frozen? ⟨b, pre.length, none⟩ = false ∧ W.cell? ⟨b + 1, 0, none⟩ = some (.int .i64 pre.length) ∧ W.frozen? ⟨b + 1, 0, none⟩ = false := by
  refine ⟨?_, ?_, ?_, ?_⟩
  · simp only [World.cell?, hA, padTo]
    simp
    rw [List.getElem?_append_right (by simp)]
    simp [List.getElem?_replicate]; omega
  · simp [World.frozen?, hA]
  · simp [World.cell?, hC]
  · simp [World.frozen?, hC]

theorem put_pad {W : World} {b : Nat} {pre : List Int} {y v : Int} (hA : W.heap[b]? = some (.cells (padTo pre) 57)) (hlt : pre.length < 10) :
    ((W.setCell ⟨b, pre.length, none⟩ (.int .u8 y)).setCell ⟨b + 1, 0, none⟩ (.int .i64 v)).heap[b]? = some (.cells (padTo (pre ++ [y])) 57) := by
  rw [Below.heap_setCell _ _ _ _ (by simp)]
  simp only [World.setCell, Array.getElem?_modify, if_pos, hA, Option.map_some]
  congr 2
  apply Array.toList_inj.1
  simp only [padTo, Option.isSome_none, Bool.false_eq_true, if_false, Array.toList_setIfInBounds]
  have h10 : 10 - pre.length = (10 - (pre ++ [y]).length) + 1 := by simp; omega
  rw [h10, List.replicate_succ]
  rw [List.set_append_right _ _ (by simp)]
  simp

theorem put_cnt {W : World} {b : Nat} {o : Nat} {y : Int} {pre : List Int} (hC : W.heap[b + 1]? = some (.cells #[.int .i64 pre.length] 3)) :
    ((W.setCell ⟨b, o, none⟩ (.int .u8 y)).setCell ⟨b + 1, 0, none⟩ (.int .i64 ((pre.length : Int) + 1))).heap[b + 1]? = some (.cells #[.int .i64 (pre ++ [y]).length] 3) := by
  have : (W.setCell ⟨b, o, none⟩ (.int .u8 y)).heap[b + 1]? = some (.cells #[.int .i64 pre.length] 3) := by rw [Below.heap_setCell _ _ _ _ (by simp)]; exact hC
  simp only [World.setCell, Array.getElem?_modify, if_pos] at this ⊢
  rw [this]
  simp

theorem load_pad {P : Program} {W : World} {b : Nat} {xs : List Int} (hA : W.heap[b]? = some (.cells (padTo xs) 57)) (_ : xs.length ≤ 10) :
    (loadCells ⟨b, 0, none⟩ xs.length).run P W = .ok (xs.map (Value.int .u8)).toArray W := by
  have := run_loadCells_list (P := P) (w := W) ⟨b, 0, none⟩ (xs.map (Value.int .u8)) (fun j v hj => by
    have hadd : (⟨b, 0, none⟩ : Addr).add j = ⟨b, j, none⟩ := by unfold Addr.add; split <;> simp_all
    rw [hadd]
    simp only [World.cell?, hA, padTo]
    have hlt : j < (xs.map (Value.int .u8)).length := (List.getElem?_eq_some_iff.1 hj).1
    simp only [Option.isSome_none, Bool.false_eq_true, if_false]
    rw [show (⟨xs.map (Value.int .u8) ++ List.replicate (10 - xs.length) (.int .u8 0)⟩ : Array Value)[j]? = (xs.map (Value.int .u8) ++ List.replicate (10 - xs.length) (.int .u8 0))[j]? by simp]
    rw [List.getElem?_append_left hlt]; exact hj)
  simpa using this

theorem foldl_leb (f z : Nat) : (lebI f z).foldl (fun r n => r.push (UInt8.ofNat n.toNat)) ByteArray.empty = ⟨((leb f z).map UInt8.ofNat).toArray⟩ := by
  have key : ∀ (l : List Nat) (r : ByteArray), (l.map Int.ofNat).foldl (fun r n => r.push (UInt8.ofNat n.toNat)) r = ⟨(r.data.toList ++ l.map UInt8.ofNat).toArray⟩ := by
    intro l
    induction l with
    | nil => intro r; simp
    | cons b l ih =>
      intro r
      simp only [List.map_cons, List.foldl_cons]
      rw [ih]
      congr 1
      simp
  unfold lebI
  rw [key]; rfl

theorem slice10 (W : World) (b m : Nat) (h : m ≤ 10) : (Instr.sliceAt 57 (.pointer (some ⟨b, 0, none⟩)) none (some (.int .i64 (m : Int))) none).run Tryd.prog W = .ok (.slice (some ⟨b, 0, none⟩) m 10) W := by
  have hb : (Instr.sliceBound (.int .i64 (m : Int)) 10 .sliceAlen).run Tryd.prog W = .ok m W := by
    have := run_sliceBound (P := Tryd.prog) W .i64 (m : Int) 10 .sliceAlen (by omega) (by omega)
    simpa using this
  simp only [Instr.sliceAt, Sem.run_bind, run_underlying (P := Tryd.prog) (t := 57) (d := .array 10 5) (by kernel_rfl), Result.andThen_ok, Instr.sureAddr, Instr.sliceBounds, Sem.run_pure]
  have hsz : (sizeOf 5).run Tryd.prog W = .ok 1 W := by kernel_rfl
  simp only [Bool.false_eq_true, if_false, hb, Result.andThen_ok, hsz]
  rfl

theorem conv10 (W : World) (b m : Nat) (s : ByteArray) (h : (Conv.bytesToString (.slice (some ⟨b, 0, none⟩) m 10)).run Tryd.prog W = .ok (.string s) W) : (convert 38 9 (.slice (some ⟨b, 0, none⟩) m 10)).run Tryd.prog W = .ok (.string s) W := by
  simp only [convert, Sem.run_bind, run_underlying (P := Tryd.prog) (t := 38) (d := .slice 5) (by kernel_rfl), run_underlying (P := Tryd.prog) (t := 9) (d := .string) (by kernel_rfl), run_underlying (P := Tryd.prog) (t := 5) (d := .int .u8) (by kernel_rfl), Result.andThen_ok, h]

set_option maxRecDepth 100000 in
set_option maxHeartbeats 2000000 in
theorem Tryd.PutInt_in (F : Fence) (n : Nat) (h12 : F.fn 18) (h23 : F.fn 33) (h25 : F.fn 40) (hro : F.round = none) (hn : 3 ≤ n) (x : Int) (hx0 : -4611686018427387903 ≤ x) (hx1 : x ≤ 4611686018427387903) (w : World) :
    CallsIn F n Tryd.prog 18 #[.int .i64 x] w fun e W' => e = .returned (.tuple #[.string (⟨((leb 9 (zig x)).map UInt8.ofNat).toArray⟩), .int .i64 0]) ∧ Below w.heap.size w W' := by
  have h1 : 1 ≤ n := by omega
  obtain ⟨z, hzd⟩ : ∃ z : Nat, z = zig x := ⟨_, rfl⟩
  have hz : z < 9223372036854775808 := by rw [hzd]; unfold zig; split <;> omega
  rw [← hzd]
  refine callsIn_of_wp_marks Tryd.func18 rfl h12 ?_ hro
  simp only [Tryd.ntmps18, List.size_toArray, List.length_cons, List.length_nil, Nat.reduceAdd, Nat.reduceSub, Array.replicate_succ, Array.replicate_zero, List.push_toArray, List.append_toArray, List.nil_append, List.cons_append]
  by_cases hneg : x < 0
  · gi_wp2_with (gi_at_call 33; refine (Tryd.groupsf_in F (n - 1) h23 hro _ _).mono ?_; rintro e w' ⟨rfl, rfl⟩)

    have hzi : 2 * -x - 1 = (z : Int) := by rw [hzd]; unfold zig; rw [if_pos hneg]; omega
    have hlen : (lebI 9 z).length ≤ 10 := lebI_len z
    obtain ⟨w1, hw1⟩ : ∃ w1, (((w.alloc (.cells #[.int .u8 0, .int .u8 0, .int .u8 0, .int .u8 0, .int .u8 0, .int .u8 0, .int .u8 0, .int .u8 0, .int .u8 0, .int .u8 0] 57)).alloc (.cells #[.int .i64 0] 3)).alloc (.cells #[.int .u64 (2 * -x - 1)] 56)) = w1 := ⟨_, rfl⟩
    have hB0 : Below w.heap.size w w1 := by rw [← hw1]; exact (((Below.refl _ w).alloc (Nat.le_refl _) _).alloc (by simp) _).alloc (by simp; omega) _
    have hs1 : w1.heap.size = w.heap.size + 3 := by rw [← hw1]; simp
    have ha : w1.heap[w.heap.size]? = some (.cells (padTo []) 57) := by rw [← hw1]; exact (Below.heap_alloc _ _ _ (by simp; omega)).trans ((Below.heap_alloc _ _ _ (by simp)).trans (World.alloc_heap_new w _))
    have hb : w1.heap[w.heap.size + 1]? = some (.cells #[.int .i64 0] 3) := by rw [← hw1]; exact (Below.heap_alloc _ _ _ (by simp)).trans (by have := World.alloc_heap_new (w.alloc (.cells #[.int .u8 0, .int .u8 0, .int .u8 0, .int .u8 0, .int .u8 0, .int .u8 0, .int .u8 0, .int .u8 0, .int .u8 0, .int .u8 0] 57)) (.cells #[.int .i64 0] 3); simpa using this)
    have hc : w1.cell? ⟨w.heap.size + 1 + 1, 0, none⟩ = some (.int .u64 z) := by
      have := World.alloc_heap_new ((w.alloc (.cells #[.int .u8 0, .int .u8 0, .int .u8 0, .int .u8 0, .int .u8 0, .int .u8 0, .int .u8 0, .int .u8 0, .int .u8 0, .int .u8 0] 57)).alloc (.cells #[.int .i64 0] 3)) (.cells #[.int .u64 (2 * -x - 1)] 56)
      simp only [World.size_alloc] at this
      rw [hw1] at this
      simp [World.cell?, this, hzi]
    rw [hw1]
    clear hw1 hzi hzd
    refine wpIn_rangeFunc_ownF hro h1 (gf := 40) (lb := #[.pointer (some ⟨w.heap.size + 1 + 1, 0, none⟩)]) rfl h25 (enters_of Tryd.func40 (by kernel_rfl) rfl)
      (Tryd.groups_stops F (n - 1) h25 hro (by omega) (w.heap.size + 1 + 1) w.heap.size z hz w1 (by omega) hc) belowK_t (belowK_b (by omega)) (Below.refl _ _) (fun _ => rfl)
      (fun pre W => (pre.length ≤ 10 ∧ W.heap[w.heap.size]? = some (.cells (padTo pre) 57) ∧ W.heap[w.heap.size + 1]? = some (.cells #[.int .i64 pre.length] 3)) ∧ Below w.heap.size w W)
      (fun _ _ _ => False)
      (OwnFrom.and (Own.from (fun s A B row hs hg hr => ⟨hs.1, heap_kept hs.2.1 hg hr, heap_kept hs.2.2 hg hr⟩) _) (ownFrom_below (Nat.le_refl _) (by omega)))
      (fun _ _ _ _ _ hs _ _ => hs)
      ⟨⟨by simp, ha, hb⟩, hB0⟩
      (fun y => { tmps := #[.int .i64 x, undef, .string ⟨#[]⟩, .int .i64 0, .int .u64 (2 * -x - 1), .pointer (some ⟨w.heap.size, 0, none⟩), .pointer (some ⟨w.heap.size + 1, 0, none⟩), .int .u8 y, .int .i64 x, .bool (decide (x < -4611686018427387903)), .bool (decide (x < -4611686018427387903)), .int .i64 x, .bool (decide (4611686018427387903 < x)), .bool (decide (x < -4611686018427387903) || decide (4611686018427387903 < x)), .int .i64 x, .int .u64 (IntKind.u64.wrap x), .int .u64 (IntKind.u64.wrap (2 * IntKind.u64.wrap x)), .int .i64 x, .bool true, .int .i64 x, .int .i64 (-x), .int .u64 (-x), .int .u64 (2 * -x), .int .u64 (2 * -x - 1), .int .u64 (2 * -x - 1), .func (.func 40) #[] #[.pointer (some ⟨w.heap.size + 1 + 1, 0, none⟩)], .int .u8 y, undef, undef, undef, undef, undef, undef, undef, undef], defers := [] }) ?assign ?body ?done ?stop
    case assign =>
      intro l y W K hK
      gi_wp2
      exact hK
    case body =>
      rintro l pre y W ⟨⟨hp, hA, hC⟩, hB⟩ hlt
      have hlt' : pre.length < 10 := by omega
      obtain ⟨hcA, hfA, hcC, hfC⟩ := cells_at hA hC hlt'
      have hi : ((pre.length : Int)).toNat = pre.length := rfl
      have HA := Lib.hid hA
      have HC := Lib.hid hC
      clear hA hC
      gi_wp2
      exact ⟨(KeepsOthers.setCell _ _ _).trans (KeepsOthers.setCell _ _ _), ((Below.refl w.heap.size W).setCell (p := ⟨w.heap.size, pre.length, none⟩) (Nat.le_refl _) _).setCell (p := ⟨w.heap.size + 1, 0, none⟩) (by simp) _,
        ⟨by simp; omega, put_pad HA.out hlt', put_cnt HC.out⟩, (hB.setCell (p := ⟨w.heap.size, pre.length, none⟩) (Nat.le_refl _) _).setCell (p := ⟨w.heap.size + 1, 0, none⟩) (by simp) _⟩
    case done =>
      rintro D ys W hD rfl ⟨⟨hp, hA, hC⟩, hB⟩ hK
      have hcC : W.cell? ⟨w.heap.size + 1, 0, none⟩ = some (.int .i64 (lebI 9 z).length) := by simp [World.cell?, hC]
      have hld := load_pad (P := Tryd.prog) hA hp
      have hst := run_bytesToString (P := Tryd.prog) W ⟨w.heap.size, 0, none⟩ (lebI 9 z).length 10 (lebI 9 z) hld
      rw [foldl_leb] at hst
      have hsl := slice10 W w.heap.size (lebI 9 z).length hp
      have hcv := conv10 W w.heap.size (lebI 9 z).length _ hst
      clear hld hst hA hC hp hlen
      gi_wp2
      refine ⟨by simp, .inl ⟨_, _, rfl, run_takeDeferred hK, ?_⟩⟩
      exact ⟨_, results_tmp2 rfl _ _ _, rfl, hB.trans (belowK_b (w := w) (Nat.le_refl _) W D _ _ (by omega) hK rfl rfl)⟩
    case stop =>
      rintro D c pre W _ _ h _
      exact h.elim
  · gi_wp2_with (gi_at_call 33; refine (Tryd.groupsf_in F (n - 1) h23 hro _ _).mono ?_; rintro e w' ⟨rfl, rfl⟩)

    have hzi : 2 * x = (z : Int) := by rw [hzd]; unfold zig; rw [if_neg (by omega)]; omega
    have hlen : (lebI 9 z).length ≤ 10 := lebI_len z
    obtain ⟨w1, hw1⟩ : ∃ w1, (((w.alloc (.cells #[.int .u8 0, .int .u8 0, .int .u8 0, .int .u8 0, .int .u8 0, .int .u8 0, .int .u8 0, .int .u8 0, .int .u8 0, .int .u8 0] 57)).alloc (.cells #[.int .i64 0] 3)).alloc (.cells #[.int .u64 (2 * x)] 56)) = w1 := ⟨_, rfl⟩
    have hB0 : Below w.heap.size w w1 := by rw [← hw1]; exact (((Below.refl _ w).alloc (Nat.le_refl _) _).alloc (by simp) _).alloc (by simp; omega) _
    have hs1 : w1.heap.size = w.heap.size + 3 := by rw [← hw1]; simp
    have ha : w1.heap[w.heap.size]? = some (.cells (padTo []) 57) := by rw [← hw1]; exact (Below.heap_alloc _ _ _ (by simp; omega)).trans ((Below.heap_alloc _ _ _ (by simp)).trans (World.alloc_heap_new w _))
    have hb : w1.heap[w.heap.size + 1]? = some (.cells #[.int .i64 0] 3) := by rw [← hw1]; exact (Below.heap_alloc _ _ _ (by simp)).trans (by have := World.alloc_heap_new (w.alloc (.cells #[.int .u8 0, .int .u8 0, .int .u8 0, .int .u8 0, .int .u8 0, .int .u8 0, .int .u8 0, .int .u8 0, .int .u8 0, .int .u8 0] 57)) (.cells #[.int .i64 0] 3); simpa using this)
    have hc : w1.cell? ⟨w.heap.size + 1 + 1, 0, none⟩ = some (.int .u64 z) := by
      have := World.alloc_heap_new ((w.alloc (.cells #[.int .u8 0, .int .u8 0, .int .u8 0, .int .u8 0, .int .u8 0, .int .u8 0, .int .u8 0, .int .u8 0, .int .u8 0, .int .u8 0] 57)).alloc (.cells #[.int .i64 0] 3)) (.cells #[.int .u64 (2 * x)] 56)
      simp only [World.size_alloc] at this
      rw [hw1] at this
      simp [World.cell?, this, hzi]
    rw [hw1]
    clear hw1 hzi hzd
    refine wpIn_rangeFunc_ownF hro h1 (gf := 40) (lb := #[.pointer (some ⟨w.heap.size + 1 + 1, 0, none⟩)]) rfl h25 (enters_of Tryd.func40 (by kernel_rfl) rfl)
      (Tryd.groups_stops F (n - 1) h25 hro (by omega) (w.heap.size + 1 + 1) w.heap.size z hz w1 (by omega) hc) belowK_t (belowK_b (by omega)) (Below.refl _ _) (fun _ => rfl)
      (fun pre W => (pre.length ≤ 10 ∧ W.heap[w.heap.size]? = some (.cells (padTo pre) 57) ∧ W.heap[w.heap.size + 1]? = some (.cells #[.int .i64 pre.length] 3)) ∧ Below w.heap.size w W)
      (fun _ _ _ => False)
      (OwnFrom.and (Own.from (fun s A B row hs hg hr => ⟨hs.1, heap_kept hs.2.1 hg hr, heap_kept hs.2.2 hg hr⟩) _) (ownFrom_below (Nat.le_refl _) (by omega)))
      (fun _ _ _ _ _ hs _ _ => hs)
      ⟨⟨by simp, ha, hb⟩, hB0⟩
      (fun y => { tmps := #[.int .i64 x, undef, .string ⟨#[]⟩, .int .i64 0, .int .u64 (2 * x), .pointer (some ⟨w.heap.size, 0, none⟩), .pointer (some ⟨w.heap.size + 1, 0, none⟩), .int .u8 y, .int .i64 x, .bool (decide (x < -4611686018427387903)), .bool (decide (x < -4611686018427387903)), .int .i64 x, .bool (decide (4611686018427387903 < x)), .bool (decide (x < -4611686018427387903) || decide (4611686018427387903 < x)), .int .i64 x, .int .u64 x, .int .u64 (2 * x), .int .i64 x, .bool false, undef, undef, undef, undef, undef, .int .u64 (2 * x), .func (.func 40) #[] #[.pointer (some ⟨w.heap.size + 1 + 1, 0, none⟩)], .int .u8 y, undef, undef, undef, undef, undef, undef, undef, undef], defers := [] }) ?assign ?body ?done ?stop
    case assign =>
      intro l y W K hK
      gi_wp2
      exact hK
    case body =>
      rintro l pre y W ⟨⟨hp, hA, hC⟩, hB⟩ hlt
      have hlt' : pre.length < 10 := by omega
      obtain ⟨hcA, hfA, hcC, hfC⟩ := cells_at hA hC hlt'
      have hi : ((pre.length : Int)).toNat = pre.length := rfl
      have HA := Lib.hid hA
      have HC := Lib.hid hC
      clear hA hC
      gi_wp2
      exact ⟨(KeepsOthers.setCell _ _ _).trans (KeepsOthers.setCell _ _ _), ((Below.refl w.heap.size W).setCell (p := ⟨w.heap.size, pre.length, none⟩) (Nat.le_refl _) _).setCell (p := ⟨w.heap.size + 1, 0, none⟩) (by simp) _,
        ⟨by simp; omega, put_pad HA.out hlt', put_cnt HC.out⟩, (hB.setCell (p := ⟨w.heap.size, pre.length, none⟩) (Nat.le_refl _) _).setCell (p := ⟨w.heap.size + 1, 0, none⟩) (by simp) _⟩
    case done =>
      rintro D ys W hD rfl ⟨⟨hp, hA, hC⟩, hB⟩ hK
      have hcC : W.cell? ⟨w.heap.size + 1, 0, none⟩ = some (.int .i64 (lebI 9 z).length) := by simp [World.cell?, hC]
      have hld := load_pad (P := Tryd.prog) hA hp
      have hst := run_bytesToString (P := Tryd.prog) W ⟨w.heap.size, 0, none⟩ (lebI 9 z).length 10 (lebI 9 z) hld
      rw [foldl_leb] at hst
      have hsl := slice10 W w.heap.size (lebI 9 z).length hp
      have hcv := conv10 W w.heap.size (lebI 9 z).length _ hst
      clear hld hst hA hC hp hlen
      gi_wp2
      refine ⟨by simp, .inl ⟨_, _, rfl, run_takeDeferred hK, ?_⟩⟩
      exact ⟨_, results_tmp2 rfl _ _ _, rfl, hB.trans (belowK_b (w := w) (Nat.le_refl _) W D _ _ (by omega) hK rfl rfl)⟩
    case stop =>
      rintro D c pre W _ _ h _
      exact h.elim
end Go.Proofs
