/- Contracts and plain laws for the proof; no claim of its own. -/
import Derived.Test.YtbbakbekhhgkgaaTwDiskC4
import Derived.Test.YtbbakbekhhgkgaaTwEngCase
namespace Go.Eng
open Go Go.RowKit Go.Proofs

def DS.new (n : Nat) : DS := { on := true, cut := 0, dur := List.replicate n 0, vis := List.replicate n 0, pend := [] }
theorem bytesL_zero (n : Nat) : (List.replicate n (.int .u8 0) : List Value) = bytesL (List.replicate n 0) := by simp [bytesL]

theorem New_e {n : Int} {N : Nat} (hN : n = N) (h1 : 1 ≤ N) (h2 : N ≤ 4194304) : EffC Try.prog 12 ⟨[.int .i64 n]⟩ [] (fun v L' => ∃ D, v = .tuple #[DP D, .int .i64 0] ∧ DRep D (DS.new N) L') := by
  subst hN
  intro W hm
  refine New_vc _ hm ?_
  refine no (by omega) (no (by omega) ⟨by omega, fun B => ⟨by omega, fun B1 B2 => ?_⟩⟩)
  rw [Int.toNat_natCast, bytesL_zero]
  refine DK.fin' [2, 0, 1] rfl ⟨B2, rfl, ⟨rfl, ?_, ?_, ?_, ?_⟩, B, B1, .inl ⟨rfl, ?_⟩⟩
  · simp [DS.new]; omega
  · simp [DS.new]; omega
  · simp [DS.new]
  · intro p hp; cases hp
  · simp only [DS.new, List.length_replicate]; rfl

theorem New_bad {n : Int} (h : n < 1 ∨ 4194304 < n) : PureC Try.prog 12 ⟨[.int .i64 n]⟩ (.tuple #[.pointer none, .int .i64 2]) := by
  intro W
  refine New_vc _ (Mem.start [] W) ?_
  by_cases h1 : n < 1
  · exact yes h1 (finPure rfl)
  · exact no h1 (yes (by omega) (finPure rfl))

section
variable {P : Program} {g : FuncId} {args : Array Value} {F : SHeap} {S : List Nat} {w0 : World} {D : Nat} {v : Value} {d : DS} {K : Value → SHeap → Prop} {x y z : Nat × Obj}

theorem CallH.new0 {n : Int} {N : Nat} (hN : n = N) (h1 : 1 ≤ N) (h2 : N ≤ 4194304) (hK : ∀ D F', DRep D (DS.new N) F' → K (.tuple #[DP D, .int .i64 0]) F') : CallH Try.prog 12 ⟨[.int .i64 n]⟩ [] S w0 K :=
  CallH.eff (L1 := []) (New_e hN h1 h2) (by simp) fun v' L' hk => ⟨L', by simp, by obtain ⟨D, rfl, hr⟩ := hk; exact hK D _ hr⟩
theorem CallH.newF {n : Int} {N : Nat} (hN : n = N) (h1 : 1 ≤ N) (h2 : N ≤ 4194304) (hK : ∀ D F', DRep D (DS.new N) F' → K (.tuple #[DP D, .int .i64 0]) (F' ++ F)) : CallH Try.prog 12 ⟨[.int .i64 n]⟩ F S w0 K :=
  CallH.eff (L1 := F) (New_e hN h1 h2) (by simp) fun v' L' hk => ⟨L' ++ F, by simp, by obtain ⟨D, rfl, hr⟩ := hk; exact hK D _ hr⟩

theorem CallH.d0 (h : EffC P g args F (DRes D v d)) (hK : ∀ F', DRep D d F' → K v F') : CallH P g args F S w0 K :=
  CallH.eff (L1 := []) h (by simp) fun v' L' hk => ⟨L', by simp, by obtain ⟨rfl, hr⟩ := hk; exact hK _ hr⟩
theorem CallH.d1 (h : EffC P g args F (DRes D v d)) (hK : ∀ F', DRep D d F' → K v (x :: F')) : CallH P g args (x :: F) S w0 K :=
  CallH.eff (L1 := [x]) h (List.perm_append_comm (l₁ := F) (l₂ := [x])) fun v' L' hk => ⟨x :: L', List.perm_append_comm (l₁ := L') (l₂ := [x]), by obtain ⟨rfl, hr⟩ := hk; exact hK _ hr⟩
theorem CallH.d2 (h : EffC P g args F (DRes D v d)) (hK : ∀ F', DRep D d F' → K v (x :: y :: F')) : CallH P g args (x :: y :: F) S w0 K :=
  CallH.eff (L1 := [x, y]) h (List.perm_append_comm (l₁ := F) (l₂ := [x, y])) fun v' L' hk => ⟨x :: y :: L', List.perm_append_comm (l₁ := L') (l₂ := [x, y]), by obtain ⟨rfl, hr⟩ := hk; exact hK _ hr⟩
theorem CallH.d3 (h : EffC P g args F (DRes D v d)) (hK : ∀ F', DRep D d F' → K v (x :: y :: z :: F')) : CallH P g args (x :: y :: z :: F) S w0 K :=
  CallH.eff (L1 := [x, y, z]) h (List.perm_append_comm (l₁ := F) (l₂ := [x, y, z])) fun v' L' hk => ⟨x :: y :: z :: L', List.perm_append_comm (l₁ := L') (l₂ := [x, y, z]), by obtain ⟨rfl, hr⟩ := hk; exact hK _ hr⟩
theorem CallH.dp {Pre : World → Prop} {told : SHeap} (h : EffP P g args F Pre (DRes D v d)) (hp : ∀ W, Mem (told ++ F) S w0 W → Pre W) (hK : ∀ F', DRep D d F' → K v (told ++ F')) : CallH P g args (told ++ F) S w0 K :=
  CallH.effP (L1 := told) h hp List.perm_append_comm fun v' L' hk => ⟨told ++ L', List.perm_append_comm, by obtain ⟨rfl, hr⟩ := hk; exact hK _ hr⟩
/-- The row of bytes b is told second (or first), the rest is left. -/
theorem CallH.put1 {B n off : Nat} {s : ByteArray} (hb : off + s.size ≤ n) (hn : n ≤ 4194304) {l : List UInt8} (hl : l.length = n) (hK : K (.tuple #[]) ((B, .cells ⟨bytesL (ovr l off (bts s))⟩ 5) :: F)) :
    CallH Try.prog 23 ⟨[.slice (some ⟨B, 0, none⟩) n n, .int .i64 off, .string s]⟩ ((B, .cells ⟨bytesL l⟩ 5) :: F) S w0 K :=
  CallH.eff (L1 := F) (put_e hb hn hl) (by simp) fun v' L' hk => ⟨(B, .cells ⟨bytesL (ovr l off (bts s))⟩ 5) :: F, by obtain ⟨rfl, rfl⟩ := hk; simp, by obtain ⟨rfl, rfl⟩ := hk; exact hK⟩
theorem CallH.put2 {B n off : Nat} {s : ByteArray} (hb : off + s.size ≤ n) (hn : n ≤ 4194304) {l : List UInt8} (hl : l.length = n) (hK : K (.tuple #[]) (x :: (B, .cells ⟨bytesL (ovr l off (bts s))⟩ 5) :: F)) :
    CallH Try.prog 23 ⟨[.slice (some ⟨B, 0, none⟩) n n, .int .i64 off, .string s]⟩ (x :: (B, .cells ⟨bytesL l⟩ 5) :: F) S w0 K :=
  CallH.eff (L1 := x :: F) (put_e hb hn hl) (List.Perm.swap _ _ _) fun v' L' hk => ⟨x :: (B, .cells ⟨bytesL (ovr l off (bts s))⟩ 5) :: F, by obtain ⟨rfl, rfl⟩ := hk; exact List.Perm.swap _ _ _, by obtain ⟨rfl, rfl⟩ := hk; exact hK⟩
end

theorem keep_own {B T : Nat} {c : List Value} {told F : SHeap} {S : List Nat} {w0 W : World} (hm : Mem (told ++ F) S w0 W) (hin : (B, Obj.cells ⟨c⟩ T) ∈ told) {ks : List Int} (hc : ∀ i (h : i < ks.length), c[i]? = some (.int .i64 ks[i])) :
    KeepAt (F.map (·.1)) W (some ⟨B, 0, none⟩) ks := by
  intro _
  refine ⟨B, 0, c, rfl, ?_, ?_, fun i hi => by rw [Nat.zero_add]; exact hc i hi⟩
  · have hnd := hm.nodup
    rw [List.map_append, List.nodup_append] at hnd
    intro hmem
    exact hnd.2.2 _ (List.mem_map_of_mem hin) _ hmem rfl
  · have := hm.here _ (List.mem_append_left F hin)
    simp only [blkW, this]
theorem keep_nil {S : List Nat} {W : World} {p : Option Addr} : KeepAt S W p [] := fun h => absurd h (by simp)

theorem sane_c : PureC Try.prog 11 ⟨[]⟩ (.bool true) := by
  intro W
  refine dsane_vc [] (Mem.start [] W) ?_
  refine CallH.new0 (N := 4) rfl (by decide) (by decide) fun D F h => ⟨_, _, _, rfl, rfl, ?_⟩
  refine CallH.pure (New_bad (by decide)) ⟨_, _, _, rfl, rfl, ?_⟩
  refine yes' rfl (isSome ?_)
  refine CallH.d0 (Write_e h (by decide)) fun F h => ⟨_, _, rfl, rfl, ?_⟩
  refine CallH.d0 (Write_e h (by decide)) fun F h => ⟨_, _, rfl, rfl, ?_⟩
  refine CallH.d0 (Write_e h (by decide)) fun F h => ⟨_, _, rfl, rfl, ?_⟩
  refine CallH.d0 (Read_e h (by decide)) fun F h => ⟨_, _, _, rfl, rfl, ?_⟩
  refine CallH.d0 (Pending_e h) fun F h => ⟨_, _, rfl, rfl, fun B => ?_⟩
  refine CallH.dp (told := [_]) (Crash_e (ks := [1, 0]) h (by decide) (by decide) 1) (fun W hm => keep_own hm (List.Mem.head _) (fun i hi => ?_)) fun F h => ⟨_, _, rfl, rfl, ?_⟩
  · match i, hi with
    | 0, _ => rfl
    | 1, _ => rfl
  refine CallH.d1 (Read_e h (by decide)) fun F h => ⟨_, _, _, rfl, rfl, ?_⟩
  refine CallH.d1 (Cut_e h (by decide)) fun F h => ⟨_, _, rfl, rfl, ?_⟩
  refine CallH.d1 (Write_e h (by decide)) fun F h => ⟨_, _, rfl, rfl, ?_⟩
  refine CallH.d1 (Sync_e h) fun F h => ⟨_, _, rfl, rfl, ?_⟩
  refine yes (by decide) (yes (by decide) (yes (by decide) (yes (by decide) (yes (by rfl) (yes (by decide) (yes (by decide) (yes (by rfl) (yes (by decide) (yes (by decide) (yes (by decide) (yes (by decide) ?_)))))))))))
  refine CallH.d1 (Size_e h) fun F h => ⟨_, _, rfl, rfl, ?_⟩
  exact finPure (by rw [decide_eq_true]; decide)
end Go.Eng
