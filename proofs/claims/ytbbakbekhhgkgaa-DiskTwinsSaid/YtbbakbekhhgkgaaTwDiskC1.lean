/- Contracts and plain laws for the proof; no claim of its own. -/
import Derived.Test.YtbbakbekhhgkgaaTwDiskSpec
import Derived.Test.YtbbakbekhhgkgaaTwEngD1
namespace Go.Eng
open Go Go.RowKit Go.Proofs

abbrev DRep (D : Nat) (d : DS) (F : SHeap) : Prop := DRepT 54 5 56 D d F
abbrev DP (D : Nat) : Value := .pointer (some ⟨D, 0, none⟩)
/-- What a method answers, and the disk behind it. -/
def DRes (D : Nat) (v : Value) (d : DS) : Value → SHeap → Prop := fun u F => u = v ∧ DRep D d F

theorem i64b {x : Int} (h : -9223372036854775808 ≤ x ∧ x ≤ 9223372036854775807) : IntKind.i64.wrap x = x := wi64 h

theorem Size_e {D : Nat} {d : DS} {F : SHeap} (h : DRep D d F) : EffC Try.prog 15 ⟨[DP D]⟩ F (DRes D (.int .i64 d.vis.length) d) := by
  obtain ⟨hd, DB, VB, ⟨hp, rfl⟩ | ⟨PB, pc, r, h1, h2, rfl⟩⟩ := h <;> intro W hm
  · refine SizeN_vc D _ _ DB _ VB _ _ hm ?_
    rintro _ rfl
    exact DK.fin ⟨rfl, hd, DB, VB, .inl ⟨hp, rfl⟩⟩
  · refine SizeR_vc D _ _ DB _ VB _ _ PB _ pc _ hm ?_
    rintro _ rfl
    exact DK.fin ⟨rfl, hd, DB, VB, .inr ⟨PB, pc, r, h1, h2, rfl⟩⟩

theorem Pending_e {D : Nat} {d : DS} {F : SHeap} (h : DRep D d F) : EffC Try.prog 16 ⟨[DP D]⟩ F (DRes D (.int .i64 d.pend.length) d) := by
  obtain ⟨hd, DB, VB, ⟨hp, rfl⟩ | ⟨PB, pc, r, h1, h2, rfl⟩⟩ := h <;> intro W hm
  · refine PendingN_vc D _ _ DB _ VB _ _ hm ?_
    exact DK.fin ⟨by rw [hp]; rfl, hd, DB, VB, .inl ⟨hp, rfl⟩⟩
  · refine PendingR_vc D _ _ DB _ VB _ _ PB _ pc _ hm ?_
    rintro _ rfl
    exact DK.fin ⟨rfl, hd, DB, VB, .inr ⟨PB, pc, r, h1, h2, rfl⟩⟩

theorem Cut_e {D : Nat} {d : DS} {F : SHeap} (h : DRep D d F) {n : Int} (hn : n ≤ 9223372036854775807) : EffC Try.prog 20 ⟨[DP D, .int .i64 n]⟩ F (DRes D (.int .i64 (d.cutAt n).1) (d.cutAt n).2) := by
  have hk := DOk.cutAt h.1 hn
  unfold DS.cutAt at hk ⊢
  obtain ⟨hd, DB, VB, ⟨hp, rfl⟩ | ⟨PB, pc, r, h1, h2, rfl⟩⟩ := h <;> intro W hm
  · refine CutN_vc D _ _ DB _ VB _ _ n hm ?_
    have := hd.pos
    rintro _ rfl
    refine ⟨fun h => absurd h (by omega), fun _ => ⟨fun hon => ?_, fun hon => ?_⟩⟩
    · rw [if_neg (by simp [hon])] at hk ⊢
      refine ⟨fun hneg => ?_, fun hneg => ⟨fun h0 => ?_, fun h0 => ?_⟩⟩
      · rw [if_pos hneg]; exact DK.fin ⟨rfl, hd, DB, VB, .inl ⟨hp, rfl⟩⟩
      · rw [if_neg hneg, if_pos h0] at hk ⊢
        exact DK.fin ⟨rfl, hk, DB, VB, .inl ⟨hp, rfl⟩⟩
      · rw [if_neg hneg, if_neg h0] at hk ⊢
        refine DK.fin ⟨rfl, hk, DB, VB, .inl ⟨hp, ?_⟩⟩
        simp only [Int.toNat_of_nonneg (Int.not_lt.1 hneg)]
    · rw [if_pos hon]; exact DK.fin ⟨rfl, hd, DB, VB, .inl ⟨hp, rfl⟩⟩
  · refine CutR_vc D _ _ DB _ VB _ _ PB _ pc _ n hm ?_
    have := hd.pos
    rintro _ rfl
    refine ⟨fun h => absurd h (by omega), fun _ => ⟨fun hon => ?_, fun hon => ?_⟩⟩
    · rw [if_neg (by simp [hon])] at hk ⊢
      refine ⟨fun hneg => ?_, fun hneg => ⟨fun h0 => ?_, fun h0 => ?_⟩⟩
      · rw [if_pos hneg]; exact DK.fin ⟨rfl, hd, DB, VB, .inr ⟨PB, pc, r, h1, h2, rfl⟩⟩
      · rw [if_neg hneg, if_pos h0] at hk ⊢
        exact DK.fin ⟨rfl, hk, DB, VB, .inr ⟨PB, pc, r, h1, h2, rfl⟩⟩
      · rw [if_neg hneg, if_neg h0] at hk ⊢
        refine DK.fin ⟨rfl, hk, DB, VB, .inr ⟨PB, pc, r, h1, h2, ?_⟩⟩
        simp only [Int.toNat_of_nonneg (Int.not_lt.1 hneg)]
    · rw [if_pos hon]; exact DK.fin ⟨rfl, hd, DB, VB, .inr ⟨PB, pc, r, h1, h2, rfl⟩⟩

theorem ite_dec {α : Type} {p : Prop} [Decidable p] (h : p) {a b : α} : (if p then a else b) = a := if_pos h

theorem read_bytes {d : DS} {off n : Int} (h : 0 ≤ off ∧ 0 ≤ n ∧ off + n ≤ d.vis.length) {o : Nat} (ho : o = (if off.toNat = d.vis.length then 0 else 0 + off.toNat * 1)) :
    (((bytesL d.vis).drop o).take ((off + n).toNat - off.toNat) = bytesL ((d.vis.drop off.toNat).take n.toNat) ∧ ((d.vis.drop off.toNat).take n.toNat).length = (off + n).toNat - off.toNat) := by
  have e : (off + n).toNat - off.toNat = n.toNat := by omega
  rw [e]
  constructor
  · by_cases hc : off.toNat = d.vis.length
    · have : n.toNat = 0 := by omega
      simp [this, bytesL]
    · rw [if_neg hc] at ho
      rw [ho]; simp [bytesL]
  · simp; omega

theorem Read_e {D : Nat} {d : DS} {F : SHeap} (h : DRep D d F) {off n : Int} (ho : -9223372036854775808 ≤ off ∧ off ≤ 9223372036854775807) :
    EffC Try.prog 13 ⟨[DP D, .int .i64 off, .int .i64 n]⟩ F (DRes D (.tuple #[.string (d.read off n).1, .int .i64 (d.read off n).2]) d) := by
  unfold DS.read
  have hpos := h.1.pos
  have hle := h.1.le
  have key : ∀ L, DRep D d L → ∀ S W, ((d.on = true) → ¬ (0 ≤ off ∧ 0 ≤ n ∧ off + n ≤ d.vis.length) → Fin (fun e W' => ∃ v L', e = .returned v ∧ Mem L' S W W' ∧ DRes D (.tuple #[.string (if d.on = false then (⟨#[]⟩, 231) else if 0 ≤ off ∧ 0 ≤ n ∧ off + n ≤ d.vis.length then (⟨((d.vis.drop off.toNat).take n.toNat).toArray⟩, 0) else (⟨#[]⟩, 230) : ByteArray × Int).1, .int .i64 (if d.on = false then (⟨#[]⟩, 231) else if 0 ≤ off ∧ 0 ≤ n ∧ off + n ≤ d.vis.length then (⟨((d.vis.drop off.toNat).take n.toNat).toArray⟩, 0) else (⟨#[]⟩, 230) : ByteArray × Int).2]) d v L') L S W (.tuple #[.string (⟨#[]⟩), .int .i64 (230 : Int)])) ∧
      ((d.on = false) → Fin (fun e W' => ∃ v L', e = .returned v ∧ Mem L' S W W' ∧ DRes D (.tuple #[.string (if d.on = false then (⟨#[]⟩, 231) else if 0 ≤ off ∧ 0 ≤ n ∧ off + n ≤ d.vis.length then (⟨((d.vis.drop off.toNat).take n.toNat).toArray⟩, 0) else (⟨#[]⟩, 230) : ByteArray × Int).1, .int .i64 (if d.on = false then (⟨#[]⟩, 231) else if 0 ≤ off ∧ 0 ≤ n ∧ off + n ≤ d.vis.length then (⟨((d.vis.drop off.toNat).take n.toNat).toArray⟩, 0) else (⟨#[]⟩, 230) : ByteArray × Int).2]) d v L') L S W (.tuple #[.string (⟨#[]⟩), .int .i64 (231 : Int)])) := by
    intro L hL S W
    refine ⟨fun hon hb => DK.fin ?_, fun hon => DK.fin ?_⟩
    · rw [if_neg (by simp [hon]), if_neg hb]; exact ⟨rfl, hL⟩
    · rw [if_pos hon]; exact ⟨rfl, hL⟩
  obtain ⟨hd, DB, VB, ⟨hp, rfl⟩ | ⟨PB, pc, r, h1, h2, rfl⟩⟩ := h <;> intro W hm
  · have hR : DRep D d _ := ⟨hd, DB, VB, .inl ⟨hp, rfl⟩⟩
    have k2 := key _ hR (List.map (·.1) [hdr 54 D DB VB d.vis.length d.on d.cut (.slice none 0 0), (DB, .cells ⟨bytesL d.dur⟩ 5), (VB, .cells ⟨bytesL d.vis⟩ 5)]) W
    refine ReadN_vc D _ _ DB _ VB _ _ off n hm ?_
    rintro _ rfl
    refine ⟨fun h => absurd h (by omega), fun _ => ⟨fun hon => ⟨fun h0 => ⟨fun hn => ?_, fun hn => k2.1 hon (by omega)⟩, fun h0 => k2.1 hon (by omega)⟩, fun hon => k2.2 hon⟩⟩
    rintro _ rfl
    refine ⟨fun hle => ?_, fun hle => k2.1 hon (by omega)⟩
    rintro _ rfl
    rw [wi64 (by omega)]
    refine ⟨fun hb => k2.1 hon (by omega), fun hb => ?_⟩
    rw [wi64 (by omega)]
    refine ⟨by omega, ?_⟩
    intro o ho'
    refine ⟨_, read_bytes ⟨h0, hn, by omega⟩ ho', ?_⟩
    rintro _ rfl
    refine DK.fin ?_
    rw [if_neg (by simp [hon]), if_pos ⟨h0, hn, by omega⟩]
    exact ⟨rfl, hR⟩
  · have hR : DRep D d _ := ⟨hd, DB, VB, .inr ⟨PB, pc, r, h1, h2, rfl⟩⟩
    have k2 := key _ hR (List.map (·.1) [hdr 54 D DB VB d.vis.length d.on d.cut (.slice (some ⟨PB, 0, none⟩) d.pend.length pc), (DB, .cells ⟨bytesL d.dur⟩ 5), (VB, .cells ⟨bytesL d.vis⟩ 5), (PB, .cells ⟨pendCells d.pend ++ r⟩ 56)]) W
    refine ReadR_vc D _ _ DB _ VB _ _ PB _ pc _ off n hm ?_
    rintro _ rfl
    refine ⟨fun h => absurd h (by omega), fun _ => ⟨fun hon => ⟨fun h0 => ⟨fun hn => ?_, fun hn => k2.1 hon (by omega)⟩, fun h0 => k2.1 hon (by omega)⟩, fun hon => k2.2 hon⟩⟩
    rintro _ rfl
    refine ⟨fun hle => ?_, fun hle => k2.1 hon (by omega)⟩
    rintro _ rfl
    rw [wi64 (by omega)]
    refine ⟨fun hb => k2.1 hon (by omega), fun hb => ?_⟩
    rw [wi64 (by omega)]
    refine ⟨by omega, ?_⟩
    intro o ho'
    refine ⟨_, read_bytes ⟨h0, hn, by omega⟩ ho', ?_⟩
    rintro _ rfl
    refine DK.fin ?_
    rw [if_neg (by simp [hon]), if_pos ⟨h0, hn, by omega⟩]
    exact ⟨rfl, hR⟩

theorem sync_dur {d : DS} (hd : DOk d) : over (bytesL d.dur) 0 (((bytesL d.vis).drop 0).take (min d.vis.length d.vis.length)) = bytesL d.vis := by
  rw [Nat.min_self, List.drop_zero, List.take_of_length_le (by rw [bytesL_length]; exact Nat.le_refl _), bytesL_ovr, ovr_all hd.len]

theorem forget_len {l : List (Nat × ByteArray)} {r : List Value} {pc : Nat} (h : (pendCells l ++ r).length = pc * 2) :
    (pendCells [] ++ over (pendCells l ++ r) 0 (noughtL #[.int .i64 (0 : Int), .string (⟨#[]⟩)] l.length)).length = pc * 2 := by
  have e : pendCells [] = [] := rfl
  have hn : (noughtL #[.int .i64 (0 : Int), .string (⟨#[]⟩)] l.length).length = l.length * 2 := noughtL_len _ _
  have hp := pendCells_len l
  rw [List.length_append] at h
  rw [e, List.nil_append, over_length (by rw [hn, List.length_append]; omega), List.length_append, h]

theorem Sync_e {D : Nat} {d : DS} {F : SHeap} (h : DRep D d F) : EffC Try.prog 19 ⟨[DP D]⟩ F (DRes D (.int .i64 d.sync.1) d.sync.2) := by
  have hk := DOk.sync h.1
  unfold DS.sync at hk ⊢
  have hpos := h.1.pos
  have hl : (((bytesL d.vis).drop 0).take (min d.vis.length d.vis.length)).length = min d.vis.length d.vis.length := by
    rw [List.length_take, List.drop_zero, bytesL_length]; omega
  have ho : ∀ u ∈ (((bytesL d.vis).drop 0).take (min d.vis.length d.vis.length)), u.oneCell' = true := fun u hu => bytesL_one _ u (List.mem_of_mem_drop (List.mem_of_mem_take hu))
  have hb : 0 + (((bytesL d.vis).drop 0).take (min d.vis.length d.vis.length)).length ≤ (bytesL d.dur).length := by rw [hl, bytesL_length, h.1.len]; omega
  obtain ⟨hd, DB, VB, ⟨hp, rfl⟩ | ⟨PB, pc, r, h1, h2, rfl⟩⟩ := h <;> intro W hm
  · refine SyncN_vc D _ _ DB _ VB _ _ hm ?_
    rintro _ rfl
    refine ⟨fun h => absurd h (by omega), fun _ => ⟨fun hon => ⟨hl, ho, hb, ?_⟩, fun hon => ?_⟩⟩
    · rw [if_neg (by simp [hon])] at hk ⊢
      rw [sync_dur hd]
      exact DK.fin ⟨rfl, hk, DB, VB, .inl ⟨rfl, rfl⟩⟩
    · rw [if_pos hon]; exact DK.fin ⟨rfl, hd, DB, VB, .inl ⟨hp, rfl⟩⟩
  · refine SyncR_vc D _ _ DB _ VB _ _ PB _ pc _ hm ?_
    rintro _ rfl
    refine ⟨fun h => absurd h (by omega), fun _ => ⟨fun hon => ⟨hl, ho, hb, by rw [List.length_append, pendCells_len]; omega, by omega, ?_⟩, fun hon => ?_⟩⟩
    · rw [if_neg (by simp [hon])] at hk ⊢
      rw [sync_dur hd]
      refine DK.fin ⟨rfl, hk, DB, VB, .inr ⟨PB, pc, _, Nat.zero_le _, ?_, rfl⟩⟩
      exact forget_len h2
    · rw [if_pos hon]; exact DK.fin ⟨rfl, hd, DB, VB, .inr ⟨PB, pc, r, h1, h2, rfl⟩⟩
end Go.Eng
