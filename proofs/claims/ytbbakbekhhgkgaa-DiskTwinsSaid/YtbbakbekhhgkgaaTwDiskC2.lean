/- Contracts and plain laws for the proof; no claim of its own. -/
import Derived.Test.YtbbakbekhhgkgaaTwDiskC1
namespace Go.Eng
open Go Go.RowKit Go.Proofs

theorem write_vis {d : DS} {off : Int} {s : ByteArray} (h : 0 ≤ off ∧ off + s.size ≤ d.vis.length) {o : Nat} (ho : o = (if off.toNat = d.vis.length then 0 else 0 + off.toNat * 1)) :
    o + (d.vis.length - off.toNat) ≤ (bytesL d.vis).length ∧ over (bytesL d.vis) o (bytesL (s.data.toList.take (d.vis.length - off.toNat))) = bytesL (ovr d.vis off.toNat (bts s)) := by
  have hs : (bts s).length = s.size := bts_len s
  have ht : s.data.toList.take (d.vis.length - off.toNat) = bts s := List.take_of_length_le (by show (bts s).length ≤ _; omega)
  rw [ht, bytesL_length]
  by_cases hc : off.toNat = d.vis.length
  · rw [if_pos hc] at ho
    have h0 : s.size = 0 := by omega
    have hn : bts s = [] := List.eq_nil_of_length_eq_zero (by omega)
    subst ho
    refine ⟨by omega, ?_⟩
    rw [hn, ovr_nil, bytesL_ovr, ovr_nil]
  · rw [if_neg hc] at ho
    rw [show o = off.toNat by omega]
    exact ⟨by omega, bytesL_ovr _ _ _⟩

theorem Write_e {D : Nat} {d : DS} {F : SHeap} (h : DRep D d F) (hlen : d.pend.length < 1000000) {off : Int} {s : ByteArray} :
    EffC Try.prog 17 ⟨[DP D, .int .i64 off, .string s]⟩ F (DRes D (.int .i64 (d.write off s).1) (d.write off s).2) := by
  have hk := DOk.write h.1 off s
  unfold DS.write at hk ⊢
  have hpos := h.1.pos
  have hle := h.1.le
  have hcut := h.1.cut
  have bad : ∀ L, DRep D d L → ∀ S W, d.on = true → ¬ (0 ≤ off ∧ off + s.size ≤ d.vis.length) → Fin (fun e W' => ∃ v L', e = .returned v ∧ Mem L' S W W' ∧ DRes D (.int .i64 (if d.on = false then (231, d) else if 0 ≤ off ∧ off + s.size ≤ d.vis.length then (0, (d.put off.toNat s).spend) else (230, d) : Int × DS).1) (if d.on = false then (231, d) else if 0 ≤ off ∧ off + s.size ≤ d.vis.length then (0, (d.put off.toNat s).spend) else (230, d) : Int × DS).2 v L') L S W (.int .i64 (230 : Int)) := by
    intro L hL S W hon hb
    refine DK.fin ?_
    rw [if_neg (by simp [hon]), if_neg hb]; exact ⟨rfl, hL⟩
  obtain ⟨hd, DB, VB, ⟨hp, rfl⟩ | ⟨PB, pc, r, h1, h2, rfl⟩⟩ := h <;> intro W hm
  · have hR : DRep D d _ := ⟨hd, DB, VB, .inl ⟨hp, rfl⟩⟩
    have k2 := bad _ hR (List.map (·.1) [hdr 54 D DB VB d.vis.length d.on d.cut (.slice none 0 0), (DB, .cells ⟨bytesL d.dur⟩ 5), (VB, .cells ⟨bytesL d.vis⟩ 5)]) W
    refine WriteN_vc D _ _ DB _ VB _ _ off s hm ?_
    rintro _ rfl
    refine ⟨fun h => absurd h (by omega), fun _ => ⟨fun hon => ⟨fun h0 => ⟨fun _ => ?_, fun h => absurd (by omega) h⟩, fun h0 => k2 hon (by omega)⟩, fun hon => ?_⟩⟩
    · rintro _ rfl
      refine ⟨fun hs => ?_, fun hs => k2 hon (by omega)⟩
      rintro _ rfl
      rw [wi64 (by omega)]
      refine ⟨fun hb => k2 hon (by omega), fun hb => ?_⟩
      have hbb : 0 ≤ off ∧ off + s.size ≤ d.vis.length := by omega
      have ew : (if d.on = false then (231, d) else if 0 ≤ off ∧ off + s.size ≤ d.vis.length then (0, (d.put off.toNat s).spend) else (230, d) : Int × DS) = (0, (d.put off.toNat s).spend) := by
        rw [if_neg (by simp [hon]), if_pos hbb]
      rw [ew] at hk ⊢
      intro B B1 cap r1 hc1 hc2
      refine ⟨by omega, ?_⟩
      intro o ho
      obtain ⟨w1, w2⟩ := write_vis hbb ho
      rw [w2]
      refine ⟨w1, ?_⟩
      have hvl : (ovr d.vis off.toNat (bts s)).length = d.vis.length := ovr_len (by rw [bts_len]; omega)
      have hoff : ((off.toNat : Nat) : Int) = off := Int.toNat_of_nonneg h0
      have hpc : pendCells (d.pend ++ [(off.toNat, s)]) = [.int .i64 off, .string s] := by rw [hp]; simp [pendCells, hoff]
      have hpl : (d.pend ++ [(off.toNat, s)]).length = 1 := by rw [hp]; rfl
      unfold DS.spend DS.put at hk ⊢
      simp only at hk ⊢
      refine ⟨fun hc => ?_, fun hc => ⟨fun hc0 => ?_, fun hc0 => ?_⟩⟩
      · rw [if_pos (by omega)] at hk ⊢
        refine DK.fin' [0, 1, 2, 4] rfl ⟨rfl, hk, DB, VB, .inr ⟨B1, cap, r1, ?_, ?_, ?_⟩⟩ <;> simp only [hpc, hpl, hvl]
        · exact hc1
        · exact hc2
        · rfl
      · rw [wi64 (by omega)] at hc0
        rw [if_neg (by omega), if_pos (by omega)] at hk ⊢
        refine DK.fin' [0, 1, 2, 4] rfl ⟨rfl, hk, DB, VB, .inr ⟨B1, cap, r1, ?_, ?_, ?_⟩⟩ <;> simp only [hpc, hpl, hvl]
        · exact hc1
        · exact hc2
        · rfl
      · rw [wi64 (by omega)] at hc0
        rw [wi64 (by omega)]
        rw [if_neg (by omega), if_neg (by omega)] at hk ⊢
        refine DK.fin' [0, 1, 2, 4] rfl ⟨rfl, hk, DB, VB, .inr ⟨B1, cap, r1, ?_, ?_, ?_⟩⟩ <;> simp only [hpc, hpl, hvl]
        · exact hc1
        · exact hc2
        · rw [show ((d.cut : Int) - 1) = ((d.cut - 1 : Nat) : Int) by omega]; rfl
    · refine DK.fin ?_
      rw [if_pos hon]; exact ⟨rfl, hR⟩
  · have hR : DRep D d _ := ⟨hd, DB, VB, .inr ⟨PB, pc, r, h1, h2, rfl⟩⟩
    have k2 := bad _ hR (List.map (·.1) [hdr 54 D DB VB d.vis.length d.on d.cut (.slice (some ⟨PB, 0, none⟩) d.pend.length pc), (DB, .cells ⟨bytesL d.dur⟩ 5), (VB, .cells ⟨bytesL d.vis⟩ 5), (PB, .cells ⟨pendCells d.pend ++ r⟩ 56)]) W
    refine WriteR_vc D _ _ DB _ VB _ _ PB _ pc _ off s hm ?_
    rintro _ rfl
    refine ⟨fun h => absurd h (by omega), fun _ => ⟨fun hon => ⟨fun h0 => ⟨fun _ => ?_, fun h => absurd (by omega) h⟩, fun h0 => k2 hon (by omega)⟩, fun hon => ?_⟩⟩
    · rintro _ rfl
      refine ⟨fun hs => ?_, fun hs => k2 hon (by omega)⟩
      rintro _ rfl
      rw [wi64 (by omega)]
      refine ⟨fun hb => k2 hon (by omega), fun hb => ?_⟩
      have hbb : 0 ≤ off ∧ off + s.size ≤ d.vis.length := by omega
      have ew : (if d.on = false then (231, d) else if 0 ≤ off ∧ off + s.size ≤ d.vis.length then (0, (d.put off.toNat s).spend) else (230, d) : Int × DS) = (0, (d.put off.toNat s).spend) := by
        rw [if_neg (by simp [hon]), if_pos hbb]
      rw [ew] at hk ⊢
      intro B
      refine ⟨⟨h1, h2⟩, ⟨by omega, by omega⟩, ?_⟩
      intro B1 cap r1 hc1 hc2
      refine ⟨by omega, ?_⟩
      intro o ho
      obtain ⟨w1, w2⟩ := write_vis hbb ho
      rw [w2]
      refine ⟨w1, ?_⟩
      have hvl : (ovr d.vis off.toNat (bts s)).length = d.vis.length := ovr_len (by rw [bts_len]; omega)
      have hoff : ((off.toNat : Nat) : Int) = off := Int.toNat_of_nonneg h0
      have htk : (pendCells d.pend ++ r).take (d.pend.length * 2) = pendCells d.pend := List.take_left' (pendCells_len _)
      rw [htk] at hc2 ⊢
      have hpc : pendCells (d.pend ++ [(off.toNat, s)]) = pendCells d.pend ++ [.int .i64 off, .string s] := by rw [pendCells_append]; simp [pendCells, hoff]
      have hpl : (d.pend ++ [(off.toNat, s)]).length = d.pend.length + 1 := by simp
      unfold DS.spend DS.put at hk ⊢
      simp only at hk ⊢
      refine ⟨fun hc => ?_, fun hc => ⟨fun hc0 => ?_, fun hc0 => ?_⟩⟩
      · rw [if_pos (by omega)] at hk ⊢
        refine DK.fin' [0, 1, 2, 4] rfl ⟨rfl, hk, DB, VB, .inr ⟨B1, cap, r1, ?_, ?_, ?_⟩⟩ <;> simp only [hpc, hpl, hvl]
        · exact hc1
        · exact hc2
        · rfl
      · rw [wi64 (by omega)] at hc0
        rw [if_neg (by omega), if_pos (by omega)] at hk ⊢
        refine DK.fin' [0, 1, 2, 4] rfl ⟨rfl, hk, DB, VB, .inr ⟨B1, cap, r1, ?_, ?_, ?_⟩⟩ <;> simp only [hpc, hpl, hvl]
        · exact hc1
        · exact hc2
        · rfl
      · rw [wi64 (by omega)] at hc0
        rw [wi64 (by omega)]
        rw [if_neg (by omega), if_neg (by omega)] at hk ⊢
        refine DK.fin' [0, 1, 2, 4] rfl ⟨rfl, hk, DB, VB, .inr ⟨B1, cap, r1, ?_, ?_, ?_⟩⟩ <;> simp only [hpc, hpl, hvl]
        · exact hc1
        · exact hc2
        · rw [show ((d.cut : Int) - 1) = ((d.cut - 1 : Nat) : Int) by omega]; rfl
    · refine DK.fin ?_
      rw [if_pos hon]; exact ⟨rfl, hR⟩
end Go.Eng
