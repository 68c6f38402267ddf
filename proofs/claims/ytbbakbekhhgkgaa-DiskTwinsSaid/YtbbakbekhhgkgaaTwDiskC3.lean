/- Contracts and plain laws for the proof; no claim of its own. -/
import Derived.Test.YtbbakbekhhgkgaaTwDiskC2
import Derived.Test.YtbbakbekhhgkgaaTwEngD2
namespace Go.Eng
open Go Go.RowKit Go.Proofs
set_option linter.unusedVariables false

/-- The numbers that a slice holds, in memory that is not turned. -/
def KeepAt (S : List Nat) (W : World) (p : Option Addr) (ks : List Int) : Prop :=
  0 < ks.length → ∃ (b o : Nat) (c : List Value), p = some ⟨b, o, none⟩ ∧ b ∉ S ∧ blkW W b = some c ∧ ∀ i (h : i < ks.length), c[o + i]? = some (.int .i64 ks[i])

theorem crashR0 {D DB VB PB B : Nat} {torn : Int} {p pc n : Nat} {on : Bool} {cut : Int} {dur vis pd : List Value} {S : List Nat} {w0 : World} {R : Ending → World → Prop} {ks : List Int} (hk : ks.length < 4611686018427387904)
    {kp : Option Addr} (hkp : KeepAt S w0 kp ks) {kc : Nat} {svF : List Bool} {lastF : Int}
    (H : CrashR_c1 D DB VB PB B torn p p lastF p pc (p : Int) (0 : Int) on cut n n n n p pc dur vis pd (svF.map .bool) S w0 R) :
    ∀ (g i : Nat) (sv : List Bool) (last : Int), g + i = ks.length → sv.length = p → keepGo p (ks.drop i) sv last = (svF, lastF) →
      CrashR_c0 D DB VB PB B torn p p last kp ks.length kc (ks.length : Int) (i : Int) on cut n n n n p pc dur vis pd (sv.map .bool) S w0 R
  | 0, i, sv, last, hg, hs, hf => by
    apply CrashR_c0_vc
    refine ⟨fun h => absurd h (by omega), fun _ => ?_⟩
    rw [List.drop_of_length_le (by omega)] at hf
    simp only [keepGo, Prod.mk.injEq] at hf
    obtain ⟨rfl, rfl⟩ := hf
    exact H
  | g + 1, i, sv, last, hg, hs, hf => by
    apply CrashR_c0_vc
    refine ⟨fun _ => ?_, fun h => absurd (by omega) h⟩
    obtain ⟨b, o, c, rfl, hb, hw, hc⟩ := hkp (by omega)
    refine ⟨b, o, rfl, by omega, c, ks[i], hb, hw, by rw [Int.toNat_natCast]; exact hc i (by omega), ?_⟩
    rw [List.drop_eq_getElem_cons (by omega), keepGo] at hf
    rw [wi64 (by omega), show (i : Int) + 1 = ((i + 1 : Nat) : Int) by omega]
    refine ⟨fun h0 => ⟨fun h1 => ?_, fun h1 => ?_⟩, fun h0 => ?_⟩
    · rw [if_pos ⟨h0, h1⟩] at hf
      refine ⟨⟨h0, h1⟩, by rw [List.length_map]; omega, ?_⟩
      rintro _ rfl
      have := crashR0 hk hkp (kc := kc) H g (i + 1) (sv.set ks[i].toNat true) (if ks[i] > last then ks[i] else last) (by omega) (by rw [List.length_set, hs]) hf
      rw [List.map_set] at this
      exact this
    · rw [if_neg (fun h => h1 h.2)] at hf
      exact crashR0 hk hkp H g (i + 1) sv last (by omega) hs hf
    · rw [if_neg (fun h => h0 h.1)] at hf
      exact crashR0 hk hkp H g (i + 1) sv last (by omega) hs hf

theorem crash_copy {b s : List UInt8} {o n : Nat} (hn : b.length = n) (h : o + s.length ≤ n) {x : Nat} (hx : x = (if (o : Int).toNat = n then 0 else 0 + (o : Int).toNat * 1)) :
    x + (n - (o : Int).toNat) ≤ (bytesL b).length ∧ over (bytesL b) x (bytesL (s.take (n - (o : Int).toNat))) = bytesL (ovr b o s) := by
  rw [Int.toNat_natCast] at hx ⊢
  rw [List.take_of_length_le (by omega), bytesL_length]
  by_cases hc : o = n
  · rw [if_pos hc] at hx
    have hs : s = [] := List.eq_nil_of_length_eq_zero (by omega)
    subst hx hs
    exact ⟨by omega, by rw [bytesL_ovr, ovr_nil, ovr_nil]⟩
  · rw [if_neg hc] at hx
    rw [show x = o by omega]
    exact ⟨by omega, bytesL_ovr _ _ _⟩

theorem extract_torn {s : ByteArray} {torn : Int} (h : 0 ≤ torn ∧ torn ≤ s.size) : (s.extract 0 torn.toNat).data.toList = (bts s).take torn.toNat := by
  have : (s.extract 0 torn.toNat).data = s.data.extract 0 torn.toNat := by simp
  rw [this]; simp

theorem crashR1 {D DB VB PB B : Nat} {torn last : Int} {pc n : Nat} {on : Bool} {cut : Int} {vis r : List Value} {S : List Nat} {w0 : World} {R : Ending → World → Prop} {pend : List (Nat × ByteArray)} (hpl : pend.length < 4611686018427387904)
    (hp : ∀ q ∈ pend, q.1 + q.2.size ≤ n) (hv : vis.length = n) (hpc : (pendCells pend ++ r).length = pc * 2) {sv : List Bool} (hs : sv.length = pend.length) {bF : List UInt8}
    (H : Fin R [(D, .cells #[.bool true, .int .i64 (0 : Int), .slice (some ⟨DB, 0, none⟩) n n, .slice (some ⟨VB, 0, none⟩) n n, .slice (some ⟨PB, 0, none⟩) 0 pc] 54), (DB, .cells ⟨bytesL bF⟩ 5), (VB, .cells ⟨bytesL bF⟩ 5),
      (PB, .cells ⟨over (pendCells pend ++ r) 0 (noughtL #[.int .i64 (0 : Int), .string (⟨#[]⟩)] pend.length)⟩ 56), (B, .cells ⟨sv.map .bool⟩ 4)] S w0 (.int .i64 (0 : Int))) (hpp : pend.length ≤ pc) :
    ∀ (g i : Nat) (b : List UInt8), g + i = pend.length → b.length = n → crashGo last torn sv i (pend.drop i) b = bF →
      CrashR_c1 D DB VB PB B torn pend.length pend.length last pend.length pc (pend.length : Int) (i : Int) on cut n n n n pend.length pc (bytesL b) vis (pendCells pend ++ r) (sv.map .bool) S w0 R
  | 0, i, b, hg, hb, hf => by
    apply CrashR_c1_vc
    refine ⟨fun h => absurd h (by omega), fun _ => ?_⟩
    rw [List.drop_of_length_le (by omega), crashGo] at hf
    subst hf
    have ht : ((bytesL b).drop 0).take (min n n) = bytesL b := by rw [List.drop_zero, Nat.min_self, List.take_of_length_le (by rw [bytesL_length]; omega)]
    rw [ht, over_ovr vis, ovr_all (by rw [bytesL_length]; omega)]
    have := pendCells_len pend
    exact ⟨by rw [bytesL_length]; omega, bytesL_one _, by rw [bytesL_length]; omega, by rw [List.length_append]; omega, by omega, H⟩
  | g + 1, i, b, hg, hb, hf => by
    apply CrashR_c1_vc
    refine ⟨fun _ => ⟨by omega, ?_⟩, fun h => absurd (by omega) h⟩
    have hi : i < pend.length := by omega
    have hlen := pendCells_len pend
    have hat := pendCells_at pend i hi
    rw [Int.toNat_natCast]
    refine ⟨(pend[i].1 : Int), pend[i].2, ⟨?_, by rw [List.length_append]; omega⟩, fun B11 => ⟨by omega, sv[i], ?_, ?_⟩⟩
    · rw [List.drop_append_of_le_length (by omega), List.take_append_of_le_length (by rw [List.length_drop]; omega)]
      exact hat
    · rw [List.getElem?_map, List.getElem?_eq_getElem (by omega), Option.map_some]
    have hq := hp pend[i] (List.getElem_mem hi)
    rw [List.drop_eq_getElem_cons hi] at hf
    rcases hqe : pend[i] with ⟨o, s⟩
    rw [hqe] at hf hq
    simp only at hf hq ⊢
    rw [crashGo] at hf
    have hsz := bts_len s
    have hget : sv.getD i false = sv[i] := by rw [List.getD_eq_getElem?_getD, List.getElem?_eq_getElem (by omega), Option.getD_some]
    rw [hget] at hf
    rw [wi64 (by omega), show (i : Int) + 1 = ((i + 1 : Nat) : Int) by omega]
    have go := fun (b' : List UInt8) (hb' : b'.length = n) (hf' : crashGo last torn sv (i + 1) (pend.drop (i + 1)) b' = bF) => crashR1 (on := on) (cut := cut) (torn := torn) (last := last) hpl hp hv hpc hs H hpp g (i + 1) b' (by omega) hb' hf'
    refine ⟨fun h1 => ?_, fun h1 => ?_⟩
    · rw [if_pos h1] at hf
      have hall : ¬ ((i : Int) = last ∧ 0 ≤ torn ∧ torn < s.size) → (0 ≤ (o : Int) ∧ (o : Int) ≤ (n : Int) ∧ (n : Int) ≤ (n : Int)) ∧
            ∀ x : Nat, x = (if (Int.toNat (o : Int)) = n then 0 else 0 + (Int.toNat (o : Int)) * 1) →
            (x + (n - (Int.toNat (o : Int))) ≤ (bytesL b).length) ∧
            CrashR_c1 D DB VB PB B torn pend.length pend.length last pend.length pc (pend.length : Int) ((i + 1 : Nat) : Int) on cut n n n n pend.length pc (over (bytesL b) x (bytesL (s.data.toList.take (n - (Int.toNat (o : Int)))))) vis (pendCells pend ++ r) (sv.map .bool) S w0 R := by
        intro hc
        refine ⟨by omega, fun x hx => ?_⟩
        obtain ⟨e1, e2⟩ := crash_copy (s := bts s) hb (by omega) hx
        refine ⟨e1, ?_⟩
        rw [e2]
        rw [tornD, if_neg hc] at hf
        exact go _ (by rw [ovr_len (by omega), hb]) hf
      refine ⟨fun h2 => ⟨fun h3 => ⟨fun h4 => ⟨by omega, by omega, fun x hx => ?_⟩, fun h4 => hall (fun h => h4 h.2.2)⟩, fun h3 => hall (fun h => h3 h.2.1)⟩, fun h2 => hall (fun h => h2 h.1)⟩
      rw [tornD, if_pos ⟨h2, h3, h4⟩] at hf
      rw [extract_torn ⟨h3, by omega⟩]
      have htl : ((bts s).take torn.toNat).length ≤ s.size := by rw [List.length_take]; omega
      obtain ⟨e1, e2⟩ := crash_copy (s := (bts s).take torn.toNat) hb (by omega) hx
      refine ⟨e1, ?_⟩
      rw [e2]
      exact go _ (by rw [ovr_len (by omega), hb]) hf
    · rw [if_neg (by simp [h1])] at hf
      exact go _ hb hf

theorem crashN1 {D DB VB B : Nat} {torn last : Int} {n : Nat} {on : Bool} {cut : Int} {vis : List Value} {sl sc : Nat} {S : List Nat} {w0 : World} {R : Ending → World → Prop} (hv : vis.length = n) {sv : List Value} {b : List UInt8} (hb : b.length = n)
    (H : Fin R [(D, .cells #[.bool true, .int .i64 (0 : Int), .slice (some ⟨DB, 0, none⟩) n n, .slice (some ⟨VB, 0, none⟩) n n, .slice none 0 0] 54), (DB, .cells ⟨bytesL b⟩ 5), (VB, .cells ⟨bytesL b⟩ 5), (B, .cells ⟨sv⟩ 4)] S w0 (.int .i64 (0 : Int))) :
    CrashN_c1 D DB VB B torn sl sc last (0 : Int) (0 : Int) on cut n n n n (bytesL b) vis sv S w0 R := by
  apply CrashN_c1_vc
  refine ⟨fun h => absurd h (by omega), fun _ => ?_⟩
  have ht : ((bytesL b).drop 0).take (min n n) = bytesL b := by rw [List.drop_zero, Nat.min_self, List.take_of_length_le (by rw [bytesL_length]; omega)]
  rw [ht, over_ovr vis, ovr_all (by rw [bytesL_length]; omega)]
  exact ⟨by rw [bytesL_length]; omega, bytesL_one _, by rw [bytesL_length]; omega, H⟩

theorem crashN0 {D DB VB B : Nat} {torn : Int} {n : Nat} {on : Bool} {cut : Int} {vis : List Value} {S : List Nat} {w0 : World} {R : Ending → World → Prop} (hv : vis.length = n) {sv : List Value} {b : List UInt8} (hb : b.length = n)
    {ks : List Int} (hk : ks.length < 4611686018427387904) {kp : Option Addr} (hkp : KeepAt S w0 kp ks) {kc : Nat}
    (H : Fin R [(D, .cells #[.bool true, .int .i64 (0 : Int), .slice (some ⟨DB, 0, none⟩) n n, .slice (some ⟨VB, 0, none⟩) n n, .slice none 0 0] 54), (DB, .cells ⟨bytesL b⟩ 5), (VB, .cells ⟨bytesL b⟩ 5), (B, .cells ⟨sv⟩ 4)] S w0 (.int .i64 (0 : Int))) :
    ∀ (g i : Nat) (last : Int), g + i = ks.length → CrashN_c0 D DB VB B torn 0 0 last kp ks.length kc (ks.length : Int) (i : Int) on cut n n n n (bytesL b) vis sv S w0 R
  | 0, i, last, hg => by
    apply CrashN_c0_vc
    exact ⟨fun h => absurd h (by omega), fun _ => crashN1 hv hb H⟩
  | g + 1, i, last, hg => by
    apply CrashN_c0_vc
    refine ⟨fun _ => ?_, fun h => absurd (by omega) h⟩
    obtain ⟨b', o, c, rfl, hb', hw, hc⟩ := hkp (by omega)
    refine ⟨b', o, rfl, by omega, c, ks[i], hb', hw, by rw [Int.toNat_natCast]; exact hc i (by omega), ?_⟩
    rw [wi64 (by omega), show (i : Int) + 1 = ((i + 1 : Nat) : Int) by omega]
    exact ⟨fun h0 => ⟨fun h1 => absurd h1 (by omega), fun _ => crashN0 hv hb hk hkp H g (i + 1) last (by omega)⟩, fun _ => crashN0 hv hb hk hkp H g (i + 1) last (by omega)⟩

theorem Crash_e {D : Nat} {d : DS} {F : SHeap} (h : DRep D d F) (hlen : d.pend.length < 2000000) {kp : Option Addr} {kc : Nat} {ks : List Int} (hk : ks.length < 4611686018427387904) (torn : Int) :
    EffP Try.prog 21 ⟨[DP D, .slice kp ks.length kc, .int .i64 torn]⟩ F (fun W => KeepAt (F.map (·.1)) W kp ks) (DRes D (.int .i64 0) (d.crash ks torn)) := by
  have hcr := DOk.crash h.1 ks torn
  have hcl := crashed_len h.1 ks torn
  have hpos := h.1.pos
  have hle := h.1.le
  obtain ⟨hd, DB, VB, ⟨hp, rfl⟩ | ⟨PB, pc, r, h1, h2, rfl⟩⟩ := h <;> intro W hm hkp
  · refine CrashN_vc D _ _ DB _ VB _ _ kp _ kc torn hm ?_
    rintro _ rfl
    refine ⟨fun h => absurd h (by omega), fun _ => ⟨by omega, fun B => ?_⟩⟩
    have he : d.crashed ks torn = d.dur := by unfold DS.crashed; rw [hp]; rfl
    refine crashN0 (by rw [bytesL_length]) hd.len hk hkp ?_ ks.length 0 (-1) (by omega)
    refine DK.fin' [0, 1, 2] rfl ⟨rfl, hcr, DB, VB, .inl ⟨rfl, ?_⟩⟩
    simp only [DS.crash, he, hd.len]
    rfl
  · refine CrashR_vc D _ _ DB _ VB _ _ PB _ pc _ kp _ kc torn hm ?_
    rintro _ rfl
    refine ⟨fun h => absurd h (by omega), fun _ => ⟨by omega, fun B => ?_⟩⟩
    rcases hkg : keepGo d.pend.length ks (List.replicate d.pend.length false) (-1) with ⟨svF, lastF⟩
    have hsl : svF.length = d.pend.length := by
      have := keepGo_len d.pend.length ks (List.replicate d.pend.length false) (-1)
      rw [hkg, List.length_replicate] at this
      exact this
    have he : d.crashed ks torn = crashGo lastF torn svF 0 d.pend d.dur := by unfold DS.crashed; rw [hkg]
    rw [Int.toNat_natCast]
    have hrep : (List.replicate d.pend.length (.bool false) : List Value) = (List.replicate d.pend.length false).map .bool := by rw [List.map_replicate]
    rw [hrep]
    refine crashR0 hk hkp (svF := svF) (lastF := lastF) ?_ ks.length 0 _ (-1) (by omega) (by rw [List.length_replicate]) (by rw [List.drop_zero]; exact hkg)
    refine crashR1 (by omega) (fun q hq => hd.pend q hq) (by rw [bytesL_length]) h2 hsl (bF := d.crashed ks torn) ?_ h1 d.pend.length 0 d.dur (by omega) hd.len (by rw [List.drop_zero, he])
    refine DK.fin' [0, 1, 2, 3] rfl ⟨rfl, hcr, DB, VB, .inr ⟨PB, pc, over (pendCells d.pend ++ r) 0 (noughtL #[.int .i64 (0 : Int), .string (⟨#[]⟩)] d.pend.length), Nat.zero_le _, forget_len h2, ?_⟩⟩
    simp only [DS.crash, hcl]
    rfl
end Go.Eng
