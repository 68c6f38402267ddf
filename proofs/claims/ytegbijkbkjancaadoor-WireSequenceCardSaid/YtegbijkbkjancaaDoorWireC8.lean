/- Contracts and plain laws for the proof; no claim of its own. -/
import Derived.Test.YtegbijkbkjancaaDoorWireC7
import Derived.Test.YtegbijkbkjancaaDoorEngOpen
import Derived.Test.YtegbijkbkjancaaDoorEngV5
namespace Go.Eng
open Go Go.RowKit Go.Proofs Wire

/-! ### WireSequence -/
def seqT (s : ByteArray) : ByteArray := s.extract 0 (min 100 s.size)
theorem seqT_size (s : ByteArray) : (seqT s).size ≤ 100 := by rw [seqT, clip_size (by omega)]; omega
def seqI (zs : List Int) (ss : List ByteArray) (i : Nat) : List UInt8 := enc (nf (zs.getD i 0)) ++ encS (bts (seqT (ss.getD i ⟨#[]⟩)))
def seqF (zs : List Int) (ss : List ByteArray) : Nat → List UInt8
  | 0 => []
  | i + 1 => seqF zs ss i ++ seqI zs ss i
theorem seqI_len (zs : List Int) (ss : List ByteArray) (i : Nat) : (seqI zs ss i).length ≤ 120 := by
  have h1 := enc_len (nf (zs.getD i 0))
  have h2 := enc_len ((bts (seqT (ss.getD i ⟨#[]⟩))).length : Int)
  have h3 := seqT_size (ss.getD i ⟨#[]⟩)
  rw [← bts_len] at h3
  rw [seqI, List.length_append, encS, List.length_append]; omega
theorem seqF_len (zs : List Int) (ss : List ByteArray) : ∀ i, (seqF zs ss i).length ≤ 120 * i
  | 0 => by simp [seqF]
  | i + 1 => by have := seqF_len zs ss i; have := seqI_len zs ss i; rw [seqF, List.length_append]; omega
theorem seqF_split (zs : List Int) (ss : List ByteArray) (i : Nat) : ∀ g, ∃ r, seqF zs ss (i + g) = seqF zs ss i ++ r
  | 0 => ⟨[], by simp⟩
  | g + 1 => by
    obtain ⟨r, hr⟩ := seqF_split zs ss i g
    exact ⟨r ++ seqI zs ss (i + g), by rw [← Nat.add_assoc, seqF, hr, List.append_assoc]⟩

theorem row_get {α : Type} {W : World} {p : Option Addr} {zs : List α} {f : α → Value} {i : Nat} (h : RowAt W p (zs.map f)) (hi : i < zs.length) :
    ∃ (b o : Nat) (c : List Value), p = some ⟨b, o, none⟩ ∧ blkW W b = some c ∧ c[o + i]? = some (f zs[i]) := by
  obtain ⟨b, o, c, h1, h2, h3⟩ := h (by rw [List.length_map]; omega)
  refine ⟨b, o, c, h1, h2, ?_⟩
  rw [h3 i (by rw [List.length_map]; exact hi), List.getElem?_map, List.getElem?_eq_getElem hi, Option.map_some]

theorem Seq_loop2 {zs : List Int} {ss : List ByteArray} (hz : ∀ z ∈ zs, i64 z) {w0 : World} {n : Nat} (hn : n ≤ zs.length) (hn2 : n ≤ ss.length) (hn3 : n ≤ 20) {s : ByteArray} (hs : bts s = seqF zs ss n) : ∀ (g i : Nat) (p q : Option Addr) (c c2 : Nat), g + i = n →
    RowAt w0 p (zs.map (.int .i64)) → RowAt w0 q (ss.map .string) →
    Sequence_c1 p zs.length c q ss.length c2 true (n : Int) s ((seqF zs ss i).length : Int) (i : Int) w0 (fun e W' => e = .returned (.bool true) ∧ Below w0.heap.size w0 W')
  | 0, i, p, q, c, c2, hg, hp, hq => by
    apply Sequence_c1_vc
    refine ⟨fun h => absurd h (by omega), fun _ => ?_⟩
    have hi : i = n := by omega
    subst hi
    have hl : s.size = (seqF zs ss i).length := by rw [← bts_len, hs]
    have hb := seqF_len zs ss i
    have ha : intAns s ((seqF zs ss i).length : Int) = .tuple #[.int .i64 0, .int .i64 0, .int .i64 10] := by
      rw [intAns_at (by omega), hs, List.drop_length]; rfl
    refine CallH.pure (Int_c _ _ (by omega)) ⟨_, _, _, ha, rfl, ?_⟩
    refine ⟨fun _ => ⟨fun _ => finPure rfl, fun h => absurd (by omega) h⟩, fun h => absurd h (by decide)⟩
  | g + 1, i, p, q, c, c2, hg, hp, hq => by
    apply Sequence_c1_vc
    obtain ⟨b, o, cc, rfl, hb, hc⟩ := row_get (i := i) hp (by omega)
    obtain ⟨b2, o2, cc2, rfl, hb2, hc2⟩ := row_get (i := i) hq (by omega)
    obtain ⟨z, hzd⟩ : ∃ z, z = zs[i] := ⟨_, rfl⟩
    obtain ⟨u, hu⟩ : ∃ u, u = ss[i] := ⟨_, rfl⟩
    rw [← hzd] at hc
    rw [← hu] at hc2
    have hzi : zs.getD i 0 = z := by rw [List.getD_eq_getElem?_getD, List.getElem?_eq_getElem (by omega), Option.getD_some, hzd]
    have hui : ss.getD i ⟨#[]⟩ = u := by rw [List.getD_eq_getElem?_getD, List.getElem?_eq_getElem (by omega), Option.getD_some, hu]
    have hiz : i64 z := hz z (by rw [hzd]; exact List.getElem_mem _)
    obtain ⟨r, hr⟩ := seqF_split zs ss (i + 1) g
    rw [show i + 1 + g = n by omega, ← hs, seqF, seqI, hzi, hui] at hr
    have hl : s.size = (seqF zs ss n).length := by rw [← bts_len, hs]
    have hbn := seqF_len zs ss n
    have hlen := congrArg List.length hr
    simp only [List.length_append, bts_len] at hlen
    have hT := seqT_size u
    rw [← bts_len] at hT
    have d1 : (bts s).drop (seqF zs ss i).length = enc (nf z) ++ (encS (bts (seqT u)) ++ r) := by
      rw [hr, List.append_assoc, List.append_assoc, List.drop_left]
    have d2 : (bts s).drop ((seqF zs ss i).length + (enc (nf z)).length) = encS (bts (seqT u)) ++ r := by
      rw [← List.drop_drop, d1, List.drop_left]
    have a1 : intAns s ((seqF zs ss i).length : Int) = .tuple #[.int .i64 (nf z), .int .i64 (((seqF zs ss i).length + (enc (nf z)).length : Nat) : Int), .int .i64 0] := by
      rw [intAns_at (by omega), d1, rdInt_enc (nf_ok z)]; rfl
    have a2 : strAns s (((seqF zs ss i).length + (enc (nf z)).length : Nat) : Int) = .tuple #[.string (seqT u), .int .i64 (((seqF zs ss i).length + (enc (nf z)).length + (encS (bts (seqT u))).length : Nat) : Int), .int .i64 0] := by
      rw [strAns_at (by omega), d2, rdStr_enc (by omega)]
      simp only [strRes, mk_bts]
    rw [Int.toNat_natCast]
    refine ⟨fun _ => ?_, fun h => absurd (by omega) h⟩
    refine CallH.pure (Int_c _ _ (by omega)) ⟨_, _, _, a1, rfl, ?_⟩
    refine CallH.pure (String_c _ _ (by omega)) ⟨_, _, _, a2, rfl, ?_⟩
    iterate 2 (refine ⟨fun h => absurd rfl h, fun _ => ?_⟩)
    refine ⟨b, o, rfl, by omega, cc, z, hb, hc, nf z, QCall.of (NumberFrom_c z hiz), fun h => absurd rfl h, fun _ => ?_⟩
    refine ⟨b2, o2, rfl, by omega, cc2, u, hb2, hc2, by omega, cc2, u, hb2, hc2, ?_⟩
    obtain ⟨m, hm, hm2⟩ := clip 100 (M := 100) rfl u
    rw [hm, Int.toNat_natCast]
    refine ⟨by omega, ?_⟩
    have hx : seqT u = u.extract 0 m := by rw [seqT, hm2]
    refine ⟨fun h => absurd hx h, fun _ => ?_⟩
    rintro k rfl
    have ei : IntKind.i64.wrap ((i : Int) + 1) = ((i + 1 : Nat) : Int) := by rw [wi64 (by omega)]; omega
    have el : (seqF zs ss i).length + (enc (nf z)).length + (encS (bts (seqT u))).length = (seqF zs ss (i + 1)).length := by
      rw [seqF, seqI, hzi, hui, List.length_append, List.length_append]; omega
    rw [ei, el]
    exact Seq_loop2 hz hn hn2 hn3 hs g (i + 1) _ _ c c2 (by omega) hp hq

theorem Seq_loop1 {zs : List Int} {ss : List ByteArray} (hz : ∀ z ∈ zs, i64 z) {w0 : World} {n : Nat} (hn : n ≤ zs.length) (hn2 : n ≤ ss.length) (hn3 : n ≤ 20) : ∀ (g i : Nat) (p q : Option Addr) (c c2 : Nat) (s : ByteArray), g + i = n →
    RowAt w0 p (zs.map (.int .i64)) → RowAt w0 q (ss.map .string) → bts s = seqF zs ss i →
    Sequence_c0 p zs.length c q ss.length c2 true (n : Int) s (i : Int) w0 (fun e W' => e = .returned (.bool true) ∧ Below w0.heap.size w0 W')
  | 0, i, p, q, c, c2, s, hg, hp, hq, hs => by
    apply Sequence_c0_vc
    refine ⟨fun h => absurd h (by omega), fun _ => ?_⟩
    have hi : i = n := by omega
    subst hi
    exact Seq_loop2 hz hn hn2 hn3 hs i 0 p q c c2 rfl hp hq
  | g + 1, i, p, q, c, c2, s, hg, hp, hq, hs => by
    apply Sequence_c0_vc
    obtain ⟨b, o, cc, rfl, hb, hc⟩ := row_get (i := i) hp (by omega)
    obtain ⟨b2, o2, cc2, rfl, hb2, hc2⟩ := row_get (i := i) hq (by omega)
    obtain ⟨z, hzd⟩ : ∃ z, z = zs[i] := ⟨_, rfl⟩
    obtain ⟨u, hu⟩ : ∃ u, u = ss[i] := ⟨_, rfl⟩
    rw [← hzd] at hc
    rw [← hu] at hc2
    have hzi : zs.getD i 0 = z := by rw [List.getD_eq_getElem?_getD, List.getElem?_eq_getElem (by omega), Option.getD_some, hzd]
    have hui : ss.getD i ⟨#[]⟩ = u := by rw [List.getD_eq_getElem?_getD, List.getElem?_eq_getElem (by omega), Option.getD_some, hu]
    have hiz : i64 z := hz z (by rw [hzd]; exact List.getElem_mem _)
    have hl : s.size = (seqF zs ss i).length := by rw [← bts_len, hs]
    have hbn := seqF_len zs ss i
    have hT := seqT_size u
    rw [Int.toNat_natCast]
    refine ⟨fun _ => ?_, fun h => absurd (by omega) h⟩
    refine ⟨b, o, rfl, by omega, cc, z, hb, hc, ?_⟩
    refine CallH.pure (NumberFrom_c z hiz) ⟨_, rfl, rfl, ?_⟩
    refine CallH.pure (PutInt_c _) ⟨_, _, putAns_ok (nf_ok z), rfl, ?_⟩
    refine ⟨b2, o2, rfl, by omega, cc2, u, hb2, hc2, by omega, cc2, u, hb2, hc2, ?_⟩
    obtain ⟨m, hm, hm2⟩ := clip 100 (M := 100) rfl u
    rw [hm, Int.toNat_natCast]
    have hx : u.extract 0 m = seqT u := by rw [seqT, hm2]
    rw [hx]
    have hp0 : putSAns (seqT u) = .tuple #[.string (encSB (seqT u)), .int .i64 0] := if_pos (by omega)
    have hq0 := PutString_c (seqT u)
    rw [hp0] at hq0
    have e1 := encB_le (nf z)
    have e2 := encSB_le (seqT u)
    have e3 : (s ++ encB (nf z)).size = s.size + (encB (nf z)).size := size_append ..
    refine ⟨by omega, encSB (seqT u), 0, QCall.of hq0, fun h => absurd rfl h, fun _ => ⟨fun h => absurd rfl h, fun _ => ⟨by omega, by omega, ?_⟩⟩⟩
    rintro s1 rfl i1 rfl
    have ei : IntKind.i64.wrap ((i : Int) + 1) = ((i + 1 : Nat) : Int) := by rw [wi64 (by omega)]; omega
    rw [ei]
    refine Seq_loop1 hz hn hn2 hn3 g (i + 1) _ _ c c2 _ (by omega) hp hq ?_
    rw [bts_append, bts_append, hs, encB_bts, encSB_bts, seqF, seqI, hzi, hui, List.append_assoc]

theorem Sequence_c {p q : Option Addr} {c c2 : Nat} {zs : List Int} {ss : List ByteArray} (hz : ∀ z ∈ zs, i64 z) {W : World} (hw : blkW W 0 = some tabV) (hp : RowAt W p (zs.map (.int .i64))) (hq : RowAt W q (ss.map .string)) :
    Calls Tryd.prog 6 ⟨[.slice p zs.length c, .slice q ss.length c2]⟩ W fun e W' => e = .returned (.bool true) ∧ Below W.heap.size W W' := by
  refine Sequence_vc p zs.length c q ss.length c2 (Mem.start [] W) ?_
  refine CallH.pureG sane_c (by simp) hw ⟨_, rfl, rfl, ?_⟩
  rintro n hn
  obtain ⟨m, rfl, h1, h2, h3⟩ : ∃ m : Nat, n = m ∧ m ≤ zs.length ∧ m ≤ ss.length ∧ m ≤ 20 := by
    refine ⟨n.toNat, ?_, ?_, ?_, ?_⟩ <;> (repeat' split at hn) <;> omega
  clear hn
  exact Seq_loop1 hz h1 h2 h3 m 0 p q c c2 _ rfl hp hq rfl
end Go.Eng
