/- A part of the proof: the engine by which functions are walked, verification conditions that a program of the prover wrote, contracts and plain laws; no claim of its own. -/
import Derived.Test.YtombejccmojjbaaGreatDoorChecked
import Derived.Test.YtombejccmojjbaaGreatDoorLisE
namespace Go.Eng
open Go Go.RowKit Go.Proofs Wire
set_option linter.unusedVariables false
theorem lkX_old {L F : SHeap} {S : List Nat} {w0 W : World} (hm : Mem L S w0 W) (hF : ∀ x ∈ F, x ∈ L) : ∀ b c, lkX S w0 b c → lkX (F.map (·.1)) W b c := by
  rintro b c ⟨h1, h2⟩
  refine ⟨fun hb => ?_, blkW_kept hm.kept h1 h2⟩
  obtain ⟨q, hq, rfl⟩ := List.mem_map.1 hb
  rcases hm.own q (hF q hq) with h | h
  · unfold blkW at h2
    rw [Array.getElem?_eq_none h] at h2
    cases h2
  · exact h1 h
theorem lkX_in {told F : SHeap} {S : List Nat} {w0 W : World} (hm : Mem (told ++ F) S w0 W) {b : Nat} {c : List Value} {t : TypeId} {fz : Nat × Nat} (h : (b, Obj.cells ⟨c⟩ t fz) ∈ told) : lkX (F.map (·.1)) W b c := by
  refine ⟨fun hb => ?_, ?_⟩
  · have hnd := hm.nodup
    rw [List.map_append, List.nodup_append] at hnd
    exact hnd.2.2 b (List.mem_map_of_mem h) b hb rfl
  · have := hm.here _ (List.mem_append_left F h)
    simp only at this
    simp [blkW, this]
theorem CallH.effW0 {P : Program} {S : List Nat} {w0 : World} {g : FuncId} {args : Array Value} {F : SHeap} {Pre : World → Prop} {K K' : Value → SHeap → Prop} (h : EffW P g args F Pre K) (hpre : ∀ W, Mem F S w0 W → Pre W) (hK : ∀ v F', K v F' → K' v F') : CallH P g args F S w0 K' :=
  CallH.effW (L1 := []) h hpre (by simp) fun v L' hk => ⟨L', by simp, hK v L' hk⟩
abbrev DK (K : Value → SHeap → Prop) (S : List Nat) (w0 : World) : Ending → World → Prop := fun e W' => ∃ v L', e = .returned v ∧ Mem L' S w0 W' ∧ K v L'
abbrev kH (B : Nat) (p v : Value) : Nat × Obj := (B, .cells #[.bool false, .string ⟨#[]⟩, .int .i64 0, p, v] 95)
def KRep (B : Nat) (s : List UInt8) (p v : Value) (G : SHeap) : Prop :=
  (s = [] ∧ p = .pointer none ∧ v = .slice none 0 0 ∧ G = []) ∨ (s = [] ∧ p = .pointer (some ⟨B, 3, none⟩) ∧ v = .slice none 0 0 ∧ G = []) ∨
  ∃ (Q cap : Nat) (cs : List Value), 0 < s.length ∧ s.length ≤ cap + 1 ∧ cs.length = (cap + 1) * 1 ∧ cs.take s.length = bytesL s ∧
    p = .pointer (some ⟨B, 3, none⟩) ∧ v = .slice (some ⟨Q, 0, none⟩) s.length (cap + 1) ∧ G = [(Q, .cells ⟨cs⟩ 5)]
def KOut (B : Nat) (s : List UInt8) (u : Value) (v : Value) (L' : SHeap) : Prop := ∃ p' v' G', v = u ∧ L' = kH B p' v' :: G' ∧ KRep B s p' v' G'
theorem KRep.new (B : Nat) : KRep B [] (.pointer none) (.slice none 0 0) [] := .inl ⟨rfl, rfl, rfl, rfl⟩
theorem KRep.row {B Q cap : Nat} {s : List UInt8} {cs : List Value} (h0 : 0 < s.length) (h1 : s.length ≤ cap) (h2 : cs.length = cap * 1) (h3 : cs.take s.length = bytesL s) :
    KRep B s (.pointer (some ⟨B, 3, none⟩)) (.slice (some ⟨Q, 0, none⟩) s.length cap) [(Q, .cells ⟨cs⟩ 5)] := by
  obtain ⟨c, rfl⟩ : ∃ c, cap = c + 1 := ⟨cap - 1, by omega⟩
  exact .inr (.inr ⟨Q, c, cs, h0, h1, h2, h3, rfl, rfl, rfl⟩)
theorem kwrite_e {B : Nat} {l : List UInt8} {s : ByteArray} {p v : Value} {G : SHeap} (h : KRep B l p v G) (hb : l.length + s.size ≤ 140737488355328) :
    EffC Tryz.prog 125 ⟨[.pointer (some ⟨B, 3, none⟩), .string s]⟩ (kH B p v :: G) (KOut B (l ++ bts s) (.tuple #[.int .i64 (s.size : Int), .nilIface])) := by
  intro W hm
  have hbl : (bts s).length = s.size := bts_len s
  rcases h with ⟨rfl, rfl, rfl, rfl⟩ | ⟨rfl, rfl, rfl, rfl⟩ | ⟨Q, cap, cs, h0, h1, h2, h3, rfl, rfl, rfl⟩
  · simp only [List.length_nil, Nat.zero_add] at hb
    refine cw0_vc B s ⟨#[]⟩ 0 hm ⟨by omega, fun hz => ?_, fun hp B1 cap r h1 h2 => ?_⟩
    · rintro _ rfl
      exact dkFin ⟨_, _, _, rfl, rfl, .inr (.inl ⟨by rw [List.nil_append]; exact List.length_eq_zero_iff.1 (by omega), rfl, rfl, rfl⟩)⟩
    · rintro _ rfl
      refine dkFin ⟨_, _, _, rfl, rfl, ?_⟩
      rw [List.nil_append, ← hbl]
      exact KRep.row (by omega) (by omega) h2 (take_bytes _ _)
  · simp only [List.length_nil, Nat.zero_add] at hb
    refine cw1_vc B s ⟨#[]⟩ 0 hm ⟨by omega, fun hz => ?_, fun hp B1 cap r h1 h2 => ?_⟩
    · rintro _ rfl
      exact dkFin ⟨_, _, _, rfl, rfl, .inr (.inl ⟨by rw [List.nil_append]; exact List.length_eq_zero_iff.1 (by omega), rfl, rfl, rfl⟩)⟩
    · rintro _ rfl
      refine dkFin ⟨_, _, _, rfl, rfl, ?_⟩
      rw [List.nil_append, ← hbl]
      exact KRep.row (by omega) (by omega) h2 (take_bytes _ _)
  · refine cw2_vc B s ⟨#[]⟩ 0 Q l.length cap cs hm ⟨⟨h1, h2⟩, by omega, fun B1 cap1 r q1 q2 => ?_⟩
    rintro _ rfl
    refine dkFin ⟨_, _, _, rfl, rfl, ?_⟩
    rw [Nat.mul_one, h3, ← bytesL_app] at q2 ⊢
    have e : l.length + s.size = (l ++ bts s).length := by rw [List.length_append, hbl]
    rw [e] at q1 ⊢
    exact KRep.row (by omega) q1 q2 (take_bytes _ _)
theorem kstring_e {B : Nat} {l : List UInt8} {p v : Value} {G : SHeap} (h : KRep B l p v G) (hb : l.length ≤ 9223372036854775807) : EffC Tryz.prog 57 ⟨[.pointer (some ⟨B, 3, none⟩)]⟩ (kH B p v :: G) (fun u F' => u = .string (ba l)) := by
  intro W hm
  rcases h with ⟨rfl, rfl, rfl, rfl⟩ | ⟨rfl, rfl, rfl, rfl⟩ | ⟨Q, cap, cs, h0, h1, h2, h3, rfl, rfl, rfl⟩
  · exact cs0_vc B ⟨#[]⟩ 0 hm (dkFin rfl)
  · exact cs1_vc B ⟨#[]⟩ 0 hm (dkFin rfl)
  · refine cs2_vc B ⟨#[]⟩ 0 Q l.length cap cs hm ⟨l, ⟨h3, rfl, h0, hb⟩, ?_⟩
    rintro _ rfl
    exact dkFin rfl
abbrev nm (B : Nat) (p v : Value) (G : SHeap) : List Nat := (kH B p v :: G).map (·.1)
theorem wNum_e {B NB no : Nat} {n : Int} {l : List UInt8} {p v : Value} {G : SHeap} (hn : okInt n) (h : KRep B l p v G) (hb : l.length ≤ 1000000000) :
    EffW Tryz.prog 99 ⟨[.pointer (some ⟨B, 0, none⟩), .pointer (some ⟨NB, no, none⟩)]⟩ (kH B p v :: G) (fun W => ∃ cw, lkX (nm B p v G) W NB cw ∧ cw[no]? = some (.int .i64 n)) (KOut B (l ++ Wire.enc n) (.tuple #[])) := by
  rintro W hm ⟨cw, ⟨h1, h2⟩, h3⟩
  have h4 := enc_len n
  refine wNum_vc B NB no ⟨#[]⟩ 0 p v G hm ⟨cw, n, h1, h2, h3, CallH.pure (putI hn) ⟨_, _, rfl, rfl, ?_⟩⟩
  refine CallH.effF (kwrite_e h (by rw [ba_size]; omega)) fun u L' ⟨p', v', G', hu, hL, hR⟩ => ⟨_, _, p', v', G', hu, hL, dkFin ⟨_, _, _, rfl, rfl, ?_⟩⟩
  rwa [bts_mk] at hR
theorem wWord_e {B NB no : Nat} {s : ByteArray} {l : List UInt8} {p v : Value} {G : SHeap} (hs : s.size ≤ 65536) (h : KRep B l p v G) (hb : l.length ≤ 1000000000) :
    EffW Tryz.prog 140 ⟨[.pointer (some ⟨B, 0, none⟩), .pointer (some ⟨NB, no, none⟩)]⟩ (kH B p v :: G) (fun W => ∃ cw, lkX (nm B p v G) W NB cw ∧ cw[no]? = some (.string s)) (KOut B (l ++ encS (bts s)) (.tuple #[])) := by
  rintro W hm ⟨cw, ⟨h1, h2⟩, h3⟩
  have h4 := encS_len (bts s)
  rw [bts_len] at h4
  refine wWord_vc B NB no ⟨#[]⟩ 0 p v G hm ⟨cw, s, h1, h2, h3, CallH.pure (putS hs) ⟨_, _, rfl, rfl, ?_⟩⟩
  refine CallH.effF (kwrite_e h (by rw [ba_size]; omega)) fun u L' ⟨p', v', G', hu, hL, hR⟩ => ⟨_, _, p', v', G', hu, hL, dkFin ⟨_, _, _, rfl, rfl, ?_⟩⟩
  rwa [bts_mk] at hR
theorem wCount_e {B : Nat} {n most : Int} {l : List UInt8} {p v : Value} {G : SHeap} (hn : okInt n) (h : KRep B l p v G) (hb : l.length ≤ 1000000000) :
    EffC Tryz.prog 173 ⟨[.pointer (some ⟨B, 0, none⟩), .int .i64 n, .int .i64 most]⟩ (kH B p v :: G) (KOut B (l ++ Wire.enc n) (.int .i64 n)) := by
  intro W hm
  refine wCount_vc B n most ⟨#[]⟩ 0 p v G hm fun B1 => ?_
  refine CallH.effWT [(B1, .cells #[.int .i64 n] 3)] (wNum_e hn h hb) (fun W' hm' => ⟨_, lkX_in (c := [.int .i64 n]) hm' (List.mem_singleton.2 rfl), rfl⟩) fun u F' ⟨p', v', G', hu, hL, hR⟩ => ⟨p', v', G', hu, by rw [hL]; rfl, ?_⟩
  exact dkSelT [_, kH B p' v'] [1] rfl ⟨_, _, _, rfl, rfl, hR⟩
def FPre (S : List Nat) (f : Fct) (FB : Nat) (W : World) : Prop := ∃ cs, lkX S W FB cs ∧ FctL (lkX S W) cs f
theorem FPre.old {L F : SHeap} {S : List Nat} {w0 W : World} {f : Fct} {FB : Nat} (h : FPre S f FB w0) (hm : Mem L S w0 W) (hF : ∀ x ∈ F, x ∈ L) : FPre (F.map (·.1)) f FB W := by
  obtain ⟨cs, h1, h2⟩ := h
  exact ⟨cs, lkX_old hm hF _ _ h1, h2.mono (lkX_old hm hF)⟩
theorem flat_take {α : Type} {e : α → List UInt8} {l : List α} {i : Nat} (h : i < l.length) : (l.take (i + 1)).flatMap e = (l.take i).flatMap e ++ e l[i] := by
  rw [List.take_add_one, List.getElem?_eq_getElem h, List.flatMap_append]; simp
theorem flat_len {α : Type} {e : α → List UInt8} {m : Nat} : ∀ (l : List α), (∀ x ∈ l, (e x).length ≤ m) → (l.flatMap e).length ≤ m * l.length
  | [], _ => by simp
  | x :: l, h => by
    have h1 := h x List.mem_cons_self
    have h2 := flat_len l (fun y hy => h y (List.mem_cons_of_mem _ hy))
    rw [List.flatMap_cons, List.length_append, List.length_cons, Nat.mul_succ]; omega
theorem wTopics_loop {B FB : Nat} {f : Fct} {S : List Nat} {w0 : World} (hf : FPre S f FB w0) (hv : vOk .topics f.topics) {l : List UInt8} (hl : l.length ≤ 900000000) : ∀ (g i : Nat) (p v : Value) (G : SHeap), g + i = f.topics.length → KRep B (l ++ (f.topics.take i).flatMap fun s : ByteArray => encS (bts s)) p v G →
    wTopics_c0 B FB (f.topics.length : Int) (i : Int) false ⟨#[]⟩ 0 p v G S w0 (DK (KOut B (l ++ f.topics.flatMap fun s : ByteArray => encS (bts s)) (.tuple #[])) S w0)
  | 0, i, p, v, G, hg, h => by
    apply wTopics_c0_vc
    rw [List.take_of_length_le (by omega)] at h
    exact no (by omega) (dkFin ⟨_, _, _, rfl, rfl, h⟩)
  | g + 1, i, p, v, G, hg, h => by
    apply wTopics_c0_vc
    have hi : i < f.topics.length := by omega
    obtain ⟨cs, hcs, tp, tc, bp, bc, ap, ac, rfl, hF⟩ := hf
    obtain ⟨b, o, cc, e1, e2, e3⟩ := hF.tops.get hi
    have h65 := hv.2 _ (List.getElem_mem hi)
    have hlen := flat_len (e := fun s : ByteArray => encS (bts s)) (m := 65546) (f.topics.take i) (fun x hx => by
      have := hv.2 x (List.mem_of_mem_take hx); have h2 := encS_len (bts x); rw [bts_len] at h2; omega)
    have h4 := hv.1
    rw [List.length_take] at hlen
    refine yes (by omega) ⟨_, tp, f.topics.length, tc, hcs.1, hcs.2, rfl, b, o, e1, by omega, ?_⟩
    refine CallH.effW0 (wWord_e h65 h (by rw [List.length_append]; have : 65546 * min i f.topics.length ≤ 65546 * 4 := Nat.mul_le_mul_left _ (by omega); omega)) (fun W' hm' => ⟨cc, lkX_old hm' (fun x hx => hx) _ _ e2, by simpa using e3⟩) fun u F' ⟨p', v', G', hu, hL, hR⟩ => ⟨p', v', G', hu, hL, ?_⟩
    rw [wi64 (by omega), show (i : Int) + 1 = ((i + 1 : Nat) : Int) by omega]
    refine wTopics_loop ⟨_, hcs, tp, tc, bp, bc, ap, ac, rfl, hF⟩ hv hl g (i + 1) p' v' G' (by omega) ?_
    rw [flat_take hi, ← List.append_assoc]
    exact hR
theorem wTopics_e {B FB : Nat} {f : Fct} {l : List UInt8} {p v : Value} {G : SHeap} (hv : vOk .topics f.topics) (h : KRep B l p v G) (hb : l.length ≤ 800000000) :
    EffW Tryz.prog 142 ⟨[.pointer (some ⟨B, 0, none⟩), .pointer (some ⟨FB, 9, none⟩)]⟩ (kH B p v :: G) (FPre (nm B p v G) f FB) (KOut B (l ++ f.put .topics) (.tuple #[])) := by
  intro W hm hf
  obtain ⟨cs, hcs, tp, tc, bp, bc, ap, ac, rfl, hF⟩ := hf
  have h4 := hv.1
  have h5 := enc_len (f.topics.length : Int)
  refine wTopics_vc B FB ⟨#[]⟩ 0 p v G hm ⟨_, tp, f.topics.length, tc, hcs.1, hcs.2, rfl, ?_⟩
  refine CallH.effF (wCount_e (okI (by omega)) h (by omega)) fun u F' ⟨p', v', G', hu, hL, hR⟩ => ⟨_, p', v', G', hu, hL, _, tp, f.topics.length, tc, hcs.1, hcs.2, rfl, ?_⟩
  have := wTopics_loop (B := B) (f := f) ⟨_, hcs, tp, tc, bp, bc, ap, ac, rfl, hF⟩ hv (l := l ++ Wire.enc (f.topics.length : Int)) (by rw [List.length_append]; omega) f.topics.length 0 p' v' G' (by omega) (by simpa using hR)
  rw [List.append_assoc] at this
  exact this
theorem wBlocks_e {B FB : Nat} {f : Fct} {l : List UInt8} {p v : Value} {G : SHeap} (hv : vOk .blocks f.blocks) (h : KRep B l p v G) (hb : l.length ≤ 800000000) :
    EffW Tryz.prog 144 ⟨[.pointer (some ⟨B, 0, none⟩), .pointer (some ⟨FB, 10, none⟩)]⟩ (kH B p v :: G) (FPre (nm B p v G) f FB) (KOut B (l ++ f.put .blocks) (.tuple #[])) := by
  intro W hm hf
  obtain ⟨cs, hcs, tp, tc, bp, bc, ap, ac, rfl, hF⟩ := hf
  refine wBlocks_vc B FB ⟨#[]⟩ 0 p v G hm fun B1 => ⟨_, bp, f.blocks.length, bc, hcs.1, hcs.2, rfl, ?_⟩
  have h6 := encL_le hv
  have ea : encAns f.blocks = .tuple #[.string (ba (encL f.blocks)), .int .i64 0] := by rw [encAns, if_pos (show listOk f.blocks = true from hv)]
  refine CallH.pw (v := encAns f.blocks) (fun W' hm' => encode_c (hF.blks.mono fun b c hb => (lkX_old hm' (F := []) (by simp) b c hb).2) hF.cb) ⟨_, _, ea, rfl, ?_⟩
  refine CallH.effWT [(B1, .cells #[.string (ba (encL f.blocks))] 9)] (wWord_e (s := ba (encL f.blocks)) (by rw [ba_size]; omega) h (by omega)) (fun W' hm' => ⟨_, lkX_in (c := [.string (ba (encL f.blocks))]) hm' (List.mem_singleton.2 rfl), rfl⟩) fun u F' ⟨p', v', G', hu, hL, hR⟩ => ⟨p', v', G', hu, by rw [hL]; rfl, ?_⟩
  rw [bts_mk] at hR
  exact dkSelT [_, kH B p' v'] [1] rfl ⟨_, _, _, rfl, rfl, hR⟩
theorem wLabel_loop {B FB : Nat} {f : Fct} {S : List Nat} {w0 : World} (hf : FPre S f FB w0) (hv : vOk .label f.lab) {l : List UInt8} (hl : l.length ≤ 900000000) : ∀ (g i : Nat) (p v : Value) (G : SHeap), g + i = f.lab.after.length → KRep B (l ++ (f.lab.after.take i).flatMap Wire.enc) p v G →
    wLabel_c0 B FB (f.lab.after.length : Int) (i : Int) false ⟨#[]⟩ 0 p v G S w0 (DK (KOut B (l ++ (f.lab.after.flatMap Wire.enc ++ (Wire.enc f.lab.appr ++ Wire.enc f.lab.den))) (.tuple #[])) S w0)
  | 0, i, p, v, G, hg, h => by
    apply wLabel_c0_vc
    rw [List.take_of_length_le (by omega)] at h
    obtain ⟨cs, hcs, tp, tc, bp, bc, ap, ac, rfl, hF⟩ := hf
    obtain ⟨v1, v2, v3, v4, v5⟩ := hv
    have hlen := flat_len (e := Wire.enc) (m := 10) f.lab.after (fun x _ => enc_len x)
    have k1 := enc_len f.lab.appr
    refine no (by omega) ?_
    refine CallH.effW0 (wNum_e v4 h (by rw [List.length_append]; omega)) (fun W' hm' => ⟨_, lkX_old hm' (fun x hx => hx) _ _ hcs, rfl⟩) fun u F' ⟨p', v', G', hu, hL, hR⟩ => ⟨p', v', G', hu, hL, ?_⟩
    refine CallH.effW0 (wNum_e v5 hR (by simp only [List.length_append]; omega)) (fun W' hm' => ⟨_, lkX_old hm' (fun x hx => hx) _ _ hcs, rfl⟩) fun u F' ⟨p', v', G', hu, hL, hR⟩ => ⟨p', v', G', hu, hL, dkFin ⟨_, _, _, rfl, rfl, ?_⟩⟩
    simpa only [List.append_assoc] using hR
  | g + 1, i, p, v, G, hg, h => by
    apply wLabel_c0_vc
    have hi : i < f.lab.after.length := by omega
    obtain ⟨cs, hcs, tp, tc, bp, bc, ap, ac, rfl, hF⟩ := hf
    obtain ⟨b, o, cc, e1, e2, e3⟩ := hF.ints.get hi
    have hlen := flat_len (e := Wire.enc) (m := 10) (f.lab.after.take i) (fun x _ => enc_len x)
    rw [List.length_take] at hlen
    have h64 := hv.2.1
    refine yes (by omega) ⟨_, ap, f.lab.after.length, ac, hcs.1, hcs.2, rfl, b, o, e1, by omega, ?_⟩
    refine CallH.effW0 (wNum_e (hv.2.2.1 _ (List.getElem_mem hi)) h (by rw [List.length_append]; omega)) (fun W' hm' => ⟨cc, lkX_old hm' (fun x hx => hx) _ _ e2, by simpa using e3⟩) fun u F' ⟨p', v', G', hu, hL, hR⟩ => ⟨p', v', G', hu, hL, ?_⟩
    rw [wi64 (by omega), show (i : Int) + 1 = ((i + 1 : Nat) : Int) by omega]
    refine wLabel_loop ⟨_, hcs, tp, tc, bp, bc, ap, ac, rfl, hF⟩ hv hl g (i + 1) p' v' G' (by omega) ?_
    rw [flat_take hi, ← List.append_assoc]
    exact hR
theorem wLabel_e {B FB : Nat} {f : Fct} {l : List UInt8} {p v : Value} {G : SHeap} (hv : vOk .label f.lab) (h : KRep B l p v G) (hb : l.length ≤ 800000000) :
    EffW Tryz.prog 146 ⟨[.pointer (some ⟨B, 0, none⟩), .pointer (some ⟨FB, 11, none⟩)]⟩ (kH B p v :: G) (FPre (nm B p v G) f FB) (KOut B (l ++ f.put .label) (.tuple #[])) := by
  intro W hm hf
  have hf' := hf
  obtain ⟨cs, hcs, tp, tc, bp, bc, ap, ac, rfl, hF⟩ := hf
  obtain ⟨v1, v2, v3, v4, v5⟩ := hv
  have h5 := enc_len (f.lab.after.length : Int)
  have h6 := enc_len f.lab.unt
  refine wLabel_vc B FB ⟨#[]⟩ 0 p v G hm ?_
  refine CallH.effW0 (wNum_e v1 h (by omega)) (fun W' hm' => ⟨_, lkX_old hm' (fun x hx => hx) _ _ hcs, rfl⟩) fun u F' ⟨p1, u1, G1, hu, hL, hR⟩ => ⟨p1, u1, G1, hu, hL, _, ap, f.lab.after.length, ac, hcs.1, hcs.2, rfl, ?_⟩
  refine CallH.effF (wCount_e (okI (by omega)) hR (by rw [List.length_append]; omega)) fun u F' ⟨p', v', G', hu, hL, hR⟩ => ⟨_, p', v', G', hu, hL, _, ap, f.lab.after.length, ac, hcs.1, hcs.2, rfl, ?_⟩
  have := wLabel_loop (B := B) hf' ⟨v1, v2, v3, v4, v5⟩ (l := l ++ Wire.enc f.lab.unt ++ Wire.enc (f.lab.after.length : Int)) (by simp only [List.length_append]; omega) f.lab.after.length 0 p' v' G' (by omega) (by simpa using hR)
  simp only [List.append_assoc] at this
  exact this
end Go.Eng
namespace Go.Eng
open Go Go.RowKit Go.Proofs
set_option linter.unusedVariables false
set_option maxRecDepth 100000
theorem wNumC_vc (kc : Nat) (kn : Nat) (B : Nat) (NB : Nat) (no : Nat) (tx : ByteArray) (ca : Int) (cp : Value) (cb : Value) (F : SHeap) {R : Ending → World → Prop} {S : List Nat} {w0 W : World} (hm : Mem ((B, .cells #[.bool false, .string tx, .int .i64 ca, cp, cb] 95) :: F) S w0 W)
  (H :
   ∃ (cw : List Value), kc ∉ S ∧ blkW w0 kc = some cw ∧ cw[0]? = some (.pointer (some ⟨B, 0, none⟩)) ∧
   ∃ (cw1 : List Value), kn ∉ S ∧ blkW w0 kn = some cw1 ∧ cw1[0]? = some (.pointer (some ⟨NB, no, none⟩)) ∧
   CallH Tryz.prog 99 ⟨[.pointer (some ⟨B, 0, none⟩), .pointer (some ⟨NB, no, none⟩)]⟩ ((B, .cells #[.bool false, .string tx, .int .i64 ca, cp, cb] 95) :: F) S w0 (fun v L' => ∃ (cp1 : Value) (cb1 : Value) (F1 : SHeap), v = (.tuple #[]) ∧ L' = ((B, .cells #[.bool false, .string tx, .int .i64 ca, cp1, cb1] 95) :: F1) ∧
    Fin R ((B, .cells #[.bool false, .string tx, .int .i64 ca, cp1, cb1] 95) :: F1) S w0 (.tuple #[]))) :
  Calls Tryz.prog 137 ⟨[.pointer (some ⟨kc, 0, none⟩), .pointer (some ⟨kn, 0, none⟩)]⟩ W R := by
 refine AtE.calls (nt := 5) Tryz.func137 (by kernel_rfl) hm ?_
 refine AtE.ru 1 ?_
 obtain ⟨cw, hs, hw, hx, H⟩ := H
 refine AtE.loadW (b := kc) (off := 0) (T := 90) (v := .pointer (some ⟨B, 0, none⟩)) (by kernel_rfl) hs hw (valAt_one hx (by kernel_rfl)) ?_
 obtain ⟨cw1, hs, hw, hx, H⟩ := H
 refine AtE.loadW (b := kn) (off := 0) (T := 144) (v := .pointer (some ⟨NB, no, none⟩)) (by kernel_rfl) hs hw (valAt_one hx (by kernel_rfl)) ?_
 refine AtE.call 99 ⟨[.pointer (some ⟨B, 0, none⟩), .pointer (some ⟨NB, no, none⟩)]⟩ (fun W => by kernel_rfl) (by kernel_rfl) H ?_
 clear H
 rintro _ _ ⟨cp1, cb1, F1, rfl, rfl, H⟩
 refine AtE.ru 1 ?_
 exact AtE.ret Tryz.func137 (by kernel_rfl) H
theorem wWordC_vc (kc : Nat) (kn : Nat) (B : Nat) (NB : Nat) (no : Nat) (tx : ByteArray) (ca : Int) (cp : Value) (cb : Value) (F : SHeap) {R : Ending → World → Prop} {S : List Nat} {w0 W : World} (hm : Mem ((B, .cells #[.bool false, .string tx, .int .i64 ca, cp, cb] 95) :: F) S w0 W)
  (H :
   ∃ (cw : List Value), kc ∉ S ∧ blkW w0 kc = some cw ∧ cw[0]? = some (.pointer (some ⟨B, 0, none⟩)) ∧
   ∃ (cw1 : List Value), kn ∉ S ∧ blkW w0 kn = some cw1 ∧ cw1[0]? = some (.pointer (some ⟨NB, no, none⟩)) ∧
   CallH Tryz.prog 140 ⟨[.pointer (some ⟨B, 0, none⟩), .pointer (some ⟨NB, no, none⟩)]⟩ ((B, .cells #[.bool false, .string tx, .int .i64 ca, cp, cb] 95) :: F) S w0 (fun v L' => ∃ (cp1 : Value) (cb1 : Value) (F1 : SHeap), v = (.tuple #[]) ∧ L' = ((B, .cells #[.bool false, .string tx, .int .i64 ca, cp1, cb1] 95) :: F1) ∧
    Fin R ((B, .cells #[.bool false, .string tx, .int .i64 ca, cp1, cb1] 95) :: F1) S w0 (.tuple #[]))) :
  Calls Tryz.prog 139 ⟨[.pointer (some ⟨kc, 0, none⟩), .pointer (some ⟨kn, 0, none⟩)]⟩ W R := by
 refine AtE.calls (nt := 5) Tryz.func139 (by kernel_rfl) hm ?_
 refine AtE.ru 1 ?_
 obtain ⟨cw, hs, hw, hx, H⟩ := H
 refine AtE.loadW (b := kc) (off := 0) (T := 90) (v := .pointer (some ⟨B, 0, none⟩)) (by kernel_rfl) hs hw (valAt_one hx (by kernel_rfl)) ?_
 obtain ⟨cw1, hs, hw, hx, H⟩ := H
 refine AtE.loadW (b := kn) (off := 0) (T := 189) (v := .pointer (some ⟨NB, no, none⟩)) (by kernel_rfl) hs hw (valAt_one hx (by kernel_rfl)) ?_
 refine AtE.call 140 ⟨[.pointer (some ⟨B, 0, none⟩), .pointer (some ⟨NB, no, none⟩)]⟩ (fun W => by kernel_rfl) (by kernel_rfl) H ?_
 clear H
 rintro _ _ ⟨cp1, cb1, F1, rfl, rfl, H⟩
 refine AtE.ru 1 ?_
 exact AtE.ret Tryz.func139 (by kernel_rfl) H
theorem wTopC_vc (kc : Nat) (kf : Nat) (B : Nat) (FB : Nat) (tx : ByteArray) (ca : Int) (cp : Value) (cb : Value) (F : SHeap) {R : Ending → World → Prop} {S : List Nat} {w0 W : World} (hm : Mem ((B, .cells #[.bool false, .string tx, .int .i64 ca, cp, cb] 95) :: F) S w0 W)
  (H :
   ∃ (cw : List Value), kc ∉ S ∧ blkW w0 kc = some cw ∧ cw[0]? = some (.pointer (some ⟨B, 0, none⟩)) ∧
   ∃ (cw1 : List Value), kf ∉ S ∧ blkW w0 kf = some cw1 ∧ cw1[0]? = some (.pointer (some ⟨FB, 0, none⟩)) ∧
   CallH Tryz.prog 142 ⟨[.pointer (some ⟨B, 0, none⟩), .pointer (some ⟨FB, 9, none⟩)]⟩ ((B, .cells #[.bool false, .string tx, .int .i64 ca, cp, cb] 95) :: F) S w0 (fun v L' => ∃ (cp1 : Value) (cb1 : Value) (F1 : SHeap), v = (.tuple #[]) ∧ L' = ((B, .cells #[.bool false, .string tx, .int .i64 ca, cp1, cb1] 95) :: F1) ∧
    Fin R ((B, .cells #[.bool false, .string tx, .int .i64 ca, cp1, cb1] 95) :: F1) S w0 (.tuple #[]))) :
  Calls Tryz.prog 141 ⟨[.pointer (some ⟨kc, 0, none⟩), .pointer (some ⟨kf, 0, none⟩)]⟩ W R := by
 refine AtE.calls (nt := 7) Tryz.func141 (by kernel_rfl) hm ?_
 refine AtE.norm (k' := [.code (sub (Eng.body Tryz.f141) [])]) (e' := [(0, .pointer (some ⟨kc, 0, none⟩)), (1, .pointer (some ⟨kf, 0, none⟩))]) (L' := ((B, .cells #[.bool false, .string tx, .int .i64 ca, cp, cb] 95) :: F)) ?_ (by kernel_rfl)
 refine AtE.draw 4 (by kernel_rfl) ?_
 obtain ⟨cw, hs, hw, hx, H⟩ := H
 refine AtQ.loadW (b := kc) (off := 0) (T := 90) (v := .pointer (some ⟨B, 0, none⟩)) (by kernel_rfl) hs hw (valAt_one hx (by kernel_rfl)) ?_
 obtain ⟨cw1, hs, hw, hx, H⟩ := H
 refine AtQ.loadW (b := kf) (off := 0) (T := 97) (v := .pointer (some ⟨FB, 0, none⟩)) (by kernel_rfl) hs hw (valAt_one hx (by kernel_rfl)) ?_
 refine AtQ.pu ?_
 refine AtQ.pu ?_
 refine AtQ.done (by kernel_rfl) ?_
 refine AtE.call 142 ⟨[.pointer (some ⟨B, 0, none⟩), .pointer (some ⟨FB, 9, none⟩)]⟩ (fun W => by kernel_rfl) (by kernel_rfl) H ?_
 clear H
 rintro _ _ ⟨cp1, cb1, F1, rfl, rfl, H⟩
 refine AtE.ru 1 ?_
 exact AtE.ret Tryz.func141 (by kernel_rfl) H
theorem wBlkC_vc (kc : Nat) (kf : Nat) (B : Nat) (FB : Nat) (tx : ByteArray) (ca : Int) (cp : Value) (cb : Value) (F : SHeap) {R : Ending → World → Prop} {S : List Nat} {w0 W : World} (hm : Mem ((B, .cells #[.bool false, .string tx, .int .i64 ca, cp, cb] 95) :: F) S w0 W)
  (H :
   ∃ (cw : List Value), kc ∉ S ∧ blkW w0 kc = some cw ∧ cw[0]? = some (.pointer (some ⟨B, 0, none⟩)) ∧
   ∃ (cw1 : List Value), kf ∉ S ∧ blkW w0 kf = some cw1 ∧ cw1[0]? = some (.pointer (some ⟨FB, 0, none⟩)) ∧
   CallH Tryz.prog 144 ⟨[.pointer (some ⟨B, 0, none⟩), .pointer (some ⟨FB, 10, none⟩)]⟩ ((B, .cells #[.bool false, .string tx, .int .i64 ca, cp, cb] 95) :: F) S w0 (fun v L' => ∃ (cp1 : Value) (cb1 : Value) (F1 : SHeap), v = (.tuple #[]) ∧ L' = ((B, .cells #[.bool false, .string tx, .int .i64 ca, cp1, cb1] 95) :: F1) ∧
    Fin R ((B, .cells #[.bool false, .string tx, .int .i64 ca, cp1, cb1] 95) :: F1) S w0 (.tuple #[]))) :
  Calls Tryz.prog 143 ⟨[.pointer (some ⟨kc, 0, none⟩), .pointer (some ⟨kf, 0, none⟩)]⟩ W R := by
 refine AtE.calls (nt := 7) Tryz.func143 (by kernel_rfl) hm ?_
 refine AtE.norm (k' := [.code (sub (Eng.body Tryz.f143) [])]) (e' := [(0, .pointer (some ⟨kc, 0, none⟩)), (1, .pointer (some ⟨kf, 0, none⟩))]) (L' := ((B, .cells #[.bool false, .string tx, .int .i64 ca, cp, cb] 95) :: F)) ?_ (by kernel_rfl)
 refine AtE.draw 4 (by kernel_rfl) ?_
 obtain ⟨cw, hs, hw, hx, H⟩ := H
 refine AtQ.loadW (b := kc) (off := 0) (T := 90) (v := .pointer (some ⟨B, 0, none⟩)) (by kernel_rfl) hs hw (valAt_one hx (by kernel_rfl)) ?_
 obtain ⟨cw1, hs, hw, hx, H⟩ := H
 refine AtQ.loadW (b := kf) (off := 0) (T := 97) (v := .pointer (some ⟨FB, 0, none⟩)) (by kernel_rfl) hs hw (valAt_one hx (by kernel_rfl)) ?_
 refine AtQ.pu ?_
 refine AtQ.pu ?_
 refine AtQ.done (by kernel_rfl) ?_
 refine AtE.call 144 ⟨[.pointer (some ⟨B, 0, none⟩), .pointer (some ⟨FB, 10, none⟩)]⟩ (fun W => by kernel_rfl) (by kernel_rfl) H ?_
 clear H
 rintro _ _ ⟨cp1, cb1, F1, rfl, rfl, H⟩
 refine AtE.ru 1 ?_
 exact AtE.ret Tryz.func143 (by kernel_rfl) H
theorem wLabC_vc (kc : Nat) (kf : Nat) (B : Nat) (FB : Nat) (tx : ByteArray) (ca : Int) (cp : Value) (cb : Value) (F : SHeap) {R : Ending → World → Prop} {S : List Nat} {w0 W : World} (hm : Mem ((B, .cells #[.bool false, .string tx, .int .i64 ca, cp, cb] 95) :: F) S w0 W)
  (H :
   ∃ (cw : List Value), kc ∉ S ∧ blkW w0 kc = some cw ∧ cw[0]? = some (.pointer (some ⟨B, 0, none⟩)) ∧
   ∃ (cw1 : List Value), kf ∉ S ∧ blkW w0 kf = some cw1 ∧ cw1[0]? = some (.pointer (some ⟨FB, 0, none⟩)) ∧
   CallH Tryz.prog 146 ⟨[.pointer (some ⟨B, 0, none⟩), .pointer (some ⟨FB, 11, none⟩)]⟩ ((B, .cells #[.bool false, .string tx, .int .i64 ca, cp, cb] 95) :: F) S w0 (fun v L' => ∃ (cp1 : Value) (cb1 : Value) (F1 : SHeap), v = (.tuple #[]) ∧ L' = ((B, .cells #[.bool false, .string tx, .int .i64 ca, cp1, cb1] 95) :: F1) ∧
    Fin R ((B, .cells #[.bool false, .string tx, .int .i64 ca, cp1, cb1] 95) :: F1) S w0 (.tuple #[]))) :
  Calls Tryz.prog 145 ⟨[.pointer (some ⟨kc, 0, none⟩), .pointer (some ⟨kf, 0, none⟩)]⟩ W R := by
 refine AtE.calls (nt := 7) Tryz.func145 (by kernel_rfl) hm ?_
 refine AtE.norm (k' := [.code (sub (Eng.body Tryz.f145) [])]) (e' := [(0, .pointer (some ⟨kc, 0, none⟩)), (1, .pointer (some ⟨kf, 0, none⟩))]) (L' := ((B, .cells #[.bool false, .string tx, .int .i64 ca, cp, cb] 95) :: F)) ?_ (by kernel_rfl)
 refine AtE.draw 4 (by kernel_rfl) ?_
 obtain ⟨cw, hs, hw, hx, H⟩ := H
 refine AtQ.loadW (b := kc) (off := 0) (T := 90) (v := .pointer (some ⟨B, 0, none⟩)) (by kernel_rfl) hs hw (valAt_one hx (by kernel_rfl)) ?_
 obtain ⟨cw1, hs, hw, hx, H⟩ := H
 refine AtQ.loadW (b := kf) (off := 0) (T := 97) (v := .pointer (some ⟨FB, 0, none⟩)) (by kernel_rfl) hs hw (valAt_one hx (by kernel_rfl)) ?_
 refine AtQ.pu ?_
 refine AtQ.pu ?_
 refine AtQ.done (by kernel_rfl) ?_
 refine AtE.call 146 ⟨[.pointer (some ⟨B, 0, none⟩), .pointer (some ⟨FB, 11, none⟩)]⟩ (fun W => by kernel_rfl) (by kernel_rfl) H ?_
 clear H
 rintro _ _ ⟨cp1, cb1, F1, rfl, rfl, H⟩
 refine AtE.ru 1 ?_
 exact AtE.ret Tryz.func145 (by kernel_rfl) H
end Go.Eng
namespace Go.Eng
open Go Go.RowKit Go.Proofs
set_option linter.unusedVariables false
set_option maxRecDepth 100000
theorem fNumB_vc (NB : Nat) (no : Nat) (kc : Nat) {R : Ending → World → Prop} {w0 W : World} (hm : Mem [] [] w0 W)
  (H :
   ∀ B : Nat,
   Fin R [(B, .cells #[.pointer (some ⟨NB, no, none⟩)] 144)] [] w0 (.func (.func 137) #[] #[.pointer (some ⟨kc, 0, none⟩), .pointer (some ⟨B, 0, none⟩)])) :
  Calls Tryz.prog 136 ⟨[.pointer (some ⟨NB, no, none⟩), .pointer (some ⟨kc, 0, none⟩)]⟩ W R := by
 refine AtE.calls (nt := 5) Tryz.func136 (by kernel_rfl) hm ?_
 refine AtE.ru 2 ?_
 refine AtE.new (fun B => .pointer (some ⟨B, 0, none⟩)) (.cells #[.pointer (some ⟨NB, no, none⟩)] 144) (fun W => by kernel_rfl) (by kernel_rfl) (fun B => ?_)
 replace H := H B
 refine AtE.ru 7 ?_
 exact AtE.ret Tryz.func136 (by kernel_rfl) H
theorem fWordB_vc (NB : Nat) (no : Nat) (kc : Nat) {R : Ending → World → Prop} {w0 W : World} (hm : Mem [] [] w0 W)
  (H :
   ∀ B : Nat,
   Fin R [(B, .cells #[.pointer (some ⟨NB, no, none⟩)] 189)] [] w0 (.func (.func 139) #[] #[.pointer (some ⟨kc, 0, none⟩), .pointer (some ⟨B, 0, none⟩)])) :
  Calls Tryz.prog 138 ⟨[.pointer (some ⟨NB, no, none⟩), .pointer (some ⟨kc, 0, none⟩)]⟩ W R := by
 refine AtE.calls (nt := 5) Tryz.func138 (by kernel_rfl) hm ?_
 refine AtE.ru 2 ?_
 refine AtE.new (fun B => .pointer (some ⟨B, 0, none⟩)) (.cells #[.pointer (some ⟨NB, no, none⟩)] 189) (fun W => by kernel_rfl) (by kernel_rfl) (fun B => ?_)
 replace H := H B
 refine AtE.ru 7 ?_
 exact AtE.ret Tryz.func138 (by kernel_rfl) H
abbrev fFieldsH0 (B1 : Nat) (B : Nat) (B2 : Nat) (FB : Nat) (nb : Nat) : SHeap := [(B1, .cells #[.pointer (some ⟨B, 0, none⟩)] 90), (B2, .cells #[.pointer (some ⟨FB, 0, none⟩)] 97), (nb, .cells #[.pointer (some ⟨FB, 3, none⟩)] 144)]
abbrev fFieldsH1 (B1 : Nat) (B : Nat) (B2 : Nat) (FB : Nat) (nb : Nat) (nb1 : Nat) (nb2 : Nat) (nb3 : Nat) (nb4 : Nat) (nb5 : Nat) (B3 : Nat) : SHeap := [(B1, .cells #[.pointer (some ⟨B, 0, none⟩)] 90), (B2, .cells #[.pointer (some ⟨FB, 0, none⟩)] 97), (nb, .cells #[.pointer (some ⟨FB, 3, none⟩)] 144), (nb1, .cells #[.pointer (some ⟨FB, 4, none⟩)] 189), (nb2, .cells #[.pointer (some ⟨FB, 5, none⟩)] 144), (nb3, .cells #[.pointer (some ⟨FB, 6, none⟩)] 144), (nb4, .cells #[.pointer (some ⟨FB, 7, none⟩)] 189), (nb5, .cells #[.pointer (some ⟨FB, 8, none⟩)] 189), (B3, .cells #[.func (.func 137) #[] #[.pointer (some ⟨B1, 0, none⟩), .pointer (some ⟨nb, 0, none⟩)], .func (.func 139) #[] #[.pointer (some ⟨B1, 0, none⟩), .pointer (some ⟨nb1, 0, none⟩)], .func (.func 137) #[] #[.pointer (some ⟨B1, 0, none⟩), .pointer (some ⟨nb2, 0, none⟩)], .func (.func 137) #[] #[.pointer (some ⟨B1, 0, none⟩), .pointer (some ⟨nb3, 0, none⟩)], .func (.func 139) #[] #[.pointer (some ⟨B1, 0, none⟩), .pointer (some ⟨nb4, 0, none⟩)], .func (.func 139) #[] #[.pointer (some ⟨B1, 0, none⟩), .pointer (some ⟨nb5, 0, none⟩)], .func (.func 141) #[] #[.pointer (some ⟨B1, 0, none⟩), .pointer (some ⟨B2, 0, none⟩)], .func (.func 143) #[] #[.pointer (some ⟨B1, 0, none⟩), .pointer (some ⟨B2, 0, none⟩)], .func (.func 145) #[] #[.pointer (some ⟨B1, 0, none⟩), .pointer (some ⟨B2, 0, none⟩)]] 1)]
abbrev fFieldsH2 (B1 : Nat) (B : Nat) (B2 : Nat) (FB : Nat) (nb : Nat) (nb7 : Nat) (nb8 : Nat) (nb9 : Nat) (nb10 : Nat) (B6 : Nat) : SHeap := [(B1, .cells #[.pointer (some ⟨B, 0, none⟩)] 90), (B2, .cells #[.pointer (some ⟨FB, 0, none⟩)] 97), (nb, .cells #[.pointer (some ⟨FB, 3, none⟩)] 144), (nb7, .cells #[.pointer (some ⟨FB, 4, none⟩)] 189), (nb8, .cells #[.pointer (some ⟨FB, 16, none⟩)] 144), (nb9, .cells #[.pointer (some ⟨FB, 17, none⟩)] 144), (nb10, .cells #[.pointer (some ⟨FB, 18, none⟩)] 189), (B6, .cells #[.func (.func 137) #[] #[.pointer (some ⟨B1, 0, none⟩), .pointer (some ⟨nb, 0, none⟩)], .func (.func 139) #[] #[.pointer (some ⟨B1, 0, none⟩), .pointer (some ⟨nb7, 0, none⟩)], .func (.func 137) #[] #[.pointer (some ⟨B1, 0, none⟩), .pointer (some ⟨nb8, 0, none⟩)], .func (.func 137) #[] #[.pointer (some ⟨B1, 0, none⟩), .pointer (some ⟨nb9, 0, none⟩)], .func (.func 139) #[] #[.pointer (some ⟨B1, 0, none⟩), .pointer (some ⟨nb10, 0, none⟩)]] 1)]
abbrev fFieldsH3 (B1 : Nat) (B : Nat) (B2 : Nat) (FB : Nat) (nb : Nat) (nb14 : Nat) (nb15 : Nat) (nb16 : Nat) (B11 : Nat) : SHeap := [(B1, .cells #[.pointer (some ⟨B, 0, none⟩)] 90), (B2, .cells #[.pointer (some ⟨FB, 0, none⟩)] 97), (nb, .cells #[.pointer (some ⟨FB, 3, none⟩)] 144), (nb14, .cells #[.pointer (some ⟨FB, 20, none⟩)] 144), (nb15, .cells #[.pointer (some ⟨FB, 21, none⟩)] 144), (nb16, .cells #[.pointer (some ⟨FB, 22, none⟩)] 144), (B11, .cells #[.func (.func 137) #[] #[.pointer (some ⟨B1, 0, none⟩), .pointer (some ⟨nb14, 0, none⟩)], .func (.func 137) #[] #[.pointer (some ⟨B1, 0, none⟩), .pointer (some ⟨nb15, 0, none⟩)], .func (.func 137) #[] #[.pointer (some ⟨B1, 0, none⟩), .pointer (some ⟨nb16, 0, none⟩)]] 1)]
abbrev fFieldsH4 (B1 : Nat) (B : Nat) (B2 : Nat) (FB : Nat) (nb : Nat) (nb12 : Nat) (nb13 : Nat) (B10 : Nat) : SHeap := [(B1, .cells #[.pointer (some ⟨B, 0, none⟩)] 90), (B2, .cells #[.pointer (some ⟨FB, 0, none⟩)] 97), (nb, .cells #[.pointer (some ⟨FB, 3, none⟩)] 144), (nb12, .cells #[.pointer (some ⟨FB, 19, none⟩)] 189), (nb13, .cells #[.pointer (some ⟨FB, 18, none⟩)] 189), (B10, .cells #[.func (.func 139) #[] #[.pointer (some ⟨B1, 0, none⟩), .pointer (some ⟨nb12, 0, none⟩)], .func (.func 139) #[] #[.pointer (some ⟨B1, 0, none⟩), .pointer (some ⟨nb13, 0, none⟩)]] 1)]
abbrev fFieldsH5 (B1 : Nat) (B : Nat) (B2 : Nat) (FB : Nat) (nb : Nat) (nb17 : Nat) (nb18 : Nat) (B12 : Nat) : SHeap := [(B1, .cells #[.pointer (some ⟨B, 0, none⟩)] 90), (B2, .cells #[.pointer (some ⟨FB, 0, none⟩)] 97), (nb, .cells #[.pointer (some ⟨FB, 3, none⟩)] 144), (nb17, .cells #[.pointer (some ⟨FB, 20, none⟩)] 144), (nb18, .cells #[.pointer (some ⟨FB, 22, none⟩)] 144), (B12, .cells #[.func (.func 137) #[] #[.pointer (some ⟨B1, 0, none⟩), .pointer (some ⟨nb17, 0, none⟩)], .func (.func 137) #[] #[.pointer (some ⟨B1, 0, none⟩), .pointer (some ⟨nb18, 0, none⟩)]] 1)]
abbrev fFieldsH6 (B1 : Nat) (B : Nat) (B2 : Nat) (FB : Nat) (nb : Nat) (nb11 : Nat) (B7 : Nat) : SHeap := [(B1, .cells #[.pointer (some ⟨B, 0, none⟩)] 90), (B2, .cells #[.pointer (some ⟨FB, 0, none⟩)] 97), (nb, .cells #[.pointer (some ⟨FB, 3, none⟩)] 144), (nb11, .cells #[.pointer (some ⟨FB, 18, none⟩)] 189), (B7, .cells #[.func (.func 137) #[] #[.pointer (some ⟨B1, 0, none⟩), .pointer (some ⟨nb, 0, none⟩)], .func (.func 139) #[] #[.pointer (some ⟨B1, 0, none⟩), .pointer (some ⟨nb11, 0, none⟩)]] 1)]
abbrev fFieldsH7 (B1 : Nat) (B : Nat) (B2 : Nat) (FB : Nat) (nb : Nat) (nb1 : Nat) (nb2 : Nat) (nb3 : Nat) (nb4 : Nat) : SHeap := [(B1, .cells #[.pointer (some ⟨B, 0, none⟩)] 90), (B2, .cells #[.pointer (some ⟨FB, 0, none⟩)] 97), (nb, .cells #[.pointer (some ⟨FB, 3, none⟩)] 144), (nb1, .cells #[.pointer (some ⟨FB, 4, none⟩)] 189), (nb2, .cells #[.pointer (some ⟨FB, 5, none⟩)] 144), (nb3, .cells #[.pointer (some ⟨FB, 6, none⟩)] 144), (nb4, .cells #[.pointer (some ⟨FB, 7, none⟩)] 189)]
theorem fFields_vc (B : Nat) (FB : Nat) {R : Ending → World → Prop} {w0 W : World} (hm : Mem [] [] w0 W)
  (H :
   ∀ B1 : Nat,
   ∀ B2 : Nat,
   CallH Tryz.prog 136 ⟨[.pointer (some ⟨FB, 3, none⟩), .pointer (some ⟨B1, 0, none⟩)]⟩ [(B1, .cells #[.pointer (some ⟨B, 0, none⟩)] 90), (B2, .cells #[.pointer (some ⟨FB, 0, none⟩)] 97)] [] w0 (fun v L' => ∃ (nb : Nat), v = (.func (.func 137) #[] #[.pointer (some ⟨B1, 0, none⟩), .pointer (some ⟨nb, 0, none⟩)]) ∧ L' = (fFieldsH0 B1 B B2 FB nb) ∧
    ∃ (cw : List Value) (m1 : Int), blkW w0 FB = some cw ∧ cw[2]? = some (.int .i64 m1) ∧
    ((m1 = (1 : Int)) →
     CallH Tryz.prog 138 ⟨[.pointer (some ⟨FB, 4, none⟩), .pointer (some ⟨B1, 0, none⟩)]⟩ (fFieldsH0 B1 B B2 FB nb) [] w0 (fun v L' => ∃ (nb1 : Nat), v = (.func (.func 139) #[] #[.pointer (some ⟨B1, 0, none⟩), .pointer (some ⟨nb1, 0, none⟩)]) ∧ L' = [(B1, .cells #[.pointer (some ⟨B, 0, none⟩)] 90), (B2, .cells #[.pointer (some ⟨FB, 0, none⟩)] 97), (nb, .cells #[.pointer (some ⟨FB, 3, none⟩)] 144), (nb1, .cells #[.pointer (some ⟨FB, 4, none⟩)] 189)] ∧
      CallH Tryz.prog 136 ⟨[.pointer (some ⟨FB, 5, none⟩), .pointer (some ⟨B1, 0, none⟩)]⟩ [(B1, .cells #[.pointer (some ⟨B, 0, none⟩)] 90), (B2, .cells #[.pointer (some ⟨FB, 0, none⟩)] 97), (nb, .cells #[.pointer (some ⟨FB, 3, none⟩)] 144), (nb1, .cells #[.pointer (some ⟨FB, 4, none⟩)] 189)] [] w0 (fun v L' => ∃ (nb2 : Nat), v = (.func (.func 137) #[] #[.pointer (some ⟨B1, 0, none⟩), .pointer (some ⟨nb2, 0, none⟩)]) ∧ L' = [(B1, .cells #[.pointer (some ⟨B, 0, none⟩)] 90), (B2, .cells #[.pointer (some ⟨FB, 0, none⟩)] 97), (nb, .cells #[.pointer (some ⟨FB, 3, none⟩)] 144), (nb1, .cells #[.pointer (some ⟨FB, 4, none⟩)] 189), (nb2, .cells #[.pointer (some ⟨FB, 5, none⟩)] 144)] ∧
       CallH Tryz.prog 136 ⟨[.pointer (some ⟨FB, 6, none⟩), .pointer (some ⟨B1, 0, none⟩)]⟩ [(B1, .cells #[.pointer (some ⟨B, 0, none⟩)] 90), (B2, .cells #[.pointer (some ⟨FB, 0, none⟩)] 97), (nb, .cells #[.pointer (some ⟨FB, 3, none⟩)] 144), (nb1, .cells #[.pointer (some ⟨FB, 4, none⟩)] 189), (nb2, .cells #[.pointer (some ⟨FB, 5, none⟩)] 144)] [] w0 (fun v L' => ∃ (nb3 : Nat), v = (.func (.func 137) #[] #[.pointer (some ⟨B1, 0, none⟩), .pointer (some ⟨nb3, 0, none⟩)]) ∧ L' = [(B1, .cells #[.pointer (some ⟨B, 0, none⟩)] 90), (B2, .cells #[.pointer (some ⟨FB, 0, none⟩)] 97), (nb, .cells #[.pointer (some ⟨FB, 3, none⟩)] 144), (nb1, .cells #[.pointer (some ⟨FB, 4, none⟩)] 189), (nb2, .cells #[.pointer (some ⟨FB, 5, none⟩)] 144), (nb3, .cells #[.pointer (some ⟨FB, 6, none⟩)] 144)] ∧
        CallH Tryz.prog 138 ⟨[.pointer (some ⟨FB, 7, none⟩), .pointer (some ⟨B1, 0, none⟩)]⟩ [(B1, .cells #[.pointer (some ⟨B, 0, none⟩)] 90), (B2, .cells #[.pointer (some ⟨FB, 0, none⟩)] 97), (nb, .cells #[.pointer (some ⟨FB, 3, none⟩)] 144), (nb1, .cells #[.pointer (some ⟨FB, 4, none⟩)] 189), (nb2, .cells #[.pointer (some ⟨FB, 5, none⟩)] 144), (nb3, .cells #[.pointer (some ⟨FB, 6, none⟩)] 144)] [] w0 (fun v L' => ∃ (nb4 : Nat), v = (.func (.func 139) #[] #[.pointer (some ⟨B1, 0, none⟩), .pointer (some ⟨nb4, 0, none⟩)]) ∧ L' = (fFieldsH7 B1 B B2 FB nb nb1 nb2 nb3 nb4) ∧
         CallH Tryz.prog 138 ⟨[.pointer (some ⟨FB, 8, none⟩), .pointer (some ⟨B1, 0, none⟩)]⟩ (fFieldsH7 B1 B B2 FB nb nb1 nb2 nb3 nb4) [] w0 (fun v L' => ∃ (nb5 : Nat), v = (.func (.func 139) #[] #[.pointer (some ⟨B1, 0, none⟩), .pointer (some ⟨nb5, 0, none⟩)]) ∧ L' = [(B1, .cells #[.pointer (some ⟨B, 0, none⟩)] 90), (B2, .cells #[.pointer (some ⟨FB, 0, none⟩)] 97), (nb, .cells #[.pointer (some ⟨FB, 3, none⟩)] 144), (nb1, .cells #[.pointer (some ⟨FB, 4, none⟩)] 189), (nb2, .cells #[.pointer (some ⟨FB, 5, none⟩)] 144), (nb3, .cells #[.pointer (some ⟨FB, 6, none⟩)] 144), (nb4, .cells #[.pointer (some ⟨FB, 7, none⟩)] 189), (nb5, .cells #[.pointer (some ⟨FB, 8, none⟩)] 189)] ∧
          ∀ B3 : Nat,
          Fin R (fFieldsH1 B1 B B2 FB nb nb1 nb2 nb3 nb4 nb5 B3) [] w0 (.slice (some ⟨B3, 0, none⟩) 9 9))))))) ∧
     ((¬ (m1 = (1 : Int))) →
     ((m1 = (2 : Int)) →
      CallH Tryz.prog 136 ⟨[.pointer (some ⟨FB, 15, none⟩), .pointer (some ⟨B1, 0, none⟩)]⟩ (fFieldsH0 B1 B B2 FB nb) [] w0 (fun v L' => ∃ (nb6 : Nat), v = (.func (.func 137) #[] #[.pointer (some ⟨B1, 0, none⟩), .pointer (some ⟨nb6, 0, none⟩)]) ∧ L' = [(B1, .cells #[.pointer (some ⟨B, 0, none⟩)] 90), (B2, .cells #[.pointer (some ⟨FB, 0, none⟩)] 97), (nb, .cells #[.pointer (some ⟨FB, 3, none⟩)] 144), (nb6, .cells #[.pointer (some ⟨FB, 15, none⟩)] 144)] ∧
       ∀ B4 : Nat,
       Fin R [(B1, .cells #[.pointer (some ⟨B, 0, none⟩)] 90), (B2, .cells #[.pointer (some ⟨FB, 0, none⟩)] 97), (nb, .cells #[.pointer (some ⟨FB, 3, none⟩)] 144), (nb6, .cells #[.pointer (some ⟨FB, 15, none⟩)] 144), (B4, .cells #[.func (.func 137) #[] #[.pointer (some ⟨B1, 0, none⟩), .pointer (some ⟨nb, 0, none⟩)], .func (.func 137) #[] #[.pointer (some ⟨B1, 0, none⟩), .pointer (some ⟨nb6, 0, none⟩)]] 1)] [] w0 (.slice (some ⟨B4, 0, none⟩) 2 2))) ∧
      ((¬ (m1 = (2 : Int))) →
      ((m1 = (3 : Int)) →
       ∀ B5 : Nat,
       Fin R [(B1, .cells #[.pointer (some ⟨B, 0, none⟩)] 90), (B2, .cells #[.pointer (some ⟨FB, 0, none⟩)] 97), (nb, .cells #[.pointer (some ⟨FB, 3, none⟩)] 144), (B5, .cells #[.func (.func 137) #[] #[.pointer (some ⟨B1, 0, none⟩), .pointer (some ⟨nb, 0, none⟩)], .func (.func 145) #[] #[.pointer (some ⟨B1, 0, none⟩), .pointer (some ⟨B2, 0, none⟩)]] 1)] [] w0 (.slice (some ⟨B5, 0, none⟩) 2 2)) ∧
       ((¬ (m1 = (3 : Int))) →
       ((m1 = (4 : Int)) →
        CallH Tryz.prog 138 ⟨[.pointer (some ⟨FB, 4, none⟩), .pointer (some ⟨B1, 0, none⟩)]⟩ (fFieldsH0 B1 B B2 FB nb) [] w0 (fun v L' => ∃ (nb7 : Nat), v = (.func (.func 139) #[] #[.pointer (some ⟨B1, 0, none⟩), .pointer (some ⟨nb7, 0, none⟩)]) ∧ L' = [(B1, .cells #[.pointer (some ⟨B, 0, none⟩)] 90), (B2, .cells #[.pointer (some ⟨FB, 0, none⟩)] 97), (nb, .cells #[.pointer (some ⟨FB, 3, none⟩)] 144), (nb7, .cells #[.pointer (some ⟨FB, 4, none⟩)] 189)] ∧
         CallH Tryz.prog 136 ⟨[.pointer (some ⟨FB, 16, none⟩), .pointer (some ⟨B1, 0, none⟩)]⟩ [(B1, .cells #[.pointer (some ⟨B, 0, none⟩)] 90), (B2, .cells #[.pointer (some ⟨FB, 0, none⟩)] 97), (nb, .cells #[.pointer (some ⟨FB, 3, none⟩)] 144), (nb7, .cells #[.pointer (some ⟨FB, 4, none⟩)] 189)] [] w0 (fun v L' => ∃ (nb8 : Nat), v = (.func (.func 137) #[] #[.pointer (some ⟨B1, 0, none⟩), .pointer (some ⟨nb8, 0, none⟩)]) ∧ L' = [(B1, .cells #[.pointer (some ⟨B, 0, none⟩)] 90), (B2, .cells #[.pointer (some ⟨FB, 0, none⟩)] 97), (nb, .cells #[.pointer (some ⟨FB, 3, none⟩)] 144), (nb7, .cells #[.pointer (some ⟨FB, 4, none⟩)] 189), (nb8, .cells #[.pointer (some ⟨FB, 16, none⟩)] 144)] ∧
          CallH Tryz.prog 136 ⟨[.pointer (some ⟨FB, 17, none⟩), .pointer (some ⟨B1, 0, none⟩)]⟩ [(B1, .cells #[.pointer (some ⟨B, 0, none⟩)] 90), (B2, .cells #[.pointer (some ⟨FB, 0, none⟩)] 97), (nb, .cells #[.pointer (some ⟨FB, 3, none⟩)] 144), (nb7, .cells #[.pointer (some ⟨FB, 4, none⟩)] 189), (nb8, .cells #[.pointer (some ⟨FB, 16, none⟩)] 144)] [] w0 (fun v L' => ∃ (nb9 : Nat), v = (.func (.func 137) #[] #[.pointer (some ⟨B1, 0, none⟩), .pointer (some ⟨nb9, 0, none⟩)]) ∧ L' = [(B1, .cells #[.pointer (some ⟨B, 0, none⟩)] 90), (B2, .cells #[.pointer (some ⟨FB, 0, none⟩)] 97), (nb, .cells #[.pointer (some ⟨FB, 3, none⟩)] 144), (nb7, .cells #[.pointer (some ⟨FB, 4, none⟩)] 189), (nb8, .cells #[.pointer (some ⟨FB, 16, none⟩)] 144), (nb9, .cells #[.pointer (some ⟨FB, 17, none⟩)] 144)] ∧
           CallH Tryz.prog 138 ⟨[.pointer (some ⟨FB, 18, none⟩), .pointer (some ⟨B1, 0, none⟩)]⟩ [(B1, .cells #[.pointer (some ⟨B, 0, none⟩)] 90), (B2, .cells #[.pointer (some ⟨FB, 0, none⟩)] 97), (nb, .cells #[.pointer (some ⟨FB, 3, none⟩)] 144), (nb7, .cells #[.pointer (some ⟨FB, 4, none⟩)] 189), (nb8, .cells #[.pointer (some ⟨FB, 16, none⟩)] 144), (nb9, .cells #[.pointer (some ⟨FB, 17, none⟩)] 144)] [] w0 (fun v L' => ∃ (nb10 : Nat), v = (.func (.func 139) #[] #[.pointer (some ⟨B1, 0, none⟩), .pointer (some ⟨nb10, 0, none⟩)]) ∧ L' = [(B1, .cells #[.pointer (some ⟨B, 0, none⟩)] 90), (B2, .cells #[.pointer (some ⟨FB, 0, none⟩)] 97), (nb, .cells #[.pointer (some ⟨FB, 3, none⟩)] 144), (nb7, .cells #[.pointer (some ⟨FB, 4, none⟩)] 189), (nb8, .cells #[.pointer (some ⟨FB, 16, none⟩)] 144), (nb9, .cells #[.pointer (some ⟨FB, 17, none⟩)] 144), (nb10, .cells #[.pointer (some ⟨FB, 18, none⟩)] 189)] ∧
            ∀ B6 : Nat,
            Fin R (fFieldsH2 B1 B B2 FB nb nb7 nb8 nb9 nb10 B6) [] w0 (.slice (some ⟨B6, 0, none⟩) 5 5)))))) ∧
        ((¬ (m1 = (4 : Int))) →
        ((m1 = (5 : Int)) →
         CallH Tryz.prog 138 ⟨[.pointer (some ⟨FB, 18, none⟩), .pointer (some ⟨B1, 0, none⟩)]⟩ (fFieldsH0 B1 B B2 FB nb) [] w0 (fun v L' => ∃ (nb11 : Nat), v = (.func (.func 139) #[] #[.pointer (some ⟨B1, 0, none⟩), .pointer (some ⟨nb11, 0, none⟩)]) ∧ L' = [(B1, .cells #[.pointer (some ⟨B, 0, none⟩)] 90), (B2, .cells #[.pointer (some ⟨FB, 0, none⟩)] 97), (nb, .cells #[.pointer (some ⟨FB, 3, none⟩)] 144), (nb11, .cells #[.pointer (some ⟨FB, 18, none⟩)] 189)] ∧
          ∀ B7 : Nat,
          Fin R (fFieldsH6 B1 B B2 FB nb nb11 B7) [] w0 (.slice (some ⟨B7, 0, none⟩) 2 2))) ∧
         ((¬ (m1 = (5 : Int))) →
         ((m1 = (6 : Int)) →
          ∀ B8 : Nat,
          Fin R [(B1, .cells #[.pointer (some ⟨B, 0, none⟩)] 90), (B2, .cells #[.pointer (some ⟨FB, 0, none⟩)] 97), (nb, .cells #[.pointer (some ⟨FB, 3, none⟩)] 144), (B8, .cells #[.func (.func 137) #[] #[.pointer (some ⟨B1, 0, none⟩), .pointer (some ⟨nb, 0, none⟩)]] 1)] [] w0 (.slice (some ⟨B8, 0, none⟩) 1 1)) ∧
          ((¬ (m1 = (6 : Int))) →
          ((m1 = (10 : Int)) →
           ∀ B9 : Nat,
           Fin R [(B1, .cells #[.pointer (some ⟨B, 0, none⟩)] 90), (B2, .cells #[.pointer (some ⟨FB, 0, none⟩)] 97), (nb, .cells #[.pointer (some ⟨FB, 3, none⟩)] 144), (B9, .cells #[.func (.func 137) #[] #[.pointer (some ⟨B1, 0, none⟩), .pointer (some ⟨nb, 0, none⟩)]] 1)] [] w0 (.slice (some ⟨B9, 0, none⟩) 1 1)) ∧
           ((¬ (m1 = (10 : Int))) →
           ((m1 = (7 : Int)) →
            CallH Tryz.prog 138 ⟨[.pointer (some ⟨FB, 19, none⟩), .pointer (some ⟨B1, 0, none⟩)]⟩ (fFieldsH0 B1 B B2 FB nb) [] w0 (fun v L' => ∃ (nb12 : Nat), v = (.func (.func 139) #[] #[.pointer (some ⟨B1, 0, none⟩), .pointer (some ⟨nb12, 0, none⟩)]) ∧ L' = [(B1, .cells #[.pointer (some ⟨B, 0, none⟩)] 90), (B2, .cells #[.pointer (some ⟨FB, 0, none⟩)] 97), (nb, .cells #[.pointer (some ⟨FB, 3, none⟩)] 144), (nb12, .cells #[.pointer (some ⟨FB, 19, none⟩)] 189)] ∧
             CallH Tryz.prog 138 ⟨[.pointer (some ⟨FB, 18, none⟩), .pointer (some ⟨B1, 0, none⟩)]⟩ [(B1, .cells #[.pointer (some ⟨B, 0, none⟩)] 90), (B2, .cells #[.pointer (some ⟨FB, 0, none⟩)] 97), (nb, .cells #[.pointer (some ⟨FB, 3, none⟩)] 144), (nb12, .cells #[.pointer (some ⟨FB, 19, none⟩)] 189)] [] w0 (fun v L' => ∃ (nb13 : Nat), v = (.func (.func 139) #[] #[.pointer (some ⟨B1, 0, none⟩), .pointer (some ⟨nb13, 0, none⟩)]) ∧ L' = [(B1, .cells #[.pointer (some ⟨B, 0, none⟩)] 90), (B2, .cells #[.pointer (some ⟨FB, 0, none⟩)] 97), (nb, .cells #[.pointer (some ⟨FB, 3, none⟩)] 144), (nb12, .cells #[.pointer (some ⟨FB, 19, none⟩)] 189), (nb13, .cells #[.pointer (some ⟨FB, 18, none⟩)] 189)] ∧
              ∀ B10 : Nat,
              Fin R (fFieldsH4 B1 B B2 FB nb nb12 nb13 B10) [] w0 (.slice (some ⟨B10, 0, none⟩) 2 2)))) ∧
            ((¬ (m1 = (7 : Int))) →
            ((m1 = (8 : Int)) →
             CallH Tryz.prog 136 ⟨[.pointer (some ⟨FB, 20, none⟩), .pointer (some ⟨B1, 0, none⟩)]⟩ (fFieldsH0 B1 B B2 FB nb) [] w0 (fun v L' => ∃ (nb14 : Nat), v = (.func (.func 137) #[] #[.pointer (some ⟨B1, 0, none⟩), .pointer (some ⟨nb14, 0, none⟩)]) ∧ L' = [(B1, .cells #[.pointer (some ⟨B, 0, none⟩)] 90), (B2, .cells #[.pointer (some ⟨FB, 0, none⟩)] 97), (nb, .cells #[.pointer (some ⟨FB, 3, none⟩)] 144), (nb14, .cells #[.pointer (some ⟨FB, 20, none⟩)] 144)] ∧
              CallH Tryz.prog 136 ⟨[.pointer (some ⟨FB, 21, none⟩), .pointer (some ⟨B1, 0, none⟩)]⟩ [(B1, .cells #[.pointer (some ⟨B, 0, none⟩)] 90), (B2, .cells #[.pointer (some ⟨FB, 0, none⟩)] 97), (nb, .cells #[.pointer (some ⟨FB, 3, none⟩)] 144), (nb14, .cells #[.pointer (some ⟨FB, 20, none⟩)] 144)] [] w0 (fun v L' => ∃ (nb15 : Nat), v = (.func (.func 137) #[] #[.pointer (some ⟨B1, 0, none⟩), .pointer (some ⟨nb15, 0, none⟩)]) ∧ L' = [(B1, .cells #[.pointer (some ⟨B, 0, none⟩)] 90), (B2, .cells #[.pointer (some ⟨FB, 0, none⟩)] 97), (nb, .cells #[.pointer (some ⟨FB, 3, none⟩)] 144), (nb14, .cells #[.pointer (some ⟨FB, 20, none⟩)] 144), (nb15, .cells #[.pointer (some ⟨FB, 21, none⟩)] 144)] ∧
               CallH Tryz.prog 136 ⟨[.pointer (some ⟨FB, 22, none⟩), .pointer (some ⟨B1, 0, none⟩)]⟩ [(B1, .cells #[.pointer (some ⟨B, 0, none⟩)] 90), (B2, .cells #[.pointer (some ⟨FB, 0, none⟩)] 97), (nb, .cells #[.pointer (some ⟨FB, 3, none⟩)] 144), (nb14, .cells #[.pointer (some ⟨FB, 20, none⟩)] 144), (nb15, .cells #[.pointer (some ⟨FB, 21, none⟩)] 144)] [] w0 (fun v L' => ∃ (nb16 : Nat), v = (.func (.func 137) #[] #[.pointer (some ⟨B1, 0, none⟩), .pointer (some ⟨nb16, 0, none⟩)]) ∧ L' = [(B1, .cells #[.pointer (some ⟨B, 0, none⟩)] 90), (B2, .cells #[.pointer (some ⟨FB, 0, none⟩)] 97), (nb, .cells #[.pointer (some ⟨FB, 3, none⟩)] 144), (nb14, .cells #[.pointer (some ⟨FB, 20, none⟩)] 144), (nb15, .cells #[.pointer (some ⟨FB, 21, none⟩)] 144), (nb16, .cells #[.pointer (some ⟨FB, 22, none⟩)] 144)] ∧
                ∀ B11 : Nat,
                Fin R (fFieldsH3 B1 B B2 FB nb nb14 nb15 nb16 B11) [] w0 (.slice (some ⟨B11, 0, none⟩) 3 3))))) ∧
             ((¬ (m1 = (8 : Int))) →
             ((m1 = (9 : Int)) →
              CallH Tryz.prog 136 ⟨[.pointer (some ⟨FB, 20, none⟩), .pointer (some ⟨B1, 0, none⟩)]⟩ (fFieldsH0 B1 B B2 FB nb) [] w0 (fun v L' => ∃ (nb17 : Nat), v = (.func (.func 137) #[] #[.pointer (some ⟨B1, 0, none⟩), .pointer (some ⟨nb17, 0, none⟩)]) ∧ L' = [(B1, .cells #[.pointer (some ⟨B, 0, none⟩)] 90), (B2, .cells #[.pointer (some ⟨FB, 0, none⟩)] 97), (nb, .cells #[.pointer (some ⟨FB, 3, none⟩)] 144), (nb17, .cells #[.pointer (some ⟨FB, 20, none⟩)] 144)] ∧
               CallH Tryz.prog 136 ⟨[.pointer (some ⟨FB, 22, none⟩), .pointer (some ⟨B1, 0, none⟩)]⟩ [(B1, .cells #[.pointer (some ⟨B, 0, none⟩)] 90), (B2, .cells #[.pointer (some ⟨FB, 0, none⟩)] 97), (nb, .cells #[.pointer (some ⟨FB, 3, none⟩)] 144), (nb17, .cells #[.pointer (some ⟨FB, 20, none⟩)] 144)] [] w0 (fun v L' => ∃ (nb18 : Nat), v = (.func (.func 137) #[] #[.pointer (some ⟨B1, 0, none⟩), .pointer (some ⟨nb18, 0, none⟩)]) ∧ L' = [(B1, .cells #[.pointer (some ⟨B, 0, none⟩)] 90), (B2, .cells #[.pointer (some ⟨FB, 0, none⟩)] 97), (nb, .cells #[.pointer (some ⟨FB, 3, none⟩)] 144), (nb17, .cells #[.pointer (some ⟨FB, 20, none⟩)] 144), (nb18, .cells #[.pointer (some ⟨FB, 22, none⟩)] 144)] ∧
                ∀ B12 : Nat,
                Fin R (fFieldsH5 B1 B B2 FB nb nb17 nb18 B12) [] w0 (.slice (some ⟨B12, 0, none⟩) 2 2)))) ∧
              ((¬ (m1 = (9 : Int))) →
              Fin R (fFieldsH0 B1 B B2 FB nb) [] w0 (.slice none 0 0))))))))))))) :
  Calls Tryz.prog 100 ⟨[.pointer (some ⟨B, 0, none⟩), .pointer (some ⟨FB, 0, none⟩)]⟩ W R := by
 refine AtE.calls (nt := 153) Tryz.func100 (by kernel_rfl) hm ?_
 refine AtE.ru 2 ?_
 refine AtE.new (fun B => .pointer (some ⟨B, 0, none⟩)) (.cells #[.pointer (some ⟨B, 0, none⟩)] 90) (fun W => by kernel_rfl) (by kernel_rfl) (fun B1 => ?_)
 replace H := H B1
 refine AtE.new (fun B => .pointer (some ⟨B, 0, none⟩)) (.cells #[.pointer (some ⟨FB, 0, none⟩)] 97) (fun W => by kernel_rfl) (by kernel_rfl) (fun B2 => ?_)
 replace H := H B2
 refine AtE.ru 30 ?_
 refine AtE.load 1 0 (T := 97) (v := .pointer (some ⟨FB, 0, none⟩)) (by kernel_rfl) ?_
 refine AtE.ru 2 ?_
 refine AtE.call 136 ⟨[.pointer (some ⟨FB, 3, none⟩), .pointer (some ⟨B1, 0, none⟩)]⟩ (fun W => by kernel_rfl) (by kernel_rfl) H ?_
 clear H
 rintro _ _ ⟨nb, rfl, rfl, H⟩
 refine AtE.ru 5 ?_
 refine AtE.load 1 0 (T := 97) (v := .pointer (some ⟨FB, 0, none⟩)) (by kernel_rfl) ?_
 refine AtE.ru 2 ?_
 obtain ⟨cw, m1, hw, hx, H⟩ := H
 refine AtE.loadW (b := FB) (off := 2) (T := 3) (v := .int .i64 m1) (by kernel_rfl) List.not_mem_nil hw (valAt_one hx (by kernel_rfl)) ?_
 refine AtE.ru 7 ?_
 refine AtE.splitP 25 (p := m1 = (1 : Int)) (by kernel_rfl) (fun h1' => ?_) (fun h1' => ?_)
 ·replace H := H.1 h1'
  refine AtE.norm (k' := [.code (sub (Eng.body Tryz.f100) [1,1,1,1,1,1,1,0,1,0,1]), .inBlock 0, .code (sub (Eng.body Tryz.f100) [1,1,1,1,1,1,1,1])]) (e' := [(3, .pointer (some ⟨B2, 0, none⟩)), (5, .func (.func 136) #[] #[.pointer (some ⟨B1, 0, none⟩)]), (6, .func (.func 138) #[] #[.pointer (some ⟨B1, 0, none⟩)]), (7, .func (.func 141) #[] #[.pointer (some ⟨B1, 0, none⟩), .pointer (some ⟨B2, 0, none⟩)]), (8, .func (.func 143) #[] #[.pointer (some ⟨B1, 0, none⟩), .pointer (some ⟨B2, 0, none⟩)]), (9, .func (.func 145) #[] #[.pointer (some ⟨B1, 0, none⟩), .pointer (some ⟨B2, 0, none⟩)]), (10, .func (.func 137) #[] #[.pointer (some ⟨B1, 0, none⟩), .pointer (some ⟨nb, 0, none⟩)]), (24, .int .i64 m1), (25, .bool true)]) (L' := (fFieldsH0 B1 B B2 FB nb)) ?_ (by kernel_rfl)
  refine AtE.ru 2 ?_
  refine AtE.norm (k' := [.code (sub (Eng.body Tryz.f100) [1,1,1,1,1,1,1,0,1,0,1,0,0]), .code (sub (Eng.body Tryz.f100) [1,1,1,1,1,1,1,0,1,0,1,0,1]), .inBlock 0, .code (sub (Eng.body Tryz.f100) [1,1,1,1,1,1,1,1])]) (e' := [(3, .pointer (some ⟨B2, 0, none⟩)), (5, .func (.func 136) #[] #[.pointer (some ⟨B1, 0, none⟩)]), (6, .func (.func 138) #[] #[.pointer (some ⟨B1, 0, none⟩)]), (7, .func (.func 141) #[] #[.pointer (some ⟨B1, 0, none⟩), .pointer (some ⟨B2, 0, none⟩)]), (8, .func (.func 143) #[] #[.pointer (some ⟨B1, 0, none⟩), .pointer (some ⟨B2, 0, none⟩)]), (9, .func (.func 145) #[] #[.pointer (some ⟨B1, 0, none⟩), .pointer (some ⟨B2, 0, none⟩)]), (10, .func (.func 137) #[] #[.pointer (some ⟨B1, 0, none⟩), .pointer (some ⟨nb, 0, none⟩)])]) (L' := (fFieldsH0 B1 B B2 FB nb)) ?_ (by kernel_rfl)
  refine AtE.drawD (by kernel_rfl) ?_
  refine AtD.norm (e' := [(3, .pointer (some ⟨B2, 0, none⟩)), (5, .func (.func 136) #[] #[.pointer (some ⟨B1, 0, none⟩)]), (6, .func (.func 138) #[] #[.pointer (some ⟨B1, 0, none⟩)]), (7, .func (.func 141) #[] #[.pointer (some ⟨B1, 0, none⟩), .pointer (some ⟨B2, 0, none⟩)]), (8, .func (.func 143) #[] #[.pointer (some ⟨B1, 0, none⟩), .pointer (some ⟨B2, 0, none⟩)]), (9, .func (.func 145) #[] #[.pointer (some ⟨B1, 0, none⟩), .pointer (some ⟨B2, 0, none⟩)]), (10, .func (.func 137) #[] #[.pointer (some ⟨B1, 0, none⟩), .pointer (some ⟨nb, 0, none⟩)])]) (L' := (fFieldsH0 B1 B B2 FB nb)) ?_ (by kernel_rfl)
  refine AtD.phase 30 [0,1,2,3,4,6,7,8,9,11,12,13,14,16,17,18,19,21,22,23,24,26,27,28] [5,10,15,20,25,29] (fFieldsH0 B1 B B2 FB nb) (by kernel_rfl) rfl ?_
  refine AtF.pu ?_
  refine AtF.pu ?_
  refine AtF.load 1 0 (T := 97) (v := .pointer (some ⟨FB, 0, none⟩)) (by kernel_rfl) ?_
  refine AtF.pu ?_
  refine AtF.pu ?_
  refine AtF.pu ?_
  refine AtF.load 1 0 (T := 97) (v := .pointer (some ⟨FB, 0, none⟩)) (by kernel_rfl) ?_
  refine AtF.pu ?_
  refine AtF.pu ?_
  refine AtF.pu ?_
  refine AtF.load 1 0 (T := 97) (v := .pointer (some ⟨FB, 0, none⟩)) (by kernel_rfl) ?_
  refine AtF.pu ?_
  refine AtF.pu ?_
  refine AtF.pu ?_
  refine AtF.load 1 0 (T := 97) (v := .pointer (some ⟨FB, 0, none⟩)) (by kernel_rfl) ?_
  refine AtF.pu ?_
  refine AtF.pu ?_
  refine AtF.pu ?_
  refine AtF.load 1 0 (T := 97) (v := .pointer (some ⟨FB, 0, none⟩)) (by kernel_rfl) ?_
  refine AtF.pu ?_
  refine AtF.pu ?_
  refine AtF.pu ?_
  refine AtF.pu ?_
  refine AtF.pu ?_
  refine AtF.done (by kernel_rfl) ?_
  refine AtM.call _ 138 ⟨[.pointer (some ⟨FB, 4, none⟩), .pointer (some ⟨B1, 0, none⟩)]⟩ rfl (fun W => by kernel_rfl) (by kernel_rfl) H ?_
  clear H
  rintro _ _ ⟨nb1, rfl, rfl, H⟩
  refine AtM.call _ 136 ⟨[.pointer (some ⟨FB, 5, none⟩), .pointer (some ⟨B1, 0, none⟩)]⟩ rfl (fun W => by kernel_rfl) (by kernel_rfl) H ?_
  clear H
  rintro _ _ ⟨nb2, rfl, rfl, H⟩
  refine AtM.call _ 136 ⟨[.pointer (some ⟨FB, 6, none⟩), .pointer (some ⟨B1, 0, none⟩)]⟩ rfl (fun W => by kernel_rfl) (by kernel_rfl) H ?_
  clear H
  rintro _ _ ⟨nb3, rfl, rfl, H⟩
  refine AtM.call _ 138 ⟨[.pointer (some ⟨FB, 7, none⟩), .pointer (some ⟨B1, 0, none⟩)]⟩ rfl (fun W => by kernel_rfl) (by kernel_rfl) H ?_
  clear H
  rintro _ _ ⟨nb4, rfl, rfl, H⟩
  refine AtM.call _ 138 ⟨[.pointer (some ⟨FB, 8, none⟩), .pointer (some ⟨B1, 0, none⟩)]⟩ rfl (fun W => by kernel_rfl) (by kernel_rfl) H ?_
  clear H
  rintro _ _ ⟨nb5, rfl, rfl, H⟩
  refine AtM.new _ (fun B => .slice (some ⟨B, 0, none⟩) 9 9) (.cells #[.func (.func 137) #[] #[.pointer (some ⟨B1, 0, none⟩), .pointer (some ⟨nb, 0, none⟩)], .func (.func 139) #[] #[.pointer (some ⟨B1, 0, none⟩), .pointer (some ⟨nb1, 0, none⟩)], .func (.func 137) #[] #[.pointer (some ⟨B1, 0, none⟩), .pointer (some ⟨nb2, 0, none⟩)], .func (.func 137) #[] #[.pointer (some ⟨B1, 0, none⟩), .pointer (some ⟨nb3, 0, none⟩)], .func (.func 139) #[] #[.pointer (some ⟨B1, 0, none⟩), .pointer (some ⟨nb4, 0, none⟩)], .func (.func 139) #[] #[.pointer (some ⟨B1, 0, none⟩), .pointer (some ⟨nb5, 0, none⟩)], .func (.func 141) #[] #[.pointer (some ⟨B1, 0, none⟩), .pointer (some ⟨B2, 0, none⟩)], .func (.func 143) #[] #[.pointer (some ⟨B1, 0, none⟩), .pointer (some ⟨B2, 0, none⟩)], .func (.func 145) #[] #[.pointer (some ⟨B1, 0, none⟩), .pointer (some ⟨B2, 0, none⟩)]] 1) rfl (fun W => by kernel_rfl) (by kernel_rfl) (fun B3 => ?_)
  replace H := H B3
  refine AtM.done _ (by kernel_rfl) rfl ?_
  refine AtD.norm (e' := [(56, .slice (some ⟨B3, 0, none⟩) 9 9)]) (L' := (fFieldsH1 B1 B B2 FB nb nb1 nb2 nb3 nb4 nb5 B3)) ?_ (by kernel_rfl)
  refine AtD.tail (by kernel_rfl) ?_
  refine AtE.ru 2 ?_
  exact AtE.ret Tryz.func100 (by kernel_rfl) H
 ·replace H := H.2 h1'
  refine AtE.norm (k' := [.code (sub (Eng.body Tryz.f100) [1,1,1,1,1,1,1,0,1,0,1]), .inBlock 0, .code (sub (Eng.body Tryz.f100) [1,1,1,1,1,1,1,1])]) (e' := [(3, .pointer (some ⟨B2, 0, none⟩)), (5, .func (.func 136) #[] #[.pointer (some ⟨B1, 0, none⟩)]), (6, .func (.func 138) #[] #[.pointer (some ⟨B1, 0, none⟩)]), (7, .func (.func 141) #[] #[.pointer (some ⟨B1, 0, none⟩), .pointer (some ⟨B2, 0, none⟩)]), (8, .func (.func 143) #[] #[.pointer (some ⟨B1, 0, none⟩), .pointer (some ⟨B2, 0, none⟩)]), (9, .func (.func 145) #[] #[.pointer (some ⟨B1, 0, none⟩), .pointer (some ⟨B2, 0, none⟩)]), (10, .func (.func 137) #[] #[.pointer (some ⟨B1, 0, none⟩), .pointer (some ⟨nb, 0, none⟩)]), (24, .int .i64 m1), (25, .bool false)]) (L' := (fFieldsH0 B1 B B2 FB nb)) ?_ (by kernel_rfl)
  refine AtE.ru 6 ?_
  refine AtE.splitP 57 (p := m1 = (2 : Int)) (by kernel_rfl) (fun h2' => ?_) (fun h2' => ?_)
  ·replace H := H.1 h2'
   refine AtE.ru 5 ?_
   refine AtE.load 1 0 (T := 97) (v := .pointer (some ⟨FB, 0, none⟩)) (by kernel_rfl) ?_
   refine AtE.ru 2 ?_
   refine AtE.call 136 ⟨[.pointer (some ⟨FB, 15, none⟩), .pointer (some ⟨B1, 0, none⟩)]⟩ (fun W => by kernel_rfl) (by kernel_rfl) H ?_
   clear H
   rintro _ _ ⟨nb6, rfl, rfl, H⟩
   refine AtE.new (fun B => .slice (some ⟨B, 0, none⟩) 2 2) (.cells #[.func (.func 137) #[] #[.pointer (some ⟨B1, 0, none⟩), .pointer (some ⟨nb, 0, none⟩)], .func (.func 137) #[] #[.pointer (some ⟨B1, 0, none⟩), .pointer (some ⟨nb6, 0, none⟩)]] 1) (fun W => by kernel_rfl) (by kernel_rfl) (fun B4 => ?_)
   replace H := H B4
   refine AtE.ru 2 ?_
   exact AtE.ret Tryz.func100 (by kernel_rfl) H
  ·replace H := H.2 h2'
   refine AtE.ru 6 ?_
   refine AtE.splitP 66 (p := m1 = (3 : Int)) (by kernel_rfl) (fun h3' => ?_) (fun h3' => ?_)
   ·replace H := H.1 h3'
    refine AtE.ru 5 ?_
    refine AtE.new (fun B => .slice (some ⟨B, 0, none⟩) 2 2) (.cells #[.func (.func 137) #[] #[.pointer (some ⟨B1, 0, none⟩), .pointer (some ⟨nb, 0, none⟩)], .func (.func 145) #[] #[.pointer (some ⟨B1, 0, none⟩), .pointer (some ⟨B2, 0, none⟩)]] 1) (fun W => by kernel_rfl) (by kernel_rfl) (fun B5 => ?_)
    replace H := H B5
    refine AtE.ru 2 ?_
    exact AtE.ret Tryz.func100 (by kernel_rfl) H
   ·replace H := H.2 h3'
    refine AtE.ru 6 ?_
    refine AtE.splitP 71 (p := m1 = (4 : Int)) (by kernel_rfl) (fun h4' => ?_) (fun h4' => ?_)
    ·replace H := H.1 h4'
     refine AtE.ru 2 ?_
     refine AtE.norm (k' := [.code (sub (Eng.body Tryz.f100) [1,1,1,1,1,1,1,0,1,0,1,1,1,1,1,1,1,0,0]), .code (sub (Eng.body Tryz.f100) [1,1,1,1,1,1,1,0,1,0,1,1,1,1,1,1,1,0,1]), .inBlock 0, .code (sub (Eng.body Tryz.f100) [1,1,1,1,1,1,1,1])]) (e' := [(3, .pointer (some ⟨B2, 0, none⟩)), (5, .func (.func 136) #[] #[.pointer (some ⟨B1, 0, none⟩)]), (6, .func (.func 138) #[] #[.pointer (some ⟨B1, 0, none⟩)]), (10, .func (.func 137) #[] #[.pointer (some ⟨B1, 0, none⟩), .pointer (some ⟨nb, 0, none⟩)])]) (L' := (fFieldsH0 B1 B B2 FB nb)) ?_ (by kernel_rfl)
     refine AtE.drawD (by kernel_rfl) ?_
     refine AtD.norm (e' := [(3, .pointer (some ⟨B2, 0, none⟩)), (5, .func (.func 136) #[] #[.pointer (some ⟨B1, 0, none⟩)]), (6, .func (.func 138) #[] #[.pointer (some ⟨B1, 0, none⟩)]), (10, .func (.func 137) #[] #[.pointer (some ⟨B1, 0, none⟩), .pointer (some ⟨nb, 0, none⟩)])]) (L' := (fFieldsH0 B1 B B2 FB nb)) ?_ (by kernel_rfl)
     refine AtD.phase 22 [0,1,2,3,4,6,7,8,9,11,12,13,14,16,17,18,19] [5,10,15,20,21] (fFieldsH0 B1 B B2 FB nb) (by kernel_rfl) rfl ?_
     refine AtF.pu ?_
     refine AtF.pu ?_
     refine AtF.load 1 0 (T := 97) (v := .pointer (some ⟨FB, 0, none⟩)) (by kernel_rfl) ?_
     refine AtF.pu ?_
     refine AtF.pu ?_
     refine AtF.pu ?_
     refine AtF.load 1 0 (T := 97) (v := .pointer (some ⟨FB, 0, none⟩)) (by kernel_rfl) ?_
     refine AtF.pu ?_
     refine AtF.pu ?_
     refine AtF.pu ?_
     refine AtF.load 1 0 (T := 97) (v := .pointer (some ⟨FB, 0, none⟩)) (by kernel_rfl) ?_
     refine AtF.pu ?_
     refine AtF.pu ?_
     refine AtF.pu ?_
     refine AtF.load 1 0 (T := 97) (v := .pointer (some ⟨FB, 0, none⟩)) (by kernel_rfl) ?_
     refine AtF.pu ?_
     refine AtF.pu ?_
     refine AtF.done (by kernel_rfl) ?_
     refine AtM.call _ 138 ⟨[.pointer (some ⟨FB, 4, none⟩), .pointer (some ⟨B1, 0, none⟩)]⟩ rfl (fun W => by kernel_rfl) (by kernel_rfl) H ?_
     clear H
     rintro _ _ ⟨nb7, rfl, rfl, H⟩
     refine AtM.call _ 136 ⟨[.pointer (some ⟨FB, 16, none⟩), .pointer (some ⟨B1, 0, none⟩)]⟩ rfl (fun W => by kernel_rfl) (by kernel_rfl) H ?_
     clear H
     rintro _ _ ⟨nb8, rfl, rfl, H⟩
     refine AtM.call _ 136 ⟨[.pointer (some ⟨FB, 17, none⟩), .pointer (some ⟨B1, 0, none⟩)]⟩ rfl (fun W => by kernel_rfl) (by kernel_rfl) H ?_
     clear H
     rintro _ _ ⟨nb9, rfl, rfl, H⟩
     refine AtM.call _ 138 ⟨[.pointer (some ⟨FB, 18, none⟩), .pointer (some ⟨B1, 0, none⟩)]⟩ rfl (fun W => by kernel_rfl) (by kernel_rfl) H ?_
     clear H
     rintro _ _ ⟨nb10, rfl, rfl, H⟩
     refine AtM.new _ (fun B => .slice (some ⟨B, 0, none⟩) 5 5) (.cells #[.func (.func 137) #[] #[.pointer (some ⟨B1, 0, none⟩), .pointer (some ⟨nb, 0, none⟩)], .func (.func 139) #[] #[.pointer (some ⟨B1, 0, none⟩), .pointer (some ⟨nb7, 0, none⟩)], .func (.func 137) #[] #[.pointer (some ⟨B1, 0, none⟩), .pointer (some ⟨nb8, 0, none⟩)], .func (.func 137) #[] #[.pointer (some ⟨B1, 0, none⟩), .pointer (some ⟨nb9, 0, none⟩)], .func (.func 139) #[] #[.pointer (some ⟨B1, 0, none⟩), .pointer (some ⟨nb10, 0, none⟩)]] 1) rfl (fun W => by kernel_rfl) (by kernel_rfl) (fun B6 => ?_)
     replace H := H B6
     refine AtM.done _ (by kernel_rfl) rfl ?_
     refine AtD.norm (e' := [(94, .slice (some ⟨B6, 0, none⟩) 5 5)]) (L' := (fFieldsH2 B1 B B2 FB nb nb7 nb8 nb9 nb10 B6)) ?_ (by kernel_rfl)
     refine AtD.tail (by kernel_rfl) ?_
     refine AtE.ru 2 ?_
     exact AtE.ret Tryz.func100 (by kernel_rfl) H
    ·replace H := H.2 h4'
     refine AtE.ru 6 ?_
     refine AtE.splitP 95 (p := m1 = (5 : Int)) (by kernel_rfl) (fun h5' => ?_) (fun h5' => ?_)
     ·replace H := H.1 h5'
      refine AtE.ru 5 ?_
      refine AtE.load 1 0 (T := 97) (v := .pointer (some ⟨FB, 0, none⟩)) (by kernel_rfl) ?_
      refine AtE.ru 2 ?_
      refine AtE.call 138 ⟨[.pointer (some ⟨FB, 18, none⟩), .pointer (some ⟨B1, 0, none⟩)]⟩ (fun W => by kernel_rfl) (by kernel_rfl) H ?_
      clear H
      rintro _ _ ⟨nb11, rfl, rfl, H⟩
      refine AtE.new (fun B => .slice (some ⟨B, 0, none⟩) 2 2) (.cells #[.func (.func 137) #[] #[.pointer (some ⟨B1, 0, none⟩), .pointer (some ⟨nb, 0, none⟩)], .func (.func 139) #[] #[.pointer (some ⟨B1, 0, none⟩), .pointer (some ⟨nb11, 0, none⟩)]] 1) (fun W => by kernel_rfl) (by kernel_rfl) (fun B7 => ?_)
      replace H := H B7
      refine AtE.norm (k' := [.inRegion (regOps [.code (sub (Eng.body Tryz.f100) [1,1,1,1,1,1,1,0,1,0,1,1,1,1,1,1,1,1,1,0,0])]) [7], .code (sub (Eng.body Tryz.f100) [1,1,1,1,1,1,1,0,1,0,1,1,1,1,1,1,1,1,1,0,1]), .inBlock 0, .code (sub (Eng.body Tryz.f100) [1,1,1,1,1,1,1,1])]) (e' := [(103, .slice (some ⟨B7, 0, none⟩) 2 2)]) (L' := (fFieldsH6 B1 B B2 FB nb nb11 B7)) ?_ (by kernel_rfl)
      refine AtE.ru 2 ?_
      exact AtE.ret Tryz.func100 (by kernel_rfl) H
     ·replace H := H.2 h5'
      refine AtE.ru 7 ?_
      refine AtE.splitP 104 (p := m1 = (6 : Int)) (by kernel_rfl) (fun h6' => ?_) (fun h6' => ?_)
      ·replace H := H.1 h6'
       refine AtE.ru 6 ?_
       refine AtE.new (fun B => .slice (some ⟨B, 0, none⟩) 1 1) (.cells #[.func (.func 137) #[] #[.pointer (some ⟨B1, 0, none⟩), .pointer (some ⟨nb, 0, none⟩)]] 1) (fun W => by kernel_rfl) (by kernel_rfl) (fun B8 => ?_)
       replace H := H B8
       refine AtE.ru 2 ?_
       exact AtE.ret Tryz.func100 (by kernel_rfl) H
      ·replace H := H.2 h6'
       refine AtE.ru 5 ?_
       refine AtE.splitP 104 (p := m1 = (10 : Int)) (by kernel_rfl) (fun h7' => ?_) (fun h7' => ?_)
       ·replace H := H.1 h7'
        refine AtE.ru 4 ?_
        refine AtE.new (fun B => .slice (some ⟨B, 0, none⟩) 1 1) (.cells #[.func (.func 137) #[] #[.pointer (some ⟨B1, 0, none⟩), .pointer (some ⟨nb, 0, none⟩)]] 1) (fun W => by kernel_rfl) (by kernel_rfl) (fun B9 => ?_)
        replace H := H B9
        refine AtE.norm (k' := [.inRegion (regOps [.code (sub (Eng.body Tryz.f100) [1,1,1,1,1,1,1,0,1,0,1,1,1,1,1,1,1,1,1,1,1,0,0])]) [2], .code (sub (Eng.body Tryz.f100) [1,1,1,1,1,1,1,0,1,0,1,1,1,1,1,1,1,1,1,1,1,0,1]), .inBlock 0, .code (sub (Eng.body Tryz.f100) [1,1,1,1,1,1,1,1])]) (e' := [(108, .slice (some ⟨B9, 0, none⟩) 1 1)]) (L' := [(B1, .cells #[.pointer (some ⟨B, 0, none⟩)] 90), (B2, .cells #[.pointer (some ⟨FB, 0, none⟩)] 97), (nb, .cells #[.pointer (some ⟨FB, 3, none⟩)] 144), (B9, .cells #[.func (.func 137) #[] #[.pointer (some ⟨B1, 0, none⟩), .pointer (some ⟨nb, 0, none⟩)]] 1)]) ?_ (by kernel_rfl)
        refine AtE.ru 2 ?_
        exact AtE.ret Tryz.func100 (by kernel_rfl) H
       ·replace H := H.2 h7'
        refine AtE.ru 6 ?_
        refine AtE.splitP 109 (p := m1 = (7 : Int)) (by kernel_rfl) (fun h8' => ?_) (fun h8' => ?_)
        ·replace H := H.1 h8'
         refine AtE.norm (k' := [.code (sub (Eng.body Tryz.f100) [1,1,1,1,1,1,1,0,1,0,1,1,1,1,1,1,1,1,1,1,1,1,1]), .inBlock 0, .code (sub (Eng.body Tryz.f100) [1,1,1,1,1,1,1,1])]) (e' := [(3, .pointer (some ⟨B2, 0, none⟩)), (5, .func (.func 136) #[] #[.pointer (some ⟨B1, 0, none⟩)]), (6, .func (.func 138) #[] #[.pointer (some ⟨B1, 0, none⟩)]), (24, .int .i64 m1), (109, .bool true)]) (L' := (fFieldsH0 B1 B B2 FB nb)) ?_ (by kernel_rfl)
         refine AtE.ru 2 ?_
         refine AtE.norm (k' := [.code (sub (Eng.body Tryz.f100) [1,1,1,1,1,1,1,0,1,0,1,1,1,1,1,1,1,1,1,1,1,1,1,0,0]), .code (sub (Eng.body Tryz.f100) [1,1,1,1,1,1,1,0,1,0,1,1,1,1,1,1,1,1,1,1,1,1,1,0,1]), .inBlock 0, .code (sub (Eng.body Tryz.f100) [1,1,1,1,1,1,1,1])]) (e' := [(3, .pointer (some ⟨B2, 0, none⟩)), (6, .func (.func 138) #[] #[.pointer (some ⟨B1, 0, none⟩)])]) (L' := (fFieldsH0 B1 B B2 FB nb)) ?_ (by kernel_rfl)
         refine AtE.drawD (by kernel_rfl) ?_
         refine AtD.norm (e' := [(3, .pointer (some ⟨B2, 0, none⟩)), (6, .func (.func 138) #[] #[.pointer (some ⟨B1, 0, none⟩)])]) (L' := (fFieldsH0 B1 B B2 FB nb)) ?_ (by kernel_rfl)
         refine AtD.phase 11 [0,1,2,3,5,6,7,8] [4,9,10] (fFieldsH0 B1 B B2 FB nb) (by kernel_rfl) rfl ?_
         refine AtF.pu ?_
         refine AtF.load 1 0 (T := 97) (v := .pointer (some ⟨FB, 0, none⟩)) (by kernel_rfl) ?_
         refine AtF.pu ?_
         refine AtF.pu ?_
         refine AtF.pu ?_
         refine AtF.load 1 0 (T := 97) (v := .pointer (some ⟨FB, 0, none⟩)) (by kernel_rfl) ?_
         refine AtF.pu ?_
         refine AtF.pu ?_
         refine AtF.done (by kernel_rfl) ?_
         refine AtM.call _ 138 ⟨[.pointer (some ⟨FB, 19, none⟩), .pointer (some ⟨B1, 0, none⟩)]⟩ rfl (fun W => by kernel_rfl) (by kernel_rfl) H ?_
         clear H
         rintro _ _ ⟨nb12, rfl, rfl, H⟩
         refine AtM.call _ 138 ⟨[.pointer (some ⟨FB, 18, none⟩), .pointer (some ⟨B1, 0, none⟩)]⟩ rfl (fun W => by kernel_rfl) (by kernel_rfl) H ?_
         clear H
         rintro _ _ ⟨nb13, rfl, rfl, H⟩
         refine AtM.new _ (fun B => .slice (some ⟨B, 0, none⟩) 2 2) (.cells #[.func (.func 139) #[] #[.pointer (some ⟨B1, 0, none⟩), .pointer (some ⟨nb12, 0, none⟩)], .func (.func 139) #[] #[.pointer (some ⟨B1, 0, none⟩), .pointer (some ⟨nb13, 0, none⟩)]] 1) rfl (fun W => by kernel_rfl) (by kernel_rfl) (fun B10 => ?_)
         replace H := H B10
         refine AtM.done _ (by kernel_rfl) rfl ?_
         refine AtD.norm (e' := [(121, .slice (some ⟨B10, 0, none⟩) 2 2)]) (L' := (fFieldsH4 B1 B B2 FB nb nb12 nb13 B10)) ?_ (by kernel_rfl)
         refine AtD.tail (by kernel_rfl) ?_
         refine AtE.ru 2 ?_
         exact AtE.ret Tryz.func100 (by kernel_rfl) H
        ·replace H := H.2 h8'
         refine AtE.norm (k' := [.code (sub (Eng.body Tryz.f100) [1,1,1,1,1,1,1,0,1,0,1,1,1,1,1,1,1,1,1,1,1,1,1]), .inBlock 0, .code (sub (Eng.body Tryz.f100) [1,1,1,1,1,1,1,1])]) (e' := [(3, .pointer (some ⟨B2, 0, none⟩)), (5, .func (.func 136) #[] #[.pointer (some ⟨B1, 0, none⟩)]), (6, .func (.func 138) #[] #[.pointer (some ⟨B1, 0, none⟩)]), (24, .int .i64 m1), (109, .bool false)]) (L' := (fFieldsH0 B1 B B2 FB nb)) ?_ (by kernel_rfl)
         refine AtE.ru 6 ?_
         refine AtE.splitP 122 (p := m1 = (8 : Int)) (by kernel_rfl) (fun h9' => ?_) (fun h9' => ?_)
         ·replace H := H.1 h9'
          refine AtE.ru 2 ?_
          refine AtE.norm (k' := [.code (sub (Eng.body Tryz.f100) [1,1,1,1,1,1,1,0,1,0,1,1,1,1,1,1,1,1,1,1,1,1,1,1,1,0,0]), .code (sub (Eng.body Tryz.f100) [1,1,1,1,1,1,1,0,1,0,1,1,1,1,1,1,1,1,1,1,1,1,1,1,1,0,1]), .inBlock 0, .code (sub (Eng.body Tryz.f100) [1,1,1,1,1,1,1,1])]) (e' := [(3, .pointer (some ⟨B2, 0, none⟩)), (5, .func (.func 136) #[] #[.pointer (some ⟨B1, 0, none⟩)])]) (L' := (fFieldsH0 B1 B B2 FB nb)) ?_ (by kernel_rfl)
          refine AtE.drawD (by kernel_rfl) ?_
          refine AtD.norm (e' := [(3, .pointer (some ⟨B2, 0, none⟩)), (5, .func (.func 136) #[] #[.pointer (some ⟨B1, 0, none⟩)])]) (L' := (fFieldsH0 B1 B B2 FB nb)) ?_ (by kernel_rfl)
          refine AtD.phase 16 [0,1,2,3,5,6,7,8,10,11,12,13] [4,9,14,15] (fFieldsH0 B1 B B2 FB nb) (by kernel_rfl) rfl ?_
          refine AtF.pu ?_
          refine AtF.load 1 0 (T := 97) (v := .pointer (some ⟨FB, 0, none⟩)) (by kernel_rfl) ?_
          refine AtF.pu ?_
          refine AtF.pu ?_
          refine AtF.pu ?_
          refine AtF.load 1 0 (T := 97) (v := .pointer (some ⟨FB, 0, none⟩)) (by kernel_rfl) ?_
          refine AtF.pu ?_
          refine AtF.pu ?_
          refine AtF.pu ?_
          refine AtF.load 1 0 (T := 97) (v := .pointer (some ⟨FB, 0, none⟩)) (by kernel_rfl) ?_
          refine AtF.pu ?_
          refine AtF.pu ?_
          refine AtF.done (by kernel_rfl) ?_
          refine AtM.call _ 136 ⟨[.pointer (some ⟨FB, 20, none⟩), .pointer (some ⟨B1, 0, none⟩)]⟩ rfl (fun W => by kernel_rfl) (by kernel_rfl) H ?_
          clear H
          rintro _ _ ⟨nb14, rfl, rfl, H⟩
          refine AtM.call _ 136 ⟨[.pointer (some ⟨FB, 21, none⟩), .pointer (some ⟨B1, 0, none⟩)]⟩ rfl (fun W => by kernel_rfl) (by kernel_rfl) H ?_
          clear H
          rintro _ _ ⟨nb15, rfl, rfl, H⟩
          refine AtM.call _ 136 ⟨[.pointer (some ⟨FB, 22, none⟩), .pointer (some ⟨B1, 0, none⟩)]⟩ rfl (fun W => by kernel_rfl) (by kernel_rfl) H ?_
          clear H
          rintro _ _ ⟨nb16, rfl, rfl, H⟩
          refine AtM.new _ (fun B => .slice (some ⟨B, 0, none⟩) 3 3) (.cells #[.func (.func 137) #[] #[.pointer (some ⟨B1, 0, none⟩), .pointer (some ⟨nb14, 0, none⟩)], .func (.func 137) #[] #[.pointer (some ⟨B1, 0, none⟩), .pointer (some ⟨nb15, 0, none⟩)], .func (.func 137) #[] #[.pointer (some ⟨B1, 0, none⟩), .pointer (some ⟨nb16, 0, none⟩)]] 1) rfl (fun W => by kernel_rfl) (by kernel_rfl) (fun B11 => ?_)
          replace H := H B11
          refine AtM.done _ (by kernel_rfl) rfl ?_
          refine AtD.norm (e' := [(139, .slice (some ⟨B11, 0, none⟩) 3 3)]) (L' := (fFieldsH3 B1 B B2 FB nb nb14 nb15 nb16 B11)) ?_ (by kernel_rfl)
          refine AtD.tail (by kernel_rfl) ?_
          refine AtE.ru 2 ?_
          exact AtE.ret Tryz.func100 (by kernel_rfl) H
         ·replace H := H.2 h9'
          refine AtE.ru 6 ?_
          refine AtE.splitP 140 (p := m1 = (9 : Int)) (by kernel_rfl) (fun h10' => ?_) (fun h10' => ?_)
          ·replace H := H.1 h10'
           refine AtE.ru 2 ?_
           refine AtE.norm (k' := [.code (sub (Eng.body Tryz.f100) [1,1,1,1,1,1,1,0,1,0,1,1,1,1,1,1,1,1,1,1,1,1,1,1,1,1,1,0,0]), .code (sub (Eng.body Tryz.f100) [1,1,1,1,1,1,1,0,1,0,1,1,1,1,1,1,1,1,1,1,1,1,1,1,1,1,1,0,1]), .inBlock 0, .code (sub (Eng.body Tryz.f100) [1,1,1,1,1,1,1,1])]) (e' := [(3, .pointer (some ⟨B2, 0, none⟩)), (5, .func (.func 136) #[] #[.pointer (some ⟨B1, 0, none⟩)])]) (L' := (fFieldsH0 B1 B B2 FB nb)) ?_ (by kernel_rfl)
           refine AtE.drawD (by kernel_rfl) ?_
           refine AtD.norm (e' := [(3, .pointer (some ⟨B2, 0, none⟩)), (5, .func (.func 136) #[] #[.pointer (some ⟨B1, 0, none⟩)])]) (L' := (fFieldsH0 B1 B B2 FB nb)) ?_ (by kernel_rfl)
           refine AtD.phase 11 [0,1,2,3,5,6,7,8] [4,9,10] (fFieldsH0 B1 B B2 FB nb) (by kernel_rfl) rfl ?_
           refine AtF.pu ?_
           refine AtF.load 1 0 (T := 97) (v := .pointer (some ⟨FB, 0, none⟩)) (by kernel_rfl) ?_
           refine AtF.pu ?_
           refine AtF.pu ?_
           refine AtF.pu ?_
           refine AtF.load 1 0 (T := 97) (v := .pointer (some ⟨FB, 0, none⟩)) (by kernel_rfl) ?_
           refine AtF.pu ?_
           refine AtF.pu ?_
           refine AtF.done (by kernel_rfl) ?_
           refine AtM.call _ 136 ⟨[.pointer (some ⟨FB, 20, none⟩), .pointer (some ⟨B1, 0, none⟩)]⟩ rfl (fun W => by kernel_rfl) (by kernel_rfl) H ?_
           clear H
           rintro _ _ ⟨nb17, rfl, rfl, H⟩
           refine AtM.call _ 136 ⟨[.pointer (some ⟨FB, 22, none⟩), .pointer (some ⟨B1, 0, none⟩)]⟩ rfl (fun W => by kernel_rfl) (by kernel_rfl) H ?_
           clear H
           rintro _ _ ⟨nb18, rfl, rfl, H⟩
           refine AtM.new _ (fun B => .slice (some ⟨B, 0, none⟩) 2 2) (.cells #[.func (.func 137) #[] #[.pointer (some ⟨B1, 0, none⟩), .pointer (some ⟨nb17, 0, none⟩)], .func (.func 137) #[] #[.pointer (some ⟨B1, 0, none⟩), .pointer (some ⟨nb18, 0, none⟩)]] 1) rfl (fun W => by kernel_rfl) (by kernel_rfl) (fun B12 => ?_)
           replace H := H B12
           refine AtM.done _ (by kernel_rfl) rfl ?_
           refine AtD.norm (e' := [(152, .slice (some ⟨B12, 0, none⟩) 2 2)]) (L' := (fFieldsH5 B1 B B2 FB nb nb17 nb18 B12)) ?_ (by kernel_rfl)
           refine AtD.tail (by kernel_rfl) ?_
           refine AtE.ru 2 ?_
           exact AtE.ret Tryz.func100 (by kernel_rfl) H
          ·replace H := H.2 h10'
           refine AtE.ru 7 ?_
           exact AtE.ret Tryz.func100 (by kernel_rfl) H
end Go.Eng
namespace Go.Eng
open Go Go.RowKit Go.Proofs
set_option linter.unusedVariables false
set_option maxRecDepth 100000
def wFact_c0 (B1 : Nat) (t29_p : Option Addr) (t29_l : Nat) (t29_c : Nat) (t30 : Int) (t31 : Int) (m0 : Bool) (m1 : ByteArray) (m2 : Int) (m3 : Value) (m4 : Value) (F5 : SHeap) (S : List Nat) (w0 : World) (R : Ending → World → Prop) : Prop :=
 AtE Tryz.prog 56 38 [.code (sub (Eng.body Tryz.f56) [1,1,1,1,1,1,0,0]), .inLoop (sub (Eng.body Tryz.f56) [1,1,1,1,1,1,0,0]), .inBlock 0] [(29, .slice t29_p t29_l t29_c), (30, .int .i64 t30), (31, .int .i64 t31)] ((B1, .cells #[.bool m0, .string m1, .int .i64 m2, m3, m4] 95) :: F5) S w0 (nrm R)
theorem wFact_c0_vc (B1 : Nat) (t29_p : Option Addr) (t29_l : Nat) (t29_c : Nat) (t30 : Int) (t31 : Int) (m0 : Bool) (m1 : ByteArray) (m2 : Int) (m3 : Value) (m4 : Value) (F5 : SHeap) {R : Ending → World → Prop} {S : List Nat} {w0 : World}
  (H :
   ((t31 < t30) →
    ∃ t29_pb t29_po : Nat, t29_p = some ⟨t29_pb, t29_po, none⟩ ∧
    (0 ≤ t31 ∧ t31 < t29_l) ∧
    ∃ (cw : List Value) (m5 : Value), (∃ t fz, (t29_pb, Obj.cells ⟨cw⟩ t fz) ∈ ((B1, .cells #[.bool m0, .string m1, .int .i64 m2, m3, m4] 95) :: F5)) ∧ cw[(t29_po + (Int.toNat t31))]? = some (m5) ∧
    ∃ (g : Nat) (caps : List Value), m5 = .func (.func g) ⟨[]⟩ ⟨caps⟩ ∧ FnReady Tryz.prog g ∧
    CallP Tryz.prog g ⟨[] ++ caps⟩ ((B1, .cells #[.bool m0, .string m1, .int .i64 m2, m3, m4] 95) :: F5) S w0 (fun v L' => ∃ (cp4 : Value) (cb4 : Value) (F6 : SHeap), v = .tuple #[] ∧ L' = ((B1, .cells #[.bool m0, .string m1, .int .i64 m2, cp4, cb4] 95) :: F6) ∧
     wFact_c0 B1 (some ⟨t29_pb, t29_po, none⟩) t29_l t29_c t30 (IntKind.i64.wrap (t31 + (1 : Int))) m0 m1 m2 cp4 cb4 F6 S w0 R) (fun ch L' => FinP R L' S w0 ch)) ∧
    ((¬ (t31 < t30)) →
    Fin R ((B1, .cells #[.bool m0, .string m1, .int .i64 m2, m3, m4] 95) :: F5) S w0 (.tuple #[]))) :
  wFact_c0 B1 t29_p t29_l t29_c t30 t31 m0 m1 m2 m3 m4 F5 S w0 R := by
 unfold wFact_c0
 refine AtE.ru 5 ?_
 refine AtE.splitP 32 (p := t31 < t30) (by kernel_rfl) (fun h2' => ?_) (fun h2' => ?_)
 ·replace H := H.1 h2'
  refine AtE.ru 6 ?_
  obtain ⟨t29_pb, t29_po, rfl, H⟩ := H
  refine AtE.indexAddrL (E := 1) (b := t29_pb) (o := t29_po) (len := t29_l) (cap := t29_c) (sz := 1) (o' := (t29_po + (Int.toNat t31))) (kd := .i64) (i := t31) (by kernel_rfl) H.1 (by omega) ?_
  replace H := H.2
  obtain ⟨cw, m5, hw, hx, H⟩ := H
  refine AtE.loadT (b := t29_pb) (off := (t29_po + (Int.toNat t31))) (T := 1) (v := m5) (by kernel_rfl) hw (valAt_one hx (by kernel_rfl)) ?_
  refine AtE.ru 4 ?_
  obtain ⟨g, caps, rfl, hr, H⟩ := H
  refine AtE.callV g [] caps [] (by kernel_rfl) hr H ?_ (fun ch L' h => RaiseE.nrm Tryz.func56 h)
  clear H
  rintro _ _ ⟨cp4, cb4, F6, rfl, rfl, H⟩
  refine AtE.ru 7 ?_
  exact AtE.cutT [0] 1 H (by kernel_rfl)
 ·replace H := H.2 h2'
  refine AtE.ru 2 ?_
  exact AtE.ret Tryz.func56 (by kernel_rfl) H
theorem wFact_vc (B : Nat) (FB : Nat) (tx : ByteArray) (ca : Int) (cp : Value) (cb : Value) (F : SHeap) {R : Ending → World → Prop} {S : List Nat} {w0 W : World} (hm : Mem ((B, .cells #[.bool false, .string tx, .int .i64 ca, cp, cb] 95) :: F) S w0 W)
  (H :
   CallH Tryz.prog 99 ⟨[.pointer (some ⟨B, 0, none⟩), .pointer (some ⟨FB, 0, none⟩)]⟩ ((B, .cells #[.bool false, .string tx, .int .i64 ca, cp, cb] 95) :: F) S w0 (fun v L' => ∃ (cp1 : Value) (cb1 : Value) (F1 : SHeap), v = (.tuple #[]) ∧ L' = ((B, .cells #[.bool false, .string tx, .int .i64 ca, cp1, cb1] 95) :: F1) ∧
    CallH Tryz.prog 99 ⟨[.pointer (some ⟨B, 0, none⟩), .pointer (some ⟨FB, 1, none⟩)]⟩ ((B, .cells #[.bool false, .string tx, .int .i64 ca, cp1, cb1] 95) :: F1) S w0 (fun v L' => ∃ (cp2 : Value) (cb2 : Value) (F2 : SHeap), v = (.tuple #[]) ∧ L' = ((B, .cells #[.bool false, .string tx, .int .i64 ca, cp2, cb2] 95) :: F2) ∧
     CallH Tryz.prog 99 ⟨[.pointer (some ⟨B, 0, none⟩), .pointer (some ⟨FB, 2, none⟩)]⟩ ((B, .cells #[.bool false, .string tx, .int .i64 ca, cp2, cb2] 95) :: F2) S w0 (fun v L' => ∃ (cp3 : Value) (cb3 : Value) (F3 : SHeap), v = (.tuple #[]) ∧ L' = ((B, .cells #[.bool false, .string tx, .int .i64 ca, cp3, cb3] 95) :: F3) ∧
      CallH Tryz.prog 100 ⟨[.pointer (some ⟨B, 0, none⟩), .pointer (some ⟨FB, 0, none⟩)]⟩ ((B, .cells #[.bool false, .string tx, .int .i64 ca, cp3, cb3] 95) :: F3) S w0 (fun v L' => ∃ (r1_p : Option Addr) (r1_l : Nat) (r1_c : Nat) (F4 : SHeap), v = (.slice r1_p r1_l r1_c) ∧ L' = ((B, .cells #[.bool false, .string tx, .int .i64 ca, cp3, cb3] 95) :: F4) ∧
       (((r1_l : Int) = (0 : Int)) →
        FinP R ((B, .cells #[.bool false, .string tx, .int .i64 ca, cp3, cb3] 95) :: F4) S w0 [{ v := .iface 31 (.int .i64 (50 : Int)), recovered := false }]) ∧
        ((¬ ((r1_l : Int) = (0 : Int))) →
        wFact_c0 B r1_p r1_l r1_c (r1_l : Int) (0 : Int) false tx ca cp3 cb3 F4 S w0 R)))))) :
  Calls Tryz.prog 56 ⟨[.pointer (some ⟨B, 0, none⟩), .pointer (some ⟨FB, 0, none⟩)]⟩ W R := by
 refine AtE.calls (nt := 38) Tryz.func56 (by kernel_rfl) hm ?_
 refine AtE.ru 6 ?_
 refine AtE.call 99 ⟨[.pointer (some ⟨B, 0, none⟩), .pointer (some ⟨FB, 0, none⟩)]⟩ (fun W => by kernel_rfl) (by kernel_rfl) H ?_
 clear H
 rintro _ _ ⟨cp1, cb1, F1, rfl, rfl, H⟩
 refine AtE.ru 7 ?_
 refine AtE.call 99 ⟨[.pointer (some ⟨B, 0, none⟩), .pointer (some ⟨FB, 1, none⟩)]⟩ (fun W => by kernel_rfl) (by kernel_rfl) H ?_
 clear H
 rintro _ _ ⟨cp2, cb2, F2, rfl, rfl, H⟩
 refine AtE.ru 7 ?_
 refine AtE.call 99 ⟨[.pointer (some ⟨B, 0, none⟩), .pointer (some ⟨FB, 2, none⟩)]⟩ (fun W => by kernel_rfl) (by kernel_rfl) H ?_
 clear H
 rintro _ _ ⟨cp3, cb3, F3, rfl, rfl, H⟩
 refine AtE.ru 5 ?_
 refine AtE.call 100 ⟨[.pointer (some ⟨B, 0, none⟩), .pointer (some ⟨FB, 0, none⟩)]⟩ (fun W => by kernel_rfl) (by kernel_rfl) H ?_
 clear H
 rintro _ _ ⟨r1_p, r1_l, r1_c, F4, rfl, rfl, H⟩
 refine AtE.ru 9 ?_
 refine AtE.splitP 27 (p := (r1_l : Int) = (0 : Int)) (by kernel_rfl) (fun h1' => ?_) (fun h1' => ?_)
 ·replace H := H.1 h1'
  refine AtE.ru 3 ?_
  refine AtE.panic (t := 31) (v := .int .i64 (50 : Int)) (by kernel_rfl) ?_
  exact RaiseE.nrm Tryz.func56 H
 ·replace H := H.2 h1'
  refine AtE.ru 10 ?_
  exact AtE.cutT [0] 1 H (by kernel_rfl)
end Go.Eng
namespace Go.Eng
open Go Go.RowKit Go.Proofs
set_option linter.unusedVariables false
set_option maxRecDepth 100000
abbrev fEncodeH0 (B : Nat) (f : Fct) (ftp : Option Addr) (ftc : Nat) (fbp : Option Addr) (fbc : Nat) (fap : Option Addr) (fac : Nat) : SHeap := [(B, .cells #[.int .i64 f.n, .int .i64 f.time, .int .i64 f.kind, .int .i64 f.story, .string f.lang, .int .i64 f.rev, .int .i64 f.base, .string f.title, .string f.author, .slice ftp f.topics.length ftc, .slice fbp f.blocks.length fbc, .int .i64 f.lab.unt, .slice fap f.lab.after.length fac, .int .i64 f.lab.appr, .int .i64 f.lab.den, .int .i64 f.editor, .int .i64 f.block, .int .i64 f.sentence, .string f.text, .string f.name, .int .i64 f.partner, .int .i64 f.cls, .int .i64 f.unt] 28)]
abbrev fEncodeH1 (B : Nat) (f : Fct) (ftp : Option Addr) (ftc : Nat) (fbp : Option Addr) (fbc : Nat) (fap : Option Addr) (fac : Nat) (F1 : SHeap) : SHeap := ((B, .cells #[.int .i64 f.n, .int .i64 f.time, .int .i64 f.kind, .int .i64 f.story, .string f.lang, .int .i64 f.rev, .int .i64 f.base, .string f.title, .string f.author, .slice ftp f.topics.length ftc, .slice fbp f.blocks.length fbc, .int .i64 f.lab.unt, .slice fap f.lab.after.length fac, .int .i64 f.lab.appr, .int .i64 f.lab.den, .int .i64 f.editor, .int .i64 f.block, .int .i64 f.sentence, .string f.text, .string f.name, .int .i64 f.partner, .int .i64 f.cls, .int .i64 f.unt] 28) :: F1)
abbrev fEncodeH2 (B : Nat) (f : Fct) (ftp : Option Addr) (ftc : Nat) (fbp : Option Addr) (fbc : Nat) (fap : Option Addr) (fac : Nat) (B1 : Nat) (cp : Value) (cb : Value) (F : SHeap) : SHeap := ((B, .cells #[.int .i64 f.n, .int .i64 f.time, .int .i64 f.kind, .int .i64 f.story, .string f.lang, .int .i64 f.rev, .int .i64 f.base, .string f.title, .string f.author, .slice ftp f.topics.length ftc, .slice fbp f.blocks.length fbc, .int .i64 f.lab.unt, .slice fap f.lab.after.length fac, .int .i64 f.lab.appr, .int .i64 f.lab.den, .int .i64 f.editor, .int .i64 f.block, .int .i64 f.sentence, .string f.text, .string f.name, .int .i64 f.partner, .int .i64 f.cls, .int .i64 f.unt] 28) :: (B1, .cells #[.bool false, .string (⟨#[]⟩), .int .i64 (0 : Int), cp, cb] 95) :: F)
abbrev fEncodeA0 (f : Fct) (ftp : Option Addr) (ftc : Nat) (fbp : Option Addr) (fbc : Nat) (fap : Option Addr) (fac : Nat) : Array Value := #[.int .i64 f.n, .int .i64 f.time, .int .i64 f.kind, .int .i64 f.story, .string f.lang, .int .i64 f.rev, .int .i64 f.base, .string f.title, .string f.author, .slice ftp f.topics.length ftc, .slice fbp f.blocks.length fbc, .int .i64 f.lab.unt, .slice fap f.lab.after.length fac, .int .i64 f.lab.appr, .int .i64 f.lab.den, .int .i64 f.editor, .int .i64 f.block, .int .i64 f.sentence, .string f.text, .string f.name, .int .i64 f.partner, .int .i64 f.cls, .int .i64 f.unt]
theorem fEncode_vc (f : Fct) (ftp : Option Addr) (ftc : Nat) (fbp : Option Addr) (fbc : Nat) (fap : Option Addr) (fac : Nat) {R : Ending → World → Prop} {w0 W : World} (hm : Mem [] [] w0 W)
  (H :
   ∀ B : Nat,
   CallH Tryz.prog 20 ⟨[.agg (fEncodeA0 f ftp ftc fbp fbc fap fac)]⟩ (fEncodeH0 B f ftp ftc fbp fbc fap fac) [] w0 (fun v L' => ∃ (r1 : Bool), v = (.bool r1) ∧ L' = (fEncodeH0 B f ftp ftc fbp fbc fap fac) ∧
    ((r1 = true) →
     ∀ B1 : Nat,
     CallH Tryz.prog 56 ⟨[.pointer (some ⟨B1, 0, none⟩), .pointer (some ⟨B, 0, none⟩)]⟩ [(B, .cells (fEncodeA0 f ftp ftc fbp fbc fap fac) 28), (B1, .cells #[.bool false, .string (⟨#[]⟩), .int .i64 (0 : Int), .pointer none, .slice none 0 0] 95)] [] w0 (fun v L' => ∃ (cp : Value) (cb : Value) (F : SHeap), v = (.tuple #[]) ∧ L' = (fEncodeH2 B f ftp ftc fbp fbc fap fac B1 cp cb F) ∧
      CallH Tryz.prog 57 ⟨[.pointer (some ⟨B1, 3, none⟩)]⟩ (fEncodeH2 B f ftp ftc fbp fbc fap fac B1 cp cb F) [] w0 (fun v L' => ∃ (r21 : ByteArray) (F1 : SHeap), v = (.string r21) ∧ L' = (fEncodeH1 B f ftp ftc fbp fbc fap fac F1) ∧
       Fin R (fEncodeH1 B f ftp ftc fbp fbc fap fac F1) [] w0 (.tuple #[.string r21, .int .i64 (0 : Int)])))) ∧
     ((r1 = false) →
     Fin R (fEncodeH0 B f ftp ftc fbp fbc fap fac) [] w0 (.tuple #[.string (⟨#[]⟩), .int .i64 (50 : Int)])))) :
  Calls Tryz.prog 19 ⟨[.agg (fEncodeA0 f ftp ftc fbp fbc fap fac)]⟩ W R := by
 refine AtE.calls (nt := 16) Tryz.func19 (by kernel_rfl) hm ?_
 refine AtE.ru 2 ?_
 refine AtE.new (fun B => .pointer (some ⟨B, 0, none⟩)) (.cells (fEncodeA0 f ftp ftc fbp fbc fap fac) 28) (fun W => by kernel_rfl) (by kernel_rfl) (fun B => ?_)
 replace H := H B
 refine AtE.ru 6 ?_
 refine AtE.load 0 0 (T := 28) (v := .agg (fEncodeA0 f ftp ftc fbp fbc fap fac)) (by kernel_rfl) ?_
 refine AtE.call 20 ⟨[.agg (fEncodeA0 f ftp ftc fbp fbc fap fac)]⟩ (fun W => by kernel_rfl) (by kernel_rfl) H ?_
 clear H
 rintro _ _ ⟨r1, rfl, rfl, H⟩
 refine AtE.split 6 (b := r1) (by kernel_rfl) (fun h1' => ?_) (fun h1' => ?_)
 ·replace H := H.1 h1'
  refine AtE.ru 7 ?_
  refine AtE.new (fun B => .pointer (some ⟨B, 0, none⟩)) (.cells #[.bool false, .string (⟨#[]⟩), .int .i64 (0 : Int), .pointer none, .slice none 0 0] 95) (fun W => by kernel_rfl) (by kernel_rfl) (fun B1 => ?_)
  replace H := H B1
  refine AtE.ru 5 ?_
  refine AtE.call 56 ⟨[.pointer (some ⟨B1, 0, none⟩), .pointer (some ⟨B, 0, none⟩)]⟩ (fun W => by kernel_rfl) (by kernel_rfl) H ?_
  clear H
  rintro _ _ ⟨cp, cb, F, rfl, rfl, H⟩
  refine AtE.ru 6 ?_
  refine AtE.call 57 ⟨[.pointer (some ⟨B1, 3, none⟩)]⟩ (fun W => by kernel_rfl) (by kernel_rfl) H ?_
  clear H
  rintro _ _ ⟨r21, F1, rfl, rfl, H⟩
  refine AtE.norm (k' := [.inRegion (regOps [.code (sub (Eng.body Tryz.f19) [1,1,1,1,0])]) [4,5], .code (sub (Eng.body Tryz.f19) [1,1,1,1,1])]) (e' := [(15, .string r21)]) (L' := (fEncodeH1 B f ftp ftc fbp fbc fap fac F1)) ?_ (by kernel_rfl)
  refine AtE.ru 3 ?_
  exact AtE.ret Tryz.func19 (by kernel_rfl) H
 ·replace H := H.2 h1'
  refine AtE.ru 8 ?_
  exact AtE.ret Tryz.func19 (by kernel_rfl) H
end Go.Eng
namespace Go.Eng
open Go Go.RowKit Go.Proofs Wire
set_option linter.unusedVariables false
abbrev pt (B o : Nat) : Value := .pointer (some ⟨B, o, none⟩)
abbrev cloV (g kc kn : Nat) : Value := .func (.func g) #[] #[pt kc 0, pt kn 0]
def CloAt (F : SHeap) (B FB : Nat) (x : Fld) (v : Value) : Prop :=
  ∃ kc kn, (kc, .cells #[pt B 0] 90) ∈ F ∧
    ((x.ty = .int ∧ v = cloV 137 kc kn ∧ (kn, .cells #[pt FB x.off] 144) ∈ F) ∨
     (x.ty = .str ∧ v = cloV 139 kc kn ∧ (kn, .cells #[pt FB x.off] 189) ∈ F) ∨
     (x = .topics ∧ v = cloV 141 kc kn ∧ (kn, .cells #[pt FB 0] 97) ∈ F) ∨
     (x = .blocks ∧ v = cloV 143 kc kn ∧ (kn, .cells #[pt FB 0] 97) ∈ F) ∨
     (x = .label ∧ v = cloV 145 kc kn ∧ (kn, .cells #[pt FB 0] 97) ∈ F))
def Clos (F : SHeap) (B FB : Nat) : List Fld → List Value → Prop
  | [], [] => True
  | x :: l, v :: vs => CloAt F B FB x v ∧ Clos F B FB l vs
  | _, _ => False
theorem Clos.len {F : SHeap} {B FB : Nat} : ∀ {l : List Fld} {vs : List Value}, Clos F B FB l vs → vs.length = l.length
  | [], [], _ => rfl
  | x :: l, v :: vs, h => by rw [List.length_cons, List.length_cons, Clos.len h.2]
  | [], _ :: _, h => h.elim
  | _ :: _, [], h => h.elim
theorem Clos.get {F : SHeap} {B FB : Nat} : ∀ {l : List Fld} {vs : List Value} (i : Nat) (hi : i < l.length), Clos F B FB l vs → ∃ v, vs[i]? = some v ∧ CloAt F B FB l[i] v
  | x :: l, v :: vs, 0, _, h => ⟨v, rfl, h.1⟩
  | x :: l, v :: vs, i + 1, hi, h => by
    obtain ⟨u, h1, h2⟩ := Clos.get i (by simpa using hi) h.2
    exact ⟨u, by simpa using h1, by simpa using h2⟩
  | [], _, i, hi, _ => absurd hi (by simp)
  | _ :: _, [], _, _, h => h.elim
def FieldsOut (F : SHeap) (B FB : Nat) (k : Int) (v : Value) : Prop :=
  (kfields k = [] ∧ v = .slice none 0 0) ∨ ∃ Bs vs, v = .slice (some ⟨Bs, 0, none⟩) (kfields k).length (kfields k).length ∧ (Bs, .cells ⟨vs⟩ 1) ∈ F ∧ Clos F B FB (kfields k) vs
theorem CallH.more {P : Program} {L : SHeap} {S : List Nat} {w0 : World} {g : FuncId} {args : Array Value} {K K' : Value → SHeap → Prop} (h : EffC P g args [] K) (hK : ∀ v F, K v F → K' v (L ++ F)) : CallH P g args L S w0 K' :=
  CallH.eff (L0 := []) (L1 := L) h (by simp) fun v L' hk => ⟨L ++ L', List.perm_append_comm, hK v L' hk⟩
theorem numB_e (NB no kc : Nat) : EffC Tryz.prog 136 ⟨[pt NB no, pt kc 0]⟩ [] (fun v F => ∃ nb, v = cloV 137 kc nb ∧ F = [(nb, .cells #[pt NB no] 144)]) :=
  fun W hm => fNumB_vc NB no kc hm fun B => dkFin ⟨B, rfl, rfl⟩
theorem wordB_e (NB no kc : Nat) : EffC Tryz.prog 138 ⟨[pt NB no, pt kc 0]⟩ [] (fun v F => ∃ nb, v = cloV 139 kc nb ∧ F = [(nb, .cells #[pt NB no] 189)]) :=
  fun W hm => fWordB_vc NB no kc hm fun B => dkFin ⟨B, rfl, rfl⟩
theorem cloI {F : SHeap} {B FB kc kn : Nat} {x : Fld} (h1 : (kc, .cells #[pt B 0] 90) ∈ F) (h2 : (kn, .cells #[pt FB x.off] 144) ∈ F) (hx : x.ty = .int) : CloAt F B FB x (cloV 137 kc kn) := ⟨kc, kn, h1, .inl ⟨hx, rfl, h2⟩⟩
theorem cloS {F : SHeap} {B FB kc kn : Nat} {x : Fld} (h1 : (kc, .cells #[pt B 0] 90) ∈ F) (h2 : (kn, .cells #[pt FB x.off] 189) ∈ F) (hx : x.ty = .str) : CloAt F B FB x (cloV 139 kc kn) := ⟨kc, kn, h1, .inr (.inl ⟨hx, rfl, h2⟩)⟩
theorem cloT {F : SHeap} {B FB kc kn : Nat} (h1 : (kc, .cells #[pt B 0] 90) ∈ F) (h2 : (kn, .cells #[pt FB 0] 97) ∈ F) : CloAt F B FB .topics (cloV 141 kc kn) := ⟨kc, kn, h1, .inr (.inr (.inl ⟨rfl, rfl, h2⟩))⟩
theorem cloB {F : SHeap} {B FB kc kn : Nat} (h1 : (kc, .cells #[pt B 0] 90) ∈ F) (h2 : (kn, .cells #[pt FB 0] 97) ∈ F) : CloAt F B FB .blocks (cloV 143 kc kn) := ⟨kc, kn, h1, .inr (.inr (.inr (.inl ⟨rfl, rfl, h2⟩)))⟩
theorem cloL {F : SHeap} {B FB kc kn : Nat} (h1 : (kc, .cells #[pt B 0] 90) ∈ F) (h2 : (kn, .cells #[pt FB 0] 97) ∈ F) : CloAt F B FB .label (cloV 145 kc kn) := ⟨kc, kn, h1, .inr (.inr (.inr (.inr ⟨rfl, rfl, h2⟩)))⟩
theorem fieldsOk {F : SHeap} {B FB Bs : Nat} {k : Int} {l : List Fld} {vs : List Value} (h : kfields k = l) (hm : F.getLast? = some (Bs, .cells ⟨vs⟩ 1)) (hc : Clos F B FB l vs) : FieldsOut F B FB k (.slice (some ⟨Bs, 0, none⟩) l.length l.length) :=
  .inr ⟨Bs, vs, by rw [h], List.mem_of_getLast? hm, by rw [h]; exact hc⟩
theorem fields_e {B FB : Nat} {k : Int} : EffW Tryz.prog 100 ⟨[pt B 0, pt FB 0]⟩ [] (fun W => ∃ cs, blkW W FB = some cs ∧ cs[2]? = some (.int .i64 k)) (fun v F => FieldsOut F B FB k v) := by
  rintro W hm ⟨cs, h1, h2⟩
  refine fFields_vc B FB hm fun B1 B2 => CallH.more (numB_e _ _ _) fun v F ⟨nb, hv, hF⟩ => ⟨nb, hv, by rw [hF]; rfl, cs, k, h1, h2, ?_⟩
  refine ⟨fun e => ?_, fun e1 => ⟨fun e => ?_, fun e2 => ⟨fun e => ?_, fun e3 => ⟨fun e => ?_, fun e4 => ⟨fun e => ?_, fun e5 => ⟨fun e => ?_, fun e6 => ⟨fun e => ?_, fun e10 => ⟨fun e => ?_, fun e7 => ⟨fun e => ?_, fun e8 => ⟨fun e => ?_, fun e9 => ?_⟩⟩⟩⟩⟩⟩⟩⟩⟩⟩
  · refine CallH.more (wordB_e _ _ _) fun v F ⟨n1, hv, hF⟩ => ⟨n1, hv, by rw [hF]; rfl, ?_⟩
    refine CallH.more (numB_e _ _ _) fun v F ⟨n2, hv, hF⟩ => ⟨n2, hv, by rw [hF]; rfl, ?_⟩
    refine CallH.more (numB_e _ _ _) fun v F ⟨n3, hv, hF⟩ => ⟨n3, hv, by rw [hF]; rfl, ?_⟩
    refine CallH.more (wordB_e _ _ _) fun v F ⟨n4, hv, hF⟩ => ⟨n4, hv, by rw [hF]; rfl, ?_⟩
    refine CallH.more (wordB_e _ _ _) fun v F ⟨n5, hv, hF⟩ => ⟨n5, hv, by rw [hF]; rfl, fun B3 => dkFin ?_⟩
    exact fieldsOk (l := [.story, .lang, .rev, .base, .title, .author, .topics, .blocks, .label]) (by rw [e]; rfl) rfl ⟨cloI (by simp) (by simp [Fld.off]) rfl, cloS (by simp) (by simp [Fld.off]) rfl, cloI (by simp) (by simp [Fld.off]) rfl, cloI (by simp) (by simp [Fld.off]) rfl, cloS (by simp) (by simp [Fld.off]) rfl, cloS (by simp) (by simp [Fld.off]) rfl, cloT (by simp) (by simp), cloB (by simp) (by simp), cloL (by simp) (by simp), trivial⟩
  · refine CallH.more (numB_e _ _ _) fun v F ⟨n1, hv, hF⟩ => ⟨n1, hv, by rw [hF]; rfl, fun B3 => dkFin ?_⟩
    exact fieldsOk (l := [.story, .editor]) (by rw [e]; rfl) rfl ⟨cloI (by simp) (by simp [Fld.off]) rfl, cloI (by simp) (by simp [Fld.off]) rfl, trivial⟩
  · exact fun B3 => dkFin (fieldsOk (l := [.story, .label]) (by rw [e]; rfl) rfl ⟨cloI (by simp) (by simp [Fld.off]) rfl, cloL (by simp) (by simp), trivial⟩)
  · refine CallH.more (wordB_e _ _ _) fun v F ⟨n1, hv, hF⟩ => ⟨n1, hv, by rw [hF]; rfl, ?_⟩
    refine CallH.more (numB_e _ _ _) fun v F ⟨n2, hv, hF⟩ => ⟨n2, hv, by rw [hF]; rfl, ?_⟩
    refine CallH.more (numB_e _ _ _) fun v F ⟨n3, hv, hF⟩ => ⟨n3, hv, by rw [hF]; rfl, ?_⟩
    refine CallH.more (wordB_e _ _ _) fun v F ⟨n4, hv, hF⟩ => ⟨n4, hv, by rw [hF]; rfl, fun B3 => dkFin ?_⟩
    exact fieldsOk (l := [.story, .lang, .block, .sentence, .text]) (by rw [e]; rfl) rfl ⟨cloI (by simp) (by simp [Fld.off]) rfl, cloS (by simp) (by simp [Fld.off]) rfl, cloI (by simp) (by simp [Fld.off]) rfl, cloI (by simp) (by simp [Fld.off]) rfl, cloS (by simp) (by simp [Fld.off]) rfl, trivial⟩
  · refine CallH.more (wordB_e _ _ _) fun v F ⟨n1, hv, hF⟩ => ⟨n1, hv, by rw [hF]; rfl, fun B3 => dkFin ?_⟩
    exact fieldsOk (l := [.story, .text]) (by rw [e]; rfl) rfl ⟨cloI (by simp) (by simp [Fld.off]) rfl, cloS (by simp) (by simp [Fld.off]) rfl, trivial⟩
  · exact fun B3 => dkFin (fieldsOk (l := [.story]) (by rw [e]; rfl) rfl ⟨cloI (by simp) (by simp [Fld.off]) rfl, trivial⟩)
  · exact fun B3 => dkFin (fieldsOk (l := [.story]) (by rw [e]; rfl) rfl ⟨cloI (by simp) (by simp [Fld.off]) rfl, trivial⟩)
  · refine CallH.more (wordB_e _ _ _) fun v F ⟨n1, hv, hF⟩ => ⟨n1, hv, by rw [hF]; rfl, ?_⟩
    refine CallH.more (wordB_e _ _ _) fun v F ⟨n2, hv, hF⟩ => ⟨n2, hv, by rw [hF]; rfl, fun B3 => dkFin ?_⟩
    exact fieldsOk (l := [.name, .text]) (by rw [e]; rfl) rfl ⟨cloS (by simp) (by simp [Fld.off]) rfl, cloS (by simp) (by simp [Fld.off]) rfl, trivial⟩
  · refine CallH.more (numB_e _ _ _) fun v F ⟨n1, hv, hF⟩ => ⟨n1, hv, by rw [hF]; rfl, ?_⟩
    refine CallH.more (numB_e _ _ _) fun v F ⟨n2, hv, hF⟩ => ⟨n2, hv, by rw [hF]; rfl, ?_⟩
    refine CallH.more (numB_e _ _ _) fun v F ⟨n3, hv, hF⟩ => ⟨n3, hv, by rw [hF]; rfl, fun B3 => dkFin ?_⟩
    exact fieldsOk (l := [.partner, .cls, .unt]) (by rw [e]; rfl) rfl ⟨cloI (by simp) (by simp [Fld.off]) rfl, cloI (by simp) (by simp [Fld.off]) rfl, cloI (by simp) (by simp [Fld.off]) rfl, trivial⟩
  · refine CallH.more (numB_e _ _ _) fun v F ⟨n1, hv, hF⟩ => ⟨n1, hv, by rw [hF]; rfl, ?_⟩
    refine CallH.more (numB_e _ _ _) fun v F ⟨n2, hv, hF⟩ => ⟨n2, hv, by rw [hF]; rfl, fun B3 => dkFin ?_⟩
    exact fieldsOk (l := [.partner, .unt]) (by rw [e]; rfl) rfl ⟨cloI (by simp) (by simp [Fld.off]) rfl, cloI (by simp) (by simp [Fld.off]) rfl, trivial⟩
  · refine dkFin (.inl ⟨?_, rfl⟩)
    unfold kfields
    simp only [e1, e2, e3, e4, e5, e6, e7, e8, e9, e10, if_false]
theorem fld_int {f : Fct} {x : Fld} (h : x.ty = .int) : ∃ n, f.put x = Wire.enc n ∧ (∀ tp tc bp bc ap ac, (f.cells tp tc bp bc ap ac)[x.off]? = some (.int .i64 n)) ∧ (vOk x.ty (f.get x) → okInt n) := by
  cases x <;> first | exact absurd h (by decide) | exact ⟨_, rfl, fun _ _ _ _ _ _ => rfl, id⟩
theorem fld_str {f : Fct} {x : Fld} (h : x.ty = .str) : ∃ s : ByteArray, f.put x = encS (bts s) ∧ (∀ tp tc bp bc ap ac, (f.cells tp tc bp bc ap ac)[x.off]? = some (.string s)) ∧ (vOk x.ty (f.get x) → s.size ≤ 65536) := by
  cases x <;> first | exact absurd h (by decide) | exact ⟨_, rfl, fun _ _ _ _ _ _ => rfl, id⟩
def XPre (S : List Nat) (X : SHeap) (W : World) : Prop := ∀ b c t fz, (b, Obj.cells ⟨c⟩ t fz) ∈ X → lkX S W b c
theorem wClo {X : SHeap} {B FB : Nat} {x : Fld} {v : Value} (h : CloAt X B FB x v) {f : Fct} (hv : vOk x.ty (f.get x)) : ∃ g caps, v = .func (.func g) ⟨[]⟩ ⟨caps⟩ ∧ FnReady Tryz.prog g ∧
    ∀ {l : List UInt8} {p u : Value} {G : SHeap}, KRep B l p u G → l.length ≤ 800000000 → EffW Tryz.prog g ⟨caps⟩ (kH B p u :: G) (fun W => XPre (nm B p u G) X W ∧ FPre (nm B p u G) f FB W) (KOut B (l ++ f.put x) (.tuple #[])) := by
  obtain ⟨kc, kn, h1, ⟨hx, rfl, h2⟩ | ⟨hx, rfl, h2⟩ | ⟨rfl, rfl, h2⟩ | ⟨rfl, rfl, h2⟩ | ⟨rfl, rfl, h2⟩⟩ := h
  · obtain ⟨n, e1, e2, e3⟩ := fld_int (f := f) hx
    refine ⟨_, _, rfl, ⟨_, Tryz.func137, by kernel_rfl, by kernel_rfl⟩, ?_⟩
    rintro l p u G hR hl W hm ⟨hX, cs, hcs, tp, tc, bp, bc, ap, ac, rfl, hF⟩
    have q1 := hX _ _ _ _ h1; have q2 := hX _ _ _ _ h2
    rw [e1]
    refine wNumC_vc kc kn B FB x.off ⟨#[]⟩ 0 p u G hm ⟨_, q1.1, q1.2, rfl, _, q2.1, q2.2, rfl, ?_⟩
    exact CallH.effW0 (wNum_e (e3 hv) hR (by omega)) (fun W' hm' => ⟨_, lkX_old hm' (fun x hx => hx) _ _ hcs, e2 _ _ _ _ _ _⟩) fun _ F' ⟨p', v', G', hu, hL, hR⟩ => ⟨p', v', G', hu, hL, dkFin ⟨_, _, _, rfl, rfl, hR⟩⟩
  · obtain ⟨n, e1, e2, e3⟩ := fld_str (f := f) hx
    refine ⟨_, _, rfl, ⟨_, Tryz.func139, by kernel_rfl, by kernel_rfl⟩, ?_⟩
    rintro l p u G hR hl W hm ⟨hX, cs, hcs, tp, tc, bp, bc, ap, ac, rfl, hF⟩
    have q1 := hX _ _ _ _ h1; have q2 := hX _ _ _ _ h2
    rw [e1]
    refine wWordC_vc kc kn B FB x.off ⟨#[]⟩ 0 p u G hm ⟨_, q1.1, q1.2, rfl, _, q2.1, q2.2, rfl, ?_⟩
    exact CallH.effW0 (wWord_e (e3 hv) hR (by omega)) (fun W' hm' => ⟨_, lkX_old hm' (fun x hx => hx) _ _ hcs, e2 _ _ _ _ _ _⟩) fun _ F' ⟨p', v', G', hu, hL, hR⟩ => ⟨p', v', G', hu, hL, dkFin ⟨_, _, _, rfl, rfl, hR⟩⟩
  · refine ⟨_, _, rfl, ⟨_, Tryz.func141, by kernel_rfl, by kernel_rfl⟩, ?_⟩
    rintro l p u G hR hl W hm ⟨hX, hf⟩
    have q1 := hX _ _ _ _ h1; have q2 := hX _ _ _ _ h2
    refine wTopC_vc kc kn B FB ⟨#[]⟩ 0 p u G hm ⟨_, q1.1, q1.2, rfl, _, q2.1, q2.2, rfl, ?_⟩
    exact CallH.effW0 (wTopics_e hv hR hl) (fun W' hm' => hf.old hm' fun x hx => hx) fun _ F' ⟨p', v', G', hu, hL, hR⟩ => ⟨p', v', G', hu, hL, dkFin ⟨_, _, _, rfl, rfl, hR⟩⟩
  · refine ⟨_, _, rfl, ⟨_, Tryz.func143, by kernel_rfl, by kernel_rfl⟩, ?_⟩
    rintro l p u G hR hl W hm ⟨hX, hf⟩
    have q1 := hX _ _ _ _ h1; have q2 := hX _ _ _ _ h2
    refine wBlkC_vc kc kn B FB ⟨#[]⟩ 0 p u G hm ⟨_, q1.1, q1.2, rfl, _, q2.1, q2.2, rfl, ?_⟩
    exact CallH.effW0 (wBlocks_e hv hR hl) (fun W' hm' => hf.old hm' fun x hx => hx) fun _ F' ⟨p', v', G', hu, hL, hR⟩ => ⟨p', v', G', hu, hL, dkFin ⟨_, _, _, rfl, rfl, hR⟩⟩
  · refine ⟨_, _, rfl, ⟨_, Tryz.func145, by kernel_rfl, by kernel_rfl⟩, ?_⟩
    rintro l p u G hR hl W hm ⟨hX, hf⟩
    have q1 := hX _ _ _ _ h1; have q2 := hX _ _ _ _ h2
    refine wLabC_vc kc kn B FB ⟨#[]⟩ 0 p u G hm ⟨_, q1.1, q1.2, rfl, _, q2.1, q2.2, rfl, ?_⟩
    exact CallH.effW0 (wLabel_e hv hR hl) (fun W' hm' => hf.old hm' fun x hx => hx) fun _ F' ⟨p', v', G', hu, hL, hR⟩ => ⟨p', v', G', hu, hL, dkFin ⟨_, _, _, rfl, rfl, hR⟩⟩
theorem put_len {f : Fct} {x : Fld} (h : vOk x.ty (f.get x)) : (f.put x).length ≤ 400000 := by
  cases hx : x.ty with
  | int =>
    obtain ⟨n, e1, _, _⟩ := fld_int (f := f) hx
    rw [e1]; have := enc_len n; omega
  | str =>
    obtain ⟨s, e1, _, e3⟩ := fld_str (f := f) hx
    have := e3 h
    rw [e1]; have h2 := encS_len (bts s); rw [bts_len] at h2; omega
  | topics =>
    have hx : x = .topics := by cases x <;> first | rfl | exact absurd hx (by decide)
    subst hx
    have h : vOk .topics f.topics := h
    have h1 := h.1
    have h2 := flat_len (e := fun s : ByteArray => encS (bts s)) (m := 65546) f.topics (fun x hx => by
      have := h.2 x hx; have h2 := encS_len (bts x); rw [bts_len] at h2; omega)
    have h3 : 65546 * f.topics.length ≤ 65546 * 4 := Nat.mul_le_mul_left _ h1
    have h4 := enc_len (f.topics.length : Int)
    show (Wire.enc (f.topics.length : Int) ++ f.topics.flatMap fun s : ByteArray => encS (bts s)).length ≤ _
    rw [List.length_append]; omega
  | blocks =>
    have hx : x = .blocks := by cases x <;> first | rfl | exact absurd hx (by decide)
    subst hx
    have h : listOk f.blocks = true := h
    have h1 := encL_le h
    have h2 := encS_len (encL f.blocks)
    show (encS (encL f.blocks)).length ≤ _
    omega
  | label =>
    have hx : x = .label := by cases x <;> first | rfl | exact absurd hx (by decide)
    subst hx
    have h : vOk .label f.lab := h
    obtain ⟨v1, v2, v3, v4, v5⟩ := h
    have h2 := flat_len (e := Wire.enc) (m := 10) f.lab.after (fun x _ => enc_len x)
    have h3 := enc_len f.lab.unt; have h4 := enc_len (f.lab.after.length : Int); have h5 := enc_len f.lab.appr; have h6 := enc_len f.lab.den
    show (Wire.enc f.lab.unt ++ (Wire.enc (f.lab.after.length : Int) ++ (f.lab.after.flatMap Wire.enc ++ (Wire.enc f.lab.appr ++ Wire.enc f.lab.den)))).length ≤ _
    simp only [List.length_append]; omega
theorem kfields_len (k : Int) : (kfields k).length ≤ 9 := by
  unfold kfields
  repeat' split
  all_goals decide
theorem encF_len {f : Fct} (h : f.Good) : (encF f).length ≤ 4000000 := by
  have h1 := flat_len (e := f.put) (m := 400000) (kfields f.kind) (fun x hx => put_len (h.fields x hx))
  have h2 : 400000 * (kfields f.kind).length ≤ 400000 * 9 := Nat.mul_le_mul_left _ (kfields_len _)
  have h3 := enc_len f.n; have h4 := enc_len f.time; have h5 := enc_len f.kind
  rw [encF, Fct.head]; simp only [List.length_append]; omega
def FOut (B : Nat) (s : List UInt8) (v : Value) (L' : SHeap) : Prop := ∃ p' v' G' X, v = .tuple #[] ∧ L' = kH B p' v' :: (G' ++ X) ∧ KRep B s p' v' G'
theorem xpre_of {X L0 : SHeap} {S : List Nat} {w0 W : World} (hm : Mem (L0 ++ X) S w0 W) : XPre (L0.map (·.1)) X W :=
  fun b c t fz h => lkX_in (told := X) (F := L0) (hm.perm List.perm_append_comm) h
theorem wFact_loop {B FB Bs : Nat} {f : Fct} {S : List Nat} {w0 : World} {X : SHeap} {vs : List Value} (hf : FPre S f FB w0) (hg : f.Good) (hrow : (Bs, .cells ⟨vs⟩ 1) ∈ X) (hc : Clos X B FB (kfields f.kind) vs) {l : List UInt8} (hl : l.length ≤ 1000) :
    ∀ (g i : Nat) (p v : Value) (G : SHeap), g + i = (kfields f.kind).length → KRep B (l ++ ((kfields f.kind).take i).flatMap f.put) p v G →
      wFact_c0 B (some ⟨Bs, 0, none⟩) (kfields f.kind).length (kfields f.kind).length ((kfields f.kind).length : Int) (i : Int) false ⟨#[]⟩ 0 p v (G ++ X) S w0 (DK (FOut B (l ++ (kfields f.kind).flatMap f.put)) S w0)
  | 0, i, p, v, G, hi, h => by
    apply wFact_c0_vc
    rw [List.take_of_length_le (by omega)] at h
    exact no (by omega) (dkFin ⟨_, _, _, _, rfl, rfl, h⟩)
  | g + 1, i, p, v, G, hi, h => by
    apply wFact_c0_vc
    have hlt : i < (kfields f.kind).length := by omega
    obtain ⟨u, hu1, hu2⟩ := hc.get i hlt
    have hvk := hg.fields _ (List.getElem_mem hlt)
    obtain ⟨gf, caps, e1, e2, e3⟩ := wClo hu2 (f := f) hvk
    have hlen := flat_len (e := f.put) (m := 400000) ((kfields f.kind).take i) (fun x hx => put_len (hg.fields x (List.mem_of_mem_take hx)))
    have h9 := kfields_len f.kind
    rw [List.length_take] at hlen
    have hmin : 400000 * min i (kfields f.kind).length ≤ 400000 * 9 := Nat.mul_le_mul_left _ (by omega)
    refine yes (by omega) ⟨Bs, 0, rfl, by omega, vs, u, ⟨_, _, List.mem_cons_of_mem _ (List.mem_append_right _ hrow)⟩, by simpa using hu1, gf, caps, e1, e2, ?_⟩
    refine CallP.of ?_
    refine CallH.effW (L0 := kH B p v :: G) (L1 := X) (e3 h (by rw [List.length_append]; omega)) (fun W' hm' => ⟨xpre_of hm', hf.old hm' fun x hx => List.mem_append_left _ hx⟩) (List.Perm.refl _) fun _ F' ⟨p', v', G', hu, hL, hR⟩ => ⟨kH B p' v' :: (G' ++ X), by rw [hL]; exact List.Perm.refl _, p', v', G' ++ X, hu, rfl, ?_⟩
    rw [wi64 (by omega), show (i : Int) + 1 = ((i + 1 : Nat) : Int) by omega]
    refine wFact_loop hf hg hrow hc hl g (i + 1) p' v' G' (by omega) ?_
    rw [flat_take hlt, ← List.append_assoc]
    exact hR
theorem wFact_e {B FB : Nat} {f : Fct} {p v : Value} {G : SHeap} (hg : f.Good) (h : KRep B [] p v G) :
    EffW Tryz.prog 56 ⟨[.pointer (some ⟨B, 0, none⟩), .pointer (some ⟨FB, 0, none⟩)]⟩ (kH B p v :: G) (FPre (nm B p v G) f FB) (FOut B (encF f)) := by
  intro W hm hf
  have hf' := hf
  obtain ⟨cs, hcs, tp, tc, bp, bc, ap, ac, rfl, hF⟩ := hf
  have i1 := hg.n; have i2 := hg.time; have i3 := hg.kind
  have h3 := enc_len f.n; have h4 := enc_len f.time; have h5 := enc_len f.kind
  refine wFact_vc B FB ⟨#[]⟩ 0 p v G hm ?_
  refine CallH.effW0 (wNum_e (n := f.n) (okI (by omega)) h (by simp)) (fun W' hm' => ⟨_, lkX_old hm' (fun x hx => hx) _ _ hcs, rfl⟩) fun u F' ⟨p1, v1, G1, hu, hL, hR⟩ => ⟨p1, v1, G1, hu, hL, ?_⟩
  refine CallH.effW0 (wNum_e (n := f.time) (okI (by omega)) hR (by rw [List.length_append, List.length_nil]; omega)) (fun W' hm' => ⟨_, lkX_old hm' (fun x hx => hx) _ _ hcs, rfl⟩) fun u F' ⟨p2, v2, G2, hu, hL, hR⟩ => ⟨p2, v2, G2, hu, hL, ?_⟩
  refine CallH.effW0 (wNum_e (n := f.kind) (okI (by omega)) hR (by simp only [List.length_append, List.length_nil]; omega)) (fun W' hm' => ⟨_, lkX_old hm' (fun x hx => hx) _ _ hcs, rfl⟩) fun u F' ⟨p3, v3, G3, hu, hL, hR⟩ => ⟨p3, v3, G3, hu, hL, ?_⟩
  refine CallH.effW (L0 := []) (L1 := kH B p3 v3 :: G3) (fields_e (k := f.kind)) (fun W' hm' => ⟨_, (lkX_old hm' (F := []) (by simp) _ _ hcs).2, rfl⟩) (by simp) fun u X hX => ?_
  rcases hX with ⟨h0, _⟩ | ⟨Bs, vs, rfl, hrow, hc⟩
  · exact absurd h0 (kfields_pos hg.kind)
  refine ⟨kH B p3 v3 :: (G3 ++ X), List.perm_append_comm, _, _, _, G3 ++ X, rfl, rfl, fun h0 => ?_, fun h0 => ?_⟩
  · have := List.length_pos_iff.2 (kfields_pos hg.kind)
    omega
  have := wFact_loop (B := B) (FB := FB) hf' hg hrow hc (l := f.head) (by rw [Fct.head]; simp only [List.length_append]; omega) (kfields f.kind).length 0 p3 v3 G3 (by omega) (by simpa [Fct.head] using hR)
  exact this
def encFAns (f : Fct) : Value := if f.ok = true then .tuple #[.string (ba (encF f)), .int .i64 0] else .tuple #[.string ⟨#[]⟩, .int .i64 50]
theorem fEncode_c {W : World} {f : Fct} {tp bp ap : Option Addr} {tc bc ac : Nat} (h : FAt (lkW W) f tp tc bp bc ap ac) : PW Tryz.prog 19 ⟨[.agg ⟨f.cells tp tc bp bc ap ac⟩]⟩ W (encFAns f) := by
  refine fEncode_vc f tp tc bp bc ap ac (Mem.start [] W) fun B => ?_
  refine CallH.pw (fun W' hm' => fValid_c (h.mono (lkW_kept hm'))) ⟨_, rfl, rfl, fun hv => fun B1 => ?_, fun hv => finPW (by rw [encFAns, hv]; rfl)⟩
  have hg := Fct.good hv
  have hlen := encF_len hg
  refine CallH.effWT [(B, Obj.cells ⟨f.cells tp tc bp bc ap ac⟩ 28)] (wFact_e hg (KRep.new B1)) (fun W' hm' => ⟨_, lkX_in hm' (List.mem_singleton.2 rfl), _, _, _, _, _, _, rfl, h.mono fun b c hb => lkX_of hm' b c (.inr hb)⟩) fun u F' ⟨p', v', G', X, hu, hL, hR⟩ => ⟨p', v', G' ++ X, hu, by rw [hL]; rfl, ?_⟩
  refine CallH.eff (L0 := kH B1 p' v' :: G') (L1 := X ++ [(B, Obj.cells ⟨f.cells tp tc bp bc ap ac⟩ 28)]) (kstring_e hR (by omega)) ?_ fun u F' hu => ⟨(B, Obj.cells ⟨f.cells tp tc bp bc ap ac⟩ 28) :: (F' ++ X), ?_, _, F' ++ X, hu, rfl, finPW ?_⟩
  · show (kH B1 p' v' :: G' ++ (X ++ [(B, Obj.cells ⟨f.cells tp tc bp bc ap ac⟩ 28)])).Perm ([(B, Obj.cells ⟨f.cells tp tc bp bc ap ac⟩ 28)] ++ (kH B1 p' v' :: (G' ++ X)))
    rw [← List.append_assoc]
    exact List.perm_append_comm
  · rw [← List.append_assoc]
    exact List.perm_append_comm (l₁ := F' ++ X) (l₂ := [(B, Obj.cells ⟨f.cells tp tc bp bc ap ac⟩ 28)])
  · rw [encFAns, hv]; rfl
end Go.Eng
namespace Go.Eng
open Go Go.RowKit Go.Proofs
set_option linter.unusedVariables false
set_option maxRecDepth 100000
theorem rNum_vc (B : Nat) (NB : Nat) (no : Nat) (tx : ByteArray) (ca : Int) (tn : Nat) (cs : List Value) {R : Ending → World → Prop} {S : List Nat} {w0 W : World} (hm : Mem [(B, .cells #[.bool true, .string tx, .int .i64 ca, .pointer none, .slice none 0 0] 95), (NB, .cells ⟨cs⟩ tn)] S w0 W)
  (H :
   ∃ (r1 : Int) (r21 : Int) (r31 : Int), (QCall Tryz.prog 111 ⟨[.string tx, .int .i64 ca]⟩ [(B, .cells #[.bool true, .string tx, .int .i64 ca, .pointer none, .slice none 0 0] 95), (NB, .cells ⟨cs⟩ tn)] S w0 (.tuple #[.int .i64 r1, .int .i64 r21, .int .i64 r31])) ∧
   ((¬ (r31 = (0 : Int))) →
    FinP R [(B, .cells #[.bool true, .string tx, .int .i64 ca, .pointer none, .slice none 0 0] 95), (NB, .cells ⟨cs⟩ tn)] S w0 [{ v := .iface 31 (.int .i64 (10 : Int)), recovered := false }]) ∧
    ((r31 = (0 : Int)) →
    (no < (cs).length) ∧
    Fin R [(B, .cells #[.bool true, .string tx, .int .i64 r21, .pointer none, .slice none 0 0] 95), (NB, .cells ⟨((cs).set no (.int .i64 r1))⟩ tn)] S w0 (.tuple #[]))) :
  Calls Tryz.prog 99 ⟨[.pointer (some ⟨B, 0, none⟩), .pointer (some ⟨NB, no, none⟩)]⟩ W R := by
 refine AtE.calls (nt := 49) Tryz.func99 (by kernel_rfl) hm ?_
 refine AtE.ru 6 ?_
 refine AtE.load 0 0 (T := 4) (v := .bool true) (by kernel_rfl) ?_
 refine AtE.ru 5 ?_
 refine AtE.norm (k' := [.code (sub (Eng.body Tryz.f99) [1,0]), .code (sub (Eng.body Tryz.f99) [1,1])]) (e' := [(0, .pointer (some ⟨B, 0, none⟩)), (1, .pointer (some ⟨NB, no, none⟩))]) (L' := [(B, .cells #[.bool true, .string tx, .int .i64 ca, .pointer none, .slice none 0 0] 95), (NB, .cells ⟨cs⟩ tn)]) ?_ (by kernel_rfl)
 refine AtE.draw 16 (by kernel_rfl) ?_
 refine AtQ.pu ?_
 refine AtQ.pu ?_
 refine AtQ.pu ?_
 refine AtQ.load 0 1 (T := 9) (v := .string tx) (by kernel_rfl) ?_
 refine AtQ.pu ?_
 refine AtQ.pu ?_
 refine AtQ.pu ?_
 refine AtQ.load 0 2 (T := 3) (v := .int .i64 ca) (by kernel_rfl) ?_
 obtain ⟨r1, r21, r31, hq, H⟩ := H
 refine AtQ.call 111 ⟨[.string tx, .int .i64 ca]⟩ (fun W => by kernel_rfl) (by kernel_rfl) hq ?_
 refine AtQ.pu ?_
 refine AtQ.pu ?_
 refine AtQ.pu ?_
 refine AtQ.pu ?_
 refine AtQ.pu ?_
 refine AtQ.pu ?_
 refine AtQ.pu ?_
 refine AtQ.done (by kernel_rfl) ?_
 refine AtE.ru 7 ?_
 refine AtE.splitN 40 (p := r31 = (0 : Int)) (by kernel_rfl) (fun h1' => ?_) (fun h1' => ?_)
 ·replace H := H.1 h1'
  refine AtE.ru 3 ?_
  refine AtE.panic (t := 31) (v := .int .i64 (10 : Int)) (by kernel_rfl) ?_
  exact RaiseE.nrm Tryz.func99 H
 ·replace H := H.2 h1'
  refine AtE.ru 8 ?_
  refine AtE.storeS 1 (off := no) (lo := 0) (hi := 0) (T := 3) (v := .int .i64 r1) (c := cs) (by kernel_rfl) H.1 (.inr (Nat.zero_le _)) ?_
  replace H := H.2
  refine AtE.ru 2 ?_
  refine AtE.store 0 2 (T := 3) (v := .int .i64 r21) (by kernel_rfl) ?_
  refine AtE.ru 1 ?_
  exact AtE.ret Tryz.func99 (by kernel_rfl) H
theorem rWord_vc (B : Nat) (NB : Nat) (no : Nat) (tx : ByteArray) (ca : Int) (tn : Nat) (cs : List Value) {R : Ending → World → Prop} {S : List Nat} {w0 W : World} (hm : Mem [(B, .cells #[.bool true, .string tx, .int .i64 ca, .pointer none, .slice none 0 0] 95), (NB, .cells ⟨cs⟩ tn)] S w0 W)
  (H :
   ∃ (r1 : ByteArray) (r21 : Int) (r31 : Int), (QCall Tryz.prog 156 ⟨[.string tx, .int .i64 ca]⟩ [(B, .cells #[.bool true, .string tx, .int .i64 ca, .pointer none, .slice none 0 0] 95), (NB, .cells ⟨cs⟩ tn)] S w0 (.tuple #[.string r1, .int .i64 r21, .int .i64 r31])) ∧
   ((¬ (r31 = (0 : Int))) →
    FinP R [(B, .cells #[.bool true, .string tx, .int .i64 ca, .pointer none, .slice none 0 0] 95), (NB, .cells ⟨cs⟩ tn)] S w0 [{ v := .iface 31 (.int .i64 (10 : Int)), recovered := false }]) ∧
    ((r31 = (0 : Int)) →
    (no < (cs).length) ∧
    Fin R [(B, .cells #[.bool true, .string tx, .int .i64 r21, .pointer none, .slice none 0 0] 95), (NB, .cells ⟨((cs).set no (.string r1))⟩ tn)] S w0 (.tuple #[]))) :
  Calls Tryz.prog 140 ⟨[.pointer (some ⟨B, 0, none⟩), .pointer (some ⟨NB, no, none⟩)]⟩ W R := by
 refine AtE.calls (nt := 49) Tryz.func140 (by kernel_rfl) hm ?_
 refine AtE.ru 6 ?_
 refine AtE.load 0 0 (T := 4) (v := .bool true) (by kernel_rfl) ?_
 refine AtE.ru 5 ?_
 refine AtE.norm (k' := [.code (sub (Eng.body Tryz.f140) [1,0]), .code (sub (Eng.body Tryz.f140) [1,1])]) (e' := [(0, .pointer (some ⟨B, 0, none⟩)), (1, .pointer (some ⟨NB, no, none⟩))]) (L' := [(B, .cells #[.bool true, .string tx, .int .i64 ca, .pointer none, .slice none 0 0] 95), (NB, .cells ⟨cs⟩ tn)]) ?_ (by kernel_rfl)
 refine AtE.draw 16 (by kernel_rfl) ?_
 refine AtQ.pu ?_
 refine AtQ.pu ?_
 refine AtQ.pu ?_
 refine AtQ.load 0 1 (T := 9) (v := .string tx) (by kernel_rfl) ?_
 refine AtQ.pu ?_
 refine AtQ.pu ?_
 refine AtQ.pu ?_
 refine AtQ.load 0 2 (T := 3) (v := .int .i64 ca) (by kernel_rfl) ?_
 obtain ⟨r1, r21, r31, hq, H⟩ := H
 refine AtQ.call 156 ⟨[.string tx, .int .i64 ca]⟩ (fun W => by kernel_rfl) (by kernel_rfl) hq ?_
 refine AtQ.pu ?_
 refine AtQ.pu ?_
 refine AtQ.pu ?_
 refine AtQ.pu ?_
 refine AtQ.pu ?_
 refine AtQ.pu ?_
 refine AtQ.pu ?_
 refine AtQ.done (by kernel_rfl) ?_
 refine AtE.ru 7 ?_
 refine AtE.splitN 40 (p := r31 = (0 : Int)) (by kernel_rfl) (fun h1' => ?_) (fun h1' => ?_)
 ·replace H := H.1 h1'
  refine AtE.ru 3 ?_
  refine AtE.panic (t := 31) (v := .int .i64 (10 : Int)) (by kernel_rfl) ?_
  exact RaiseE.nrm Tryz.func140 H
 ·replace H := H.2 h1'
  refine AtE.ru 8 ?_
  refine AtE.storeS 1 (off := no) (lo := 0) (hi := 0) (T := 9) (v := .string r1) (c := cs) (by kernel_rfl) H.1 (.inr (Nat.zero_le _)) ?_
  replace H := H.2
  refine AtE.ru 2 ?_
  refine AtE.store 0 2 (T := 3) (v := .int .i64 r21) (by kernel_rfl) ?_
  refine AtE.ru 1 ?_
  exact AtE.ret Tryz.func140 (by kernel_rfl) H
abbrev rCountH0 (B : Nat) (tx : ByteArray) (ca1 : Int) (B1 : Nat) (m : Int) : SHeap := [(B, .cells #[.bool true, .string tx, .int .i64 ca1, .pointer none, .slice none 0 0] 95), (B1, .cells #[.int .i64 m] 3)]
theorem rCount_vc (B : Nat) (size : Int) (most : Int) (tx : ByteArray) (ca : Int) {R : Ending → World → Prop} {S : List Nat} {w0 W : World} (hm : Mem [(B, .cells #[.bool true, .string tx, .int .i64 ca, .pointer none, .slice none 0 0] 95)] S w0 W)
  (H :
   ∀ B1 : Nat,
   CallP Tryz.prog 99 ⟨[.pointer (some ⟨B, 0, none⟩), .pointer (some ⟨B1, 0, none⟩)]⟩ [(B, .cells #[.bool true, .string tx, .int .i64 ca, .pointer none, .slice none 0 0] 95), (B1, .cells #[.int .i64 size] 3)] S w0 (fun v L' => ∃ (ca1 : Int) (m : Int), v = (.tuple #[]) ∧ L' = (rCountH0 B tx ca1 B1 m) ∧
    (((0 : Int) ≤ m) →
     ((¬ (m ≤ most)) →
      FinP R (rCountH0 B tx ca1 B1 m) S w0 [{ v := .iface 31 (.int .i64 (50 : Int)), recovered := false }]) ∧
      ((m ≤ most) →
      Fin R (rCountH0 B tx ca1 B1 m) S w0 (.int .i64 m))) ∧
     ((¬ ((0 : Int) ≤ m)) →
     FinP R (rCountH0 B tx ca1 B1 m) S w0 [{ v := .iface 31 (.int .i64 (50 : Int)), recovered := false }])) (fun ch L' => FinP R L' S w0 ch)) :
  Calls Tryz.prog 173 ⟨[.pointer (some ⟨B, 0, none⟩), .int .i64 size, .int .i64 most]⟩ W R := by
 refine AtE.calls (nt := 21) Tryz.func173 (by kernel_rfl) hm ?_
 refine AtE.ru 2 ?_
 refine AtE.new (fun B => .pointer (some ⟨B, 0, none⟩)) (.cells #[.int .i64 size] 3) (fun W => by kernel_rfl) (by kernel_rfl) (fun B1 => ?_)
 replace H := H B1
 refine AtE.ru 5 ?_
 refine AtE.callP 99 ⟨[.pointer (some ⟨B, 0, none⟩), .pointer (some ⟨B1, 0, none⟩)]⟩ (fun W => by kernel_rfl) (by kernel_rfl) H ?_ (fun ch L' h => RaiseE.nrm Tryz.func173 h)
 clear H
 rintro _ _ ⟨ca1, m, rfl, rfl, H⟩
 refine AtE.ru 7 ?_
 refine AtE.load 0 0 (T := 4) (v := .bool true) (by kernel_rfl) ?_
 refine AtE.ru 1 ?_
 refine AtE.load 1 0 (T := 3) (v := .int .i64 m) (by kernel_rfl) ?_
 refine AtE.ru 1 ?_
 refine AtE.norm (k' := [.inRegion (regOps [.code (sub (Eng.body Tryz.f173) [1,1,0,0])]) [7,8,9], .code (sub (Eng.body Tryz.f173) [1,1,0,1]), .code (sub (Eng.body Tryz.f173) [1,1,1])]) (e' := [(4, .pointer (some ⟨B1, 0, none⟩)), (13, .bool true), (14, .int .i64 m), (15, .int .i64 most)]) (L' := (rCountH0 B tx ca1 B1 m)) ?_ (by kernel_rfl)
 refine AtE.inl 58 ⟨[.int .i64 m, .int .i64 (0 : Int), .int .i64 most]⟩ (fun W => by kernel_rfl) (by kernel_rfl) (fun W hm => AtE.calls (nt := 15) Tryz.func58 (by kernel_rfl) hm ?_)
 refine AtE.ru 10 ?_
 refine AtE.splitP 10 (p := (0 : Int) ≤ m) (by kernel_rfl) (fun h1' => ?_) (fun h1' => ?_)
 ·replace H := H.1 h1'
  refine AtE.ru 6 ?_
  refine AtE.retK (v := (.bool (decide (m ≤ most)))) Tryz.func58 (by kernel_rfl) ?_
  refine AtE.ru 3 ?_
  refine AtE.splitN 18 (p := m ≤ most) (by kernel_rfl) (fun h2' => ?_) (fun h2' => ?_)
  ·replace H := H.1 h2'
   refine AtE.ru 3 ?_
   refine AtE.panic (t := 31) (v := .int .i64 (50 : Int)) (by kernel_rfl) ?_
   exact RaiseE.nrm Tryz.func173 H
  ·replace H := H.2 h2'
   refine AtE.ru 4 ?_
   refine AtE.load 1 0 (T := 3) (v := .int .i64 m) (by kernel_rfl) ?_
   refine AtE.ru 2 ?_
   exact AtE.ret Tryz.func173 (by kernel_rfl) H
 ·replace H := H.2 h1'
  refine AtE.ru 6 ?_
  refine AtE.retK (v := (.bool false)) Tryz.func58 (by kernel_rfl) ?_
  refine AtE.ru 6 ?_
  refine AtE.panic (t := 31) (v := .int .i64 (50 : Int)) (by kernel_rfl) ?_
  exact RaiseE.nrm Tryz.func173 H
end Go.Eng
namespace Go.Eng
open Go Go.RowKit Go.Proofs
set_option linter.unusedVariables false
set_option maxRecDepth 100000
abbrev rTopicsH0 (B2 : Nat) (tx : ByteArray) (m2 : Int) (B3 : Nat) (x : Fct) (B4 : Nat) (m9_l : Nat) (m9_c : Nat) (xbp : Option Addr) (xbc : Nat) (xap : Option Addr) (xac : Nat) (cs : List Value) : SHeap := [(B2, .cells #[.bool true, .string tx, .int .i64 m2, .pointer none, .slice none 0 0] 95), (B3, .cells #[.int .i64 x.n, .int .i64 x.time, .int .i64 x.kind, .int .i64 x.story, .string x.lang, .int .i64 x.rev, .int .i64 x.base, .string x.title, .string x.author, .slice (some ⟨B4, 0, none⟩) m9_l m9_c, .slice xbp x.blocks.length xbc, .int .i64 x.lab.unt, .slice xap x.lab.after.length xac, .int .i64 x.lab.appr, .int .i64 x.lab.den, .int .i64 x.editor, .int .i64 x.block, .int .i64 x.sentence, .string x.text, .string x.name, .int .i64 x.partner, .int .i64 x.cls, .int .i64 x.unt] 28), (B4, .cells ⟨cs⟩ 9)]
abbrev rTopicsH1 (B : Nat) (tx : ByteArray) (ca : Int) (FB : Nat) (x : Fct) (xtp : Option Addr) (xtc : Nat) (xbp : Option Addr) (xbc : Nat) (xap : Option Addr) (xac : Nat) : SHeap := [(B, .cells #[.bool true, .string tx, .int .i64 ca, .pointer none, .slice none 0 0] 95), (FB, .cells #[.int .i64 x.n, .int .i64 x.time, .int .i64 x.kind, .int .i64 x.story, .string x.lang, .int .i64 x.rev, .int .i64 x.base, .string x.title, .string x.author, .slice xtp x.topics.length xtc, .slice xbp x.blocks.length xbc, .int .i64 x.lab.unt, .slice xap x.lab.after.length xac, .int .i64 x.lab.appr, .int .i64 x.lab.den, .int .i64 x.editor, .int .i64 x.block, .int .i64 x.sentence, .string x.text, .string x.name, .int .i64 x.partner, .int .i64 x.cls, .int .i64 x.unt] 28)]
def rTopics_c0 (x : Fct) (xtp : Option Addr) (xtc : Nat) (xbp : Option Addr) (xbc : Nat) (xap : Option Addr) (xac : Nat) (tx : ByteArray) (B2 : Nat) (B3 : Nat) (B4 : Nat) (t23 : Int) (t24 : Int) (m2 : Int) (m9_l : Nat) (m9_c : Nat) (cs : List Value) (S : List Nat) (w0 : World) (R : Ending → World → Prop) : Prop :=
 AtE Tryz.prog 142 35 [.code (sub (Eng.body Tryz.f142) [1,1,1,0,0]), .inLoop (sub (Eng.body Tryz.f142) [1,1,1,0,0]), .inBlock 0] [(0, .pointer (some ⟨B2, 0, none⟩)), (1, .pointer (some ⟨B3, 9, none⟩)), (23, .int .i64 t23), (24, .int .i64 t24)] (rTopicsH0 B2 tx m2 B3 x B4 m9_l m9_c xbp xbc xap xac cs) S w0 (nrm R)
theorem rTopics_c0_vc (x : Fct) (xtp : Option Addr) (xtc : Nat) (xbp : Option Addr) (xbc : Nat) (xap : Option Addr) (xac : Nat) (tx : ByteArray) (B2 : Nat) (B3 : Nat) (B4 : Nat) (t23 : Int) (t24 : Int) (m2 : Int) (m9_l : Nat) (m9_c : Nat) (cs : List Value) {R : Ending → World → Prop} {S : List Nat} {w0 : World}
  (H :
   ((t24 < t23) →
    (0 ≤ t24 ∧ t24 < m9_l) ∧
    CallP Tryz.prog 140 ⟨[.pointer (some ⟨B2, 0, none⟩), .pointer (some ⟨B4, (Int.toNat t24), none⟩)]⟩ (rTopicsH0 B2 tx m2 B3 x B4 m9_l m9_c xbp xbc xap xac cs) S w0 (fun v L' => ∃ (ca2 : Int) (cs1 : List Value), v = (.tuple #[]) ∧ L' = [(B2, .cells #[.bool true, .string tx, .int .i64 ca2, .pointer none, .slice none 0 0] 95), (B3, .cells #[.int .i64 x.n, .int .i64 x.time, .int .i64 x.kind, .int .i64 x.story, .string x.lang, .int .i64 x.rev, .int .i64 x.base, .string x.title, .string x.author, .slice (some ⟨B4, 0, none⟩) m9_l m9_c, .slice xbp x.blocks.length xbc, .int .i64 x.lab.unt, .slice xap x.lab.after.length xac, .int .i64 x.lab.appr, .int .i64 x.lab.den, .int .i64 x.editor, .int .i64 x.block, .int .i64 x.sentence, .string x.text, .string x.name, .int .i64 x.partner, .int .i64 x.cls, .int .i64 x.unt] 28), (B4, .cells ⟨cs1⟩ 9)] ∧
     rTopics_c0 x xtp xtc xbp xbc xap xac tx B2 B3 B4 t23 (IntKind.i64.wrap (t24 + (1 : Int))) ca2 m9_l m9_c cs1 S w0 R) (fun ch L' => FinP R L' S w0 ch)) ∧
    ((¬ (t24 < t23)) →
    Fin R (rTopicsH0 B2 tx m2 B3 x B4 m9_l m9_c xbp xbc xap xac cs) S w0 (.tuple #[]))) :
  rTopics_c0 x xtp xtc xbp xbc xap xac tx B2 B3 B4 t23 t24 m2 m9_l m9_c cs S w0 R := by
 unfold rTopics_c0
 refine AtE.ru 5 ?_
 refine AtE.splitP 25 (p := t24 < t23) (by kernel_rfl) (fun h1' => ?_) (fun h1' => ?_)
 ·replace H := H.1 h1'
  refine AtE.ru 13 ?_
  refine AtE.load 1 9 (T := 22) (v := .slice (some ⟨B4, 0, none⟩) m9_l m9_c) (by kernel_rfl) ?_
  refine AtE.ru 1 ?_
  refine AtE.indexAddrL (E := 9) (b := B4) (o := 0) (len := m9_l) (cap := m9_c) (sz := 1) (o' := (Int.toNat t24)) (kd := .i64) (i := t24) (by kernel_rfl) H.1 (by omega) ?_
  replace H := H.2
  refine AtE.callP 140 ⟨[.pointer (some ⟨B2, 0, none⟩), .pointer (some ⟨B4, (Int.toNat t24), none⟩)]⟩ (fun W => by kernel_rfl) (by kernel_rfl) H ?_ (fun ch L' h => RaiseE.nrm Tryz.func142 h)
  clear H
  rintro _ _ ⟨ca2, cs1, rfl, rfl, H⟩
  refine AtE.ru 7 ?_
  exact AtE.cut [0,1,2] H (by kernel_rfl)
 ·replace H := H.2 h1'
  refine AtE.ru 2 ?_
  exact AtE.ret Tryz.func142 (by kernel_rfl) H
theorem rTopics_vc (B : Nat) (FB : Nat) (tx : ByteArray) (ca : Int) (x : Fct) (xtp : Option Addr) (xtc : Nat) (xbp : Option Addr) (xbc : Nat) (xap : Option Addr) (xac : Nat) {R : Ending → World → Prop} {S : List Nat} {w0 W : World} (hm : Mem (rTopicsH1 B tx ca FB x xtp xtc xbp xbc xap xac) S w0 W)
  (H :
   CallP Tryz.prog 173 ⟨[.pointer (some ⟨B, 0, none⟩), .int .i64 (x.topics.length : Int), .int .i64 (4 : Int)]⟩ (rTopicsH1 B tx ca FB x xtp xtc xbp xbc xap xac) S w0 (fun v L' => ∃ (r1 : Int) (ca1 : Int), v = (.int .i64 r1) ∧ L' = [(B, .cells #[.bool true, .string tx, .int .i64 ca1, .pointer none, .slice none 0 0] 95), (FB, .cells #[.int .i64 x.n, .int .i64 x.time, .int .i64 x.kind, .int .i64 x.story, .string x.lang, .int .i64 x.rev, .int .i64 x.base, .string x.title, .string x.author, .slice xtp x.topics.length xtc, .slice xbp x.blocks.length xbc, .int .i64 x.lab.unt, .slice xap x.lab.after.length xac, .int .i64 x.lab.appr, .int .i64 x.lab.den, .int .i64 x.editor, .int .i64 x.block, .int .i64 x.sentence, .string x.text, .string x.name, .int .i64 x.partner, .int .i64 x.cls, .int .i64 x.unt] 28)] ∧
    (0 ≤ r1 ∧ r1 ≤ r1 ∧ 16 * r1 ≤ 281474976710656 ∧ r1 ≤ 9223372036854775807) ∧
    ∀ B1 : Nat,
    rTopics_c0 x xtp xtc xbp xbc xap xac tx B FB B1 ((Int.toNat r1) : Int) (0 : Int) ca1 (Int.toNat r1) (Int.toNat r1) (List.replicate (Int.toNat r1) (.string (⟨#[]⟩))) S w0 R) (fun ch L' => FinP R L' S w0 ch)) :
  Calls Tryz.prog 142 ⟨[.pointer (some ⟨B, 0, none⟩), .pointer (some ⟨FB, 9, none⟩)]⟩ W R := by
 refine AtE.calls (nt := 35) Tryz.func142 (by kernel_rfl) hm ?_
 refine AtE.ru 5 ?_
 refine AtE.load 1 9 (T := 22) (v := .slice xtp x.topics.length xtc) (by kernel_rfl) ?_
 refine AtE.ru 1 ?_
 refine AtE.callP 173 ⟨[.pointer (some ⟨B, 0, none⟩), .int .i64 (x.topics.length : Int), .int .i64 (4 : Int)]⟩ (fun W => by kernel_rfl) (by kernel_rfl) H ?_ (fun ch L' h => RaiseE.nrm Tryz.func142 h)
 clear H
 rintro _ _ ⟨r1, ca1, rfl, rfl, H⟩
 refine AtE.ru 8 ?_
 refine AtE.load 0 0 (T := 4) (v := .bool true) (by kernel_rfl) ?_
 refine AtE.ru 5 ?_
 refine AtE.make (E := 9) (kl := .i64) (kc := .i64) (n := r1) (m := r1) (z := .string (⟨#[]⟩)) (bytes := 16) (by kernel_rfl) H.1 (fun B1 => ?_)
 replace H := H.2 B1
 refine AtE.ru 1 ?_
 refine AtE.store 1 9 (T := 22) (v := .slice (some ⟨B1, 0, none⟩) (Int.toNat r1) (Int.toNat r1)) (by kernel_rfl) ?_
 refine AtE.ru 5 ?_
 refine AtE.load 1 9 (T := 22) (v := .slice (some ⟨B1, 0, none⟩) (Int.toNat r1) (Int.toNat r1)) (by kernel_rfl) ?_
 refine AtE.ru 5 ?_
 exact AtE.cut [0,1,2] H (by kernel_rfl)
abbrev rBlocksH0 (B : Nat) (tx : ByteArray) (ca1 : Int) (FB : Nat) (x : Fct) (xtp : Option Addr) (xtc : Nat) (xbp : Option Addr) (xbc : Nat) (xap : Option Addr) (xac : Nat) (B1 : Nat) (m : ByteArray) (F : SHeap) : SHeap := ((B, .cells #[.bool true, .string tx, .int .i64 ca1, .pointer none, .slice none 0 0] 95) :: (FB, .cells #[.int .i64 x.n, .int .i64 x.time, .int .i64 x.kind, .int .i64 x.story, .string x.lang, .int .i64 x.rev, .int .i64 x.base, .string x.title, .string x.author, .slice xtp x.topics.length xtc, .slice xbp x.blocks.length xbc, .int .i64 x.lab.unt, .slice xap x.lab.after.length xac, .int .i64 x.lab.appr, .int .i64 x.lab.den, .int .i64 x.editor, .int .i64 x.block, .int .i64 x.sentence, .string x.text, .string x.name, .int .i64 x.partner, .int .i64 x.cls, .int .i64 x.unt] 28) :: (B1, .cells #[.string m] 9) :: F)
abbrev rBlocksH1 (B : Nat) (tx : ByteArray) (ca1 : Int) (FB : Nat) (x : Fct) (xtp : Option Addr) (xtc : Nat) (xbp : Option Addr) (xbc : Nat) (xap : Option Addr) (xac : Nat) (B1 : Nat) (m : ByteArray) : SHeap := [(B, .cells #[.bool true, .string tx, .int .i64 ca1, .pointer none, .slice none 0 0] 95), (FB, .cells #[.int .i64 x.n, .int .i64 x.time, .int .i64 x.kind, .int .i64 x.story, .string x.lang, .int .i64 x.rev, .int .i64 x.base, .string x.title, .string x.author, .slice xtp x.topics.length xtc, .slice xbp x.blocks.length xbc, .int .i64 x.lab.unt, .slice xap x.lab.after.length xac, .int .i64 x.lab.appr, .int .i64 x.lab.den, .int .i64 x.editor, .int .i64 x.block, .int .i64 x.sentence, .string x.text, .string x.name, .int .i64 x.partner, .int .i64 x.cls, .int .i64 x.unt] 28), (B1, .cells #[.string m] 9)]
abbrev rBlocksA0 (x : Fct) (xtp : Option Addr) (xtc : Nat) (xbp : Option Addr) (xbc : Nat) (xap : Option Addr) (xac : Nat) : Array Value := #[.int .i64 x.n, .int .i64 x.time, .int .i64 x.kind, .int .i64 x.story, .string x.lang, .int .i64 x.rev, .int .i64 x.base, .string x.title, .string x.author, .slice xtp x.topics.length xtc, .slice xbp x.blocks.length xbc, .int .i64 x.lab.unt, .slice xap x.lab.after.length xac, .int .i64 x.lab.appr, .int .i64 x.lab.den, .int .i64 x.editor, .int .i64 x.block, .int .i64 x.sentence, .string x.text, .string x.name, .int .i64 x.partner, .int .i64 x.cls, .int .i64 x.unt]
theorem rBlocks_vc (B : Nat) (FB : Nat) (tx : ByteArray) (ca : Int) (x : Fct) (xtp : Option Addr) (xtc : Nat) (xbp : Option Addr) (xbc : Nat) (xap : Option Addr) (xac : Nat) {R : Ending → World → Prop} {S : List Nat} {w0 W : World} (hm : Mem [(B, .cells #[.bool true, .string tx, .int .i64 ca, .pointer none, .slice none 0 0] 95), (FB, .cells (rBlocksA0 x xtp xtc xbp xbc xap xac) 28)] S w0 W)
  (H :
   ∀ B1 : Nat,
   CallP Tryz.prog 140 ⟨[.pointer (some ⟨B, 0, none⟩), .pointer (some ⟨B1, 0, none⟩)]⟩ [(B, .cells #[.bool true, .string tx, .int .i64 ca, .pointer none, .slice none 0 0] 95), (FB, .cells (rBlocksA0 x xtp xtc xbp xbc xap xac) 28), (B1, .cells #[.string (⟨#[]⟩)] 9)] S w0 (fun v L' => ∃ (ca1 : Int) (m : ByteArray), v = (.tuple #[]) ∧ L' = (rBlocksH1 B tx ca1 FB x xtp xtc xbp xbc xap xac B1 m) ∧
    CallH Tryz.prog 175 ⟨[.string m]⟩ (rBlocksH1 B tx ca1 FB x xtp xtc xbp xbc xap xac B1 m) S w0 (fun v L' => ∃ (r1_p : Option Addr) (r1_l : Nat) (r1_c : Nat) (r21 : Int) (F : SHeap), v = (.tuple #[.slice r1_p r1_l r1_c, .int .i64 r21]) ∧ L' = (rBlocksH0 B tx ca1 FB x xtp xtc xbp xbc xap xac B1 m F) ∧
     ((¬ (r21 = (0 : Int))) →
      FinP R (rBlocksH0 B tx ca1 FB x xtp xtc xbp xbc xap xac B1 m F) S w0 [{ v := .iface 31 (.int .i64 (50 : Int)), recovered := false }]) ∧
      ((r21 = (0 : Int)) →
      Fin R ((B, .cells #[.bool true, .string tx, .int .i64 ca1, .pointer none, .slice none 0 0] 95) :: (FB, .cells #[.int .i64 x.n, .int .i64 x.time, .int .i64 x.kind, .int .i64 x.story, .string x.lang, .int .i64 x.rev, .int .i64 x.base, .string x.title, .string x.author, .slice xtp x.topics.length xtc, .slice r1_p r1_l r1_c, .int .i64 x.lab.unt, .slice xap x.lab.after.length xac, .int .i64 x.lab.appr, .int .i64 x.lab.den, .int .i64 x.editor, .int .i64 x.block, .int .i64 x.sentence, .string x.text, .string x.name, .int .i64 x.partner, .int .i64 x.cls, .int .i64 x.unt] 28) :: (B1, .cells #[.string m] 9) :: F) S w0 (.tuple #[])))) (fun ch L' => FinP R L' S w0 ch)) :
  Calls Tryz.prog 144 ⟨[.pointer (some ⟨B, 0, none⟩), .pointer (some ⟨FB, 10, none⟩)]⟩ W R := by
 refine AtE.calls (nt := 36) Tryz.func144 (by kernel_rfl) hm ?_
 refine AtE.ru 2 ?_
 refine AtE.new (fun B => .pointer (some ⟨B, 0, none⟩)) (.cells #[.string (⟨#[]⟩)] 9) (fun W => by kernel_rfl) (by kernel_rfl) (fun B1 => ?_)
 replace H := H B1
 refine AtE.store 2 0 (T := 9) (v := .string (⟨#[]⟩)) (by kernel_rfl) ?_
 refine AtE.ru 7 ?_
 refine AtE.load 0 0 (T := 4) (v := .bool true) (by kernel_rfl) ?_
 refine AtE.ru 7 ?_
 refine AtE.callP 140 ⟨[.pointer (some ⟨B, 0, none⟩), .pointer (some ⟨B1, 0, none⟩)]⟩ (fun W => by kernel_rfl) (by kernel_rfl) H ?_ (fun ch L' h => RaiseE.nrm Tryz.func144 h)
 clear H
 rintro _ _ ⟨ca1, m, rfl, rfl, H⟩
 refine AtE.ru 6 ?_
 refine AtE.load 0 0 (T := 4) (v := .bool true) (by kernel_rfl) ?_
 refine AtE.ru 4 ?_
 refine AtE.load 2 0 (T := 9) (v := .string m) (by kernel_rfl) ?_
 refine AtE.call 175 ⟨[.string m]⟩ (fun W => by kernel_rfl) (by kernel_rfl) H ?_
 clear H
 rintro _ _ ⟨r1_p, r1_l, r1_c, r21, F, rfl, rfl, H⟩
 refine AtE.norm (k' := [.inRegion (regOps [.code (sub (Eng.body Tryz.f144) [1,1,1,1,0,0])]) [2,3,4,5,6], .code (sub (Eng.body Tryz.f144) [1,1,1,1,0,1])]) (e' := [(1, .pointer (some ⟨FB, 10, none⟩)), (27, .tuple #[.slice r1_p r1_l r1_c, .int .i64 r21])]) (L' := (rBlocksH0 B tx ca1 FB x xtp xtc xbp xbc xap xac B1 m F)) ?_ (by kernel_rfl)
 refine AtE.ru 12 ?_
 refine AtE.splitN 31 (p := r21 = (0 : Int)) (by kernel_rfl) (fun h1' => ?_) (fun h1' => ?_)
 ·replace H := H.1 h1'
  refine AtE.ru 3 ?_
  refine AtE.panic (t := 31) (v := .int .i64 (50 : Int)) (by kernel_rfl) ?_
  exact RaiseE.nrm Tryz.func144 H
 ·replace H := H.2 h1'
  refine AtE.ru 6 ?_
  refine AtE.store 1 10 (T := 23) (v := .slice r1_p r1_l r1_c) (by kernel_rfl) ?_
  refine AtE.ru 1 ?_
  exact AtE.ret Tryz.func144 (by kernel_rfl) H
end Go.Eng
namespace Go.Eng
open Go Go.RowKit Go.Proofs
set_option linter.unusedVariables false
set_option maxRecDepth 100000
abbrev rLabelH0 (B2 : Nat) (tx : ByteArray) (m2 : Int) (B3 : Nat) (x : Fct) (xtp : Option Addr) (xtc : Nat) (xbp : Option Addr) (xbc : Nat) (m11 : Int) (B4 : Nat) (m12_l : Nat) (m12_c : Nat) (cs : List Value) : SHeap := [(B2, .cells #[.bool true, .string tx, .int .i64 m2, .pointer none, .slice none 0 0] 95), (B3, .cells #[.int .i64 x.n, .int .i64 x.time, .int .i64 x.kind, .int .i64 x.story, .string x.lang, .int .i64 x.rev, .int .i64 x.base, .string x.title, .string x.author, .slice xtp x.topics.length xtc, .slice xbp x.blocks.length xbc, .int .i64 m11, .slice (some ⟨B4, 0, none⟩) m12_l m12_c, .int .i64 x.lab.appr, .int .i64 x.lab.den, .int .i64 x.editor, .int .i64 x.block, .int .i64 x.sentence, .string x.text, .string x.name, .int .i64 x.partner, .int .i64 x.cls, .int .i64 x.unt] 28), (B4, .cells ⟨cs⟩ 3)]
abbrev rLabelH1 (B : Nat) (tx : ByteArray) (ca : Int) (FB : Nat) (x : Fct) (xtp : Option Addr) (xtc : Nat) (xbp : Option Addr) (xbc : Nat) (xap : Option Addr) (xac : Nat) : SHeap := [(B, .cells #[.bool true, .string tx, .int .i64 ca, .pointer none, .slice none 0 0] 95), (FB, .cells #[.int .i64 x.n, .int .i64 x.time, .int .i64 x.kind, .int .i64 x.story, .string x.lang, .int .i64 x.rev, .int .i64 x.base, .string x.title, .string x.author, .slice xtp x.topics.length xtc, .slice xbp x.blocks.length xbc, .int .i64 x.lab.unt, .slice xap x.lab.after.length xac, .int .i64 x.lab.appr, .int .i64 x.lab.den, .int .i64 x.editor, .int .i64 x.block, .int .i64 x.sentence, .string x.text, .string x.name, .int .i64 x.partner, .int .i64 x.cls, .int .i64 x.unt] 28)]
abbrev rLabelH2 (B : Nat) (tx : ByteArray) (ca1 : Int) (FB : Nat) (x : Fct) (xtp : Option Addr) (xtc : Nat) (xbp : Option Addr) (xbc : Nat) (m : Int) (xap : Option Addr) (xac : Nat) : SHeap := [(B, .cells #[.bool true, .string tx, .int .i64 ca1, .pointer none, .slice none 0 0] 95), (FB, .cells #[.int .i64 x.n, .int .i64 x.time, .int .i64 x.kind, .int .i64 x.story, .string x.lang, .int .i64 x.rev, .int .i64 x.base, .string x.title, .string x.author, .slice xtp x.topics.length xtc, .slice xbp x.blocks.length xbc, .int .i64 m, .slice xap x.lab.after.length xac, .int .i64 x.lab.appr, .int .i64 x.lab.den, .int .i64 x.editor, .int .i64 x.block, .int .i64 x.sentence, .string x.text, .string x.name, .int .i64 x.partner, .int .i64 x.cls, .int .i64 x.unt] 28)]
abbrev rLabelH3 (B2 : Nat) (tx : ByteArray) (ca4 : Int) (B3 : Nat) (x : Fct) (xtp : Option Addr) (xtc : Nat) (xbp : Option Addr) (xbc : Nat) (m11 : Int) (B4 : Nat) (m12_l : Nat) (m12_c : Nat) (m1 : Int) (cs : List Value) : SHeap := [(B2, .cells #[.bool true, .string tx, .int .i64 ca4, .pointer none, .slice none 0 0] 95), (B3, .cells #[.int .i64 x.n, .int .i64 x.time, .int .i64 x.kind, .int .i64 x.story, .string x.lang, .int .i64 x.rev, .int .i64 x.base, .string x.title, .string x.author, .slice xtp x.topics.length xtc, .slice xbp x.blocks.length xbc, .int .i64 m11, .slice (some ⟨B4, 0, none⟩) m12_l m12_c, .int .i64 m1, .int .i64 x.lab.den, .int .i64 x.editor, .int .i64 x.block, .int .i64 x.sentence, .string x.text, .string x.name, .int .i64 x.partner, .int .i64 x.cls, .int .i64 x.unt] 28), (B4, .cells ⟨cs⟩ 3)]
abbrev rLabelH4 (B2 : Nat) (tx : ByteArray) (ca5 : Int) (B3 : Nat) (x : Fct) (xtp : Option Addr) (xtc : Nat) (xbp : Option Addr) (xbc : Nat) (m11 : Int) (B4 : Nat) (m12_l : Nat) (m12_c : Nat) (m1 : Int) (m3 : Int) (cs : List Value) : SHeap := [(B2, .cells #[.bool true, .string tx, .int .i64 ca5, .pointer none, .slice none 0 0] 95), (B3, .cells #[.int .i64 x.n, .int .i64 x.time, .int .i64 x.kind, .int .i64 x.story, .string x.lang, .int .i64 x.rev, .int .i64 x.base, .string x.title, .string x.author, .slice xtp x.topics.length xtc, .slice xbp x.blocks.length xbc, .int .i64 m11, .slice (some ⟨B4, 0, none⟩) m12_l m12_c, .int .i64 m1, .int .i64 m3, .int .i64 x.editor, .int .i64 x.block, .int .i64 x.sentence, .string x.text, .string x.name, .int .i64 x.partner, .int .i64 x.cls, .int .i64 x.unt] 28), (B4, .cells ⟨cs⟩ 3)]
def rLabel_c0 (x : Fct) (xtp : Option Addr) (xtc : Nat) (xbp : Option Addr) (xbc : Nat) (xap : Option Addr) (xac : Nat) (tx : ByteArray) (B2 : Nat) (B3 : Nat) (B4 : Nat) (t31 : Int) (t32 : Int) (m2 : Int) (m11 : Int) (m12_l : Nat) (m12_c : Nat) (cs : List Value) (S : List Nat) (w0 : World) (R : Ending → World → Prop) : Prop :=
 AtE Tryz.prog 146 54 [.code (sub (Eng.body Tryz.f146) [1,1,1,0,1,0,0]), .inLoop (sub (Eng.body Tryz.f146) [1,1,1,0,1,0,0]), .inBlock 0, .code (sub (Eng.body Tryz.f146) [1,1,1,1])] [(0, .pointer (some ⟨B2, 0, none⟩)), (1, .pointer (some ⟨B3, 11, none⟩)), (31, .int .i64 t31), (32, .int .i64 t32)] (rLabelH0 B2 tx m2 B3 x xtp xtc xbp xbc m11 B4 m12_l m12_c cs) S w0 (nrm R)
theorem rLabel_c0_vc (x : Fct) (xtp : Option Addr) (xtc : Nat) (xbp : Option Addr) (xbc : Nat) (xap : Option Addr) (xac : Nat) (tx : ByteArray) (B2 : Nat) (B3 : Nat) (B4 : Nat) (t31 : Int) (t32 : Int) (m2 : Int) (m11 : Int) (m12_l : Nat) (m12_c : Nat) (cs : List Value) {R : Ending → World → Prop} {S : List Nat} {w0 : World}
  (H :
   ((t32 < t31) →
    (0 ≤ t32 ∧ t32 < m12_l) ∧
    CallP Tryz.prog 99 ⟨[.pointer (some ⟨B2, 0, none⟩), .pointer (some ⟨B4, (Int.toNat t32), none⟩)]⟩ (rLabelH0 B2 tx m2 B3 x xtp xtc xbp xbc m11 B4 m12_l m12_c cs) S w0 (fun v L' => ∃ (ca3 : Int) (cs1 : List Value), v = (.tuple #[]) ∧ L' = [(B2, .cells #[.bool true, .string tx, .int .i64 ca3, .pointer none, .slice none 0 0] 95), (B3, .cells #[.int .i64 x.n, .int .i64 x.time, .int .i64 x.kind, .int .i64 x.story, .string x.lang, .int .i64 x.rev, .int .i64 x.base, .string x.title, .string x.author, .slice xtp x.topics.length xtc, .slice xbp x.blocks.length xbc, .int .i64 m11, .slice (some ⟨B4, 0, none⟩) m12_l m12_c, .int .i64 x.lab.appr, .int .i64 x.lab.den, .int .i64 x.editor, .int .i64 x.block, .int .i64 x.sentence, .string x.text, .string x.name, .int .i64 x.partner, .int .i64 x.cls, .int .i64 x.unt] 28), (B4, .cells ⟨cs1⟩ 3)] ∧
     rLabel_c0 x xtp xtc xbp xbc xap xac tx B2 B3 B4 t31 (IntKind.i64.wrap (t32 + (1 : Int))) ca3 m11 m12_l m12_c cs1 S w0 R) (fun ch L' => FinP R L' S w0 ch)) ∧
    ((¬ (t32 < t31)) →
    CallP Tryz.prog 99 ⟨[.pointer (some ⟨B2, 0, none⟩), .pointer (some ⟨B3, 13, none⟩)]⟩ (rLabelH0 B2 tx m2 B3 x xtp xtc xbp xbc m11 B4 m12_l m12_c cs) S w0 (fun v L' => ∃ (ca4 : Int) (m1 : Int), v = (.tuple #[]) ∧ L' = (rLabelH3 B2 tx ca4 B3 x xtp xtc xbp xbc m11 B4 m12_l m12_c m1 cs) ∧
     CallP Tryz.prog 99 ⟨[.pointer (some ⟨B2, 0, none⟩), .pointer (some ⟨B3, 14, none⟩)]⟩ (rLabelH3 B2 tx ca4 B3 x xtp xtc xbp xbc m11 B4 m12_l m12_c m1 cs) S w0 (fun v L' => ∃ (ca5 : Int) (m3 : Int), v = (.tuple #[]) ∧ L' = (rLabelH4 B2 tx ca5 B3 x xtp xtc xbp xbc m11 B4 m12_l m12_c m1 m3 cs) ∧
      Fin R (rLabelH4 B2 tx ca5 B3 x xtp xtc xbp xbc m11 B4 m12_l m12_c m1 m3 cs) S w0 (.tuple #[])) (fun ch L' => FinP R L' S w0 ch)) (fun ch L' => FinP R L' S w0 ch))) :
  rLabel_c0 x xtp xtc xbp xbc xap xac tx B2 B3 B4 t31 t32 m2 m11 m12_l m12_c cs S w0 R := by
 unfold rLabel_c0
 refine AtE.ru 5 ?_
 refine AtE.splitP 33 (p := t32 < t31) (by kernel_rfl) (fun h1' => ?_) (fun h1' => ?_)
 ·replace H := H.1 h1'
  refine AtE.ru 14 ?_
  refine AtE.load 1 12 (T := 24) (v := .slice (some ⟨B4, 0, none⟩) m12_l m12_c) (by kernel_rfl) ?_
  refine AtE.ru 1 ?_
  refine AtE.indexAddrL (E := 3) (b := B4) (o := 0) (len := m12_l) (cap := m12_c) (sz := 1) (o' := (Int.toNat t32)) (kd := .i64) (i := t32) (by kernel_rfl) H.1 (by omega) ?_
  replace H := H.2
  refine AtE.callP 99 ⟨[.pointer (some ⟨B2, 0, none⟩), .pointer (some ⟨B4, (Int.toNat t32), none⟩)]⟩ (fun W => by kernel_rfl) (by kernel_rfl) H ?_ (fun ch L' h => RaiseE.nrm Tryz.func146 h)
  clear H
  rintro _ _ ⟨ca3, cs1, rfl, rfl, H⟩
  refine AtE.ru 7 ?_
  exact AtE.cut [0,1,2] H (by kernel_rfl)
 ·replace H := H.2 h1'
  refine AtE.ru 8 ?_
  refine AtE.callP 99 ⟨[.pointer (some ⟨B2, 0, none⟩), .pointer (some ⟨B3, 13, none⟩)]⟩ (fun W => by kernel_rfl) (by kernel_rfl) H ?_ (fun ch L' h => RaiseE.nrm Tryz.func146 h)
  clear H
  rintro _ _ ⟨ca4, m1, rfl, rfl, H⟩
  refine AtE.ru 6 ?_
  refine AtE.callP 99 ⟨[.pointer (some ⟨B2, 0, none⟩), .pointer (some ⟨B3, 14, none⟩)]⟩ (fun W => by kernel_rfl) (by kernel_rfl) H ?_ (fun ch L' h => RaiseE.nrm Tryz.func146 h)
  clear H
  rintro _ _ ⟨ca5, m3, rfl, rfl, H⟩
  refine AtE.ru 1 ?_
  exact AtE.ret Tryz.func146 (by kernel_rfl) H
theorem rLabel_vc (B : Nat) (FB : Nat) (tx : ByteArray) (ca : Int) (x : Fct) (xtp : Option Addr) (xtc : Nat) (xbp : Option Addr) (xbc : Nat) (xap : Option Addr) (xac : Nat) {R : Ending → World → Prop} {S : List Nat} {w0 W : World} (hm : Mem (rLabelH1 B tx ca FB x xtp xtc xbp xbc xap xac) S w0 W)
  (H :
   CallP Tryz.prog 99 ⟨[.pointer (some ⟨B, 0, none⟩), .pointer (some ⟨FB, 11, none⟩)]⟩ (rLabelH1 B tx ca FB x xtp xtc xbp xbc xap xac) S w0 (fun v L' => ∃ (ca1 : Int) (m : Int), v = (.tuple #[]) ∧ L' = (rLabelH2 B tx ca1 FB x xtp xtc xbp xbc m xap xac) ∧
    CallP Tryz.prog 173 ⟨[.pointer (some ⟨B, 0, none⟩), .int .i64 (x.lab.after.length : Int), .int .i64 (64 : Int)]⟩ (rLabelH2 B tx ca1 FB x xtp xtc xbp xbc m xap xac) S w0 (fun v L' => ∃ (r1 : Int) (ca2 : Int), v = (.int .i64 r1) ∧ L' = [(B, .cells #[.bool true, .string tx, .int .i64 ca2, .pointer none, .slice none 0 0] 95), (FB, .cells #[.int .i64 x.n, .int .i64 x.time, .int .i64 x.kind, .int .i64 x.story, .string x.lang, .int .i64 x.rev, .int .i64 x.base, .string x.title, .string x.author, .slice xtp x.topics.length xtc, .slice xbp x.blocks.length xbc, .int .i64 m, .slice xap x.lab.after.length xac, .int .i64 x.lab.appr, .int .i64 x.lab.den, .int .i64 x.editor, .int .i64 x.block, .int .i64 x.sentence, .string x.text, .string x.name, .int .i64 x.partner, .int .i64 x.cls, .int .i64 x.unt] 28)] ∧
     (0 ≤ r1 ∧ r1 ≤ r1 ∧ 8 * r1 ≤ 281474976710656 ∧ r1 ≤ 9223372036854775807) ∧
     ∀ B1 : Nat,
     rLabel_c0 x xtp xtc xbp xbc xap xac tx B FB B1 ((Int.toNat r1) : Int) (0 : Int) ca2 m (Int.toNat r1) (Int.toNat r1) (List.replicate (Int.toNat r1) (.int .i64 (0 : Int))) S w0 R) (fun ch L' => FinP R L' S w0 ch)) (fun ch L' => FinP R L' S w0 ch)) :
  Calls Tryz.prog 146 ⟨[.pointer (some ⟨B, 0, none⟩), .pointer (some ⟨FB, 11, none⟩)]⟩ W R := by
 refine AtE.calls (nt := 54) Tryz.func146 (by kernel_rfl) hm ?_
 refine AtE.ru 6 ?_
 refine AtE.callP 99 ⟨[.pointer (some ⟨B, 0, none⟩), .pointer (some ⟨FB, 11, none⟩)]⟩ (fun W => by kernel_rfl) (by kernel_rfl) H ?_ (fun ch L' h => RaiseE.nrm Tryz.func146 h)
 clear H
 rintro _ _ ⟨ca1, m, rfl, rfl, H⟩
 refine AtE.ru 7 ?_
 refine AtE.load 1 12 (T := 24) (v := .slice xap x.lab.after.length xac) (by kernel_rfl) ?_
 refine AtE.ru 1 ?_
 refine AtE.callP 173 ⟨[.pointer (some ⟨B, 0, none⟩), .int .i64 (x.lab.after.length : Int), .int .i64 (64 : Int)]⟩ (fun W => by kernel_rfl) (by kernel_rfl) H ?_ (fun ch L' h => RaiseE.nrm Tryz.func146 h)
 clear H
 rintro _ _ ⟨r1, ca2, rfl, rfl, H⟩
 refine AtE.ru 8 ?_
 refine AtE.load 0 0 (T := 4) (v := .bool true) (by kernel_rfl) ?_
 refine AtE.ru 5 ?_
 refine AtE.make (E := 3) (kl := .i64) (kc := .i64) (n := r1) (m := r1) (z := .int .i64 (0 : Int)) (bytes := 8) (by kernel_rfl) H.1 (fun B1 => ?_)
 replace H := H.2 B1
 refine AtE.ru 2 ?_
 refine AtE.store 1 12 (T := 24) (v := .slice (some ⟨B1, 0, none⟩) (Int.toNat r1) (Int.toNat r1)) (by kernel_rfl) ?_
 refine AtE.ru 7 ?_
 refine AtE.load 1 12 (T := 24) (v := .slice (some ⟨B1, 0, none⟩) (Int.toNat r1) (Int.toNat r1)) (by kernel_rfl) ?_
 refine AtE.norm (k' := [.inRegion (regOps [.code (sub (Eng.body Tryz.f146) [1,1,1,0,0])]) [4,5], .code (sub (Eng.body Tryz.f146) [1,1,1,0,1]), .code (sub (Eng.body Tryz.f146) [1,1,1,1])]) (e' := [(0, .pointer (some ⟨B, 0, none⟩)), (1, .pointer (some ⟨FB, 11, none⟩)), (30, .slice (some ⟨B1, 0, none⟩) (Int.toNat r1) (Int.toNat r1))]) (L' := [(B, .cells #[.bool true, .string tx, .int .i64 ca2, .pointer none, .slice none 0 0] 95), (FB, .cells #[.int .i64 x.n, .int .i64 x.time, .int .i64 x.kind, .int .i64 x.story, .string x.lang, .int .i64 x.rev, .int .i64 x.base, .string x.title, .string x.author, .slice xtp x.topics.length xtc, .slice xbp x.blocks.length xbc, .int .i64 m, .slice (some ⟨B1, 0, none⟩) (Int.toNat r1) (Int.toNat r1), .int .i64 x.lab.appr, .int .i64 x.lab.den, .int .i64 x.editor, .int .i64 x.block, .int .i64 x.sentence, .string x.text, .string x.name, .int .i64 x.partner, .int .i64 x.cls, .int .i64 x.unt] 28), (B1, .cells ⟨(List.replicate (Int.toNat r1) (.int .i64 (0 : Int)))⟩ 3)]) ?_ (by kernel_rfl)
 refine AtE.ru 5 ?_
 exact AtE.cut [0,1,2] H (by kernel_rfl)
end Go.Eng
namespace Go.Eng
open Go Go.RowKit Go.Proofs Wire
set_option linter.unusedVariables false
abbrev PK (K : Value → SHeap → Prop) (K' : List PanicEntry → SHeap → Prop) (S : List Nat) (w0 : World) : Ending → World → Prop :=
  fun e W' => (∃ v L', e = .returned v ∧ Mem L' S w0 W' ∧ K v L') ∨ ∃ ch L', e = .panicked ch ∧ Mem L' S w0 W' ∧ K' ch L'
theorem finK {K : Value → SHeap → Prop} {K' : List PanicEntry → SHeap → Prop} {L : SHeap} {S : List Nat} {w0 : World} {v : Value} (h : K v L) : Fin (PK K K' S w0) L S w0 v := fun _ hm => .inl ⟨v, L, rfl, hm, h⟩
theorem finX {K : Value → SHeap → Prop} {K' : List PanicEntry → SHeap → Prop} {L : SHeap} {S : List Nat} {w0 : World} {ch : List PanicEntry} (h : K' ch L) : FinP (PK K K' S w0) L S w0 ch := fun _ hm => .inr ⟨ch, L, rfl, hm, h⟩
theorem finKs (is : List Nat) {K : Value → SHeap → Prop} {K' : List PanicEntry → SHeap → Prop} {L L' : SHeap} {S : List Nat} {w0 : World} {v : Value} (hs : (selL L is, nodupB is) = (L', true)) (h : K v L') : Fin (PK K K' S w0) L S w0 v := by
  simp only [Prod.mk.injEq] at hs
  obtain ⟨rfl, h2⟩ := hs
  exact fun _ hm => .inl ⟨v, _, rfl, hm.sel (nodupB_spec h2), h⟩
theorem finXs (is : List Nat) {K : Value → SHeap → Prop} {K' : List PanicEntry → SHeap → Prop} {L L' : SHeap} {S : List Nat} {w0 : World} {ch : List PanicEntry} (hs : (selL L is, nodupB is) = (L', true)) (h : K' ch L') : FinP (PK K K' S w0) L S w0 ch := by
  simp only [Prod.mk.injEq] at hs
  obtain ⟨rfl, h2⟩ := hs
  exact fun _ hm => .inr ⟨ch, _, rfl, hm.sel (nodupB_spec h2), h⟩
theorem finKst (A : SHeap) (is : List Nat) {T : SHeap} {K : Value → SHeap → Prop} {K' : List PanicEntry → SHeap → Prop} {L' : SHeap} {S : List Nat} {w0 : World} {v : Value} (hs : (selL A is, nodupB is) = (L', true)) (h : K v (L' ++ T)) : Fin (PK K K' S w0) (A ++ T) S w0 v := by
  simp only [Prod.mk.injEq] at hs
  obtain ⟨rfl, h2⟩ := hs
  exact fun _ hm => .inl ⟨v, _, rfl, hm.selT (nodupB_spec h2), h⟩
abbrev pan (e : Int) : List PanicEntry := [{ v := .iface 31 (.int .i64 e), recovered := false }]
theorem CallP.eff0 {P : Program} {S : List Nat} {w0 : World} {g : FuncId} {args : Array Value} {L0 L1 : SHeap} {Pre : World → Prop} {K k1 : Value → SHeap → Prop} {K' k1' : List PanicEntry → SHeap → Prop} (h : EffP P g args L0 Pre K K') (hpre : ∀ W, Mem (L0 ++ L1) S w0 W → Pre W)
    (hK : ∀ v L', K v L' → k1 v (L' ++ L1)) (hK' : ∀ ch L', K' ch L' → k1' ch (L' ++ L1)) : CallP P g args (L0 ++ L1) S w0 k1 k1' :=
  CallP.eff h hpre (List.Perm.refl _) (fun v L' hk => ⟨L' ++ L1, List.Perm.refl _, hK v L' hk⟩) (fun ch L' hk => ⟨L' ++ L1, List.Perm.refl _, hK' ch L' hk⟩)
theorem CallP.st {P : Program} {S : List Nat} {w0 : World} {g : FuncId} {args : Array Value} {L0 L M N M' N' : SHeap} {u : Value} {c : List PanicEntry} {A A' : Prop} {Pre : World → Prop} {k1 : Value → SHeap → Prop} {k1' : List PanicEntry → SHeap → Prop} (L1 : SHeap)
    (h : EffP P g args L0 Pre (fun v L' => A ∧ v = u ∧ L' = M) (fun ch L' => A' ∧ ch = c ∧ L' = M')) (hpre : ∀ W, Mem L S w0 W → Pre W) (p1 : (L0 ++ L1).Perm L) (p2 : (M ++ L1).Perm N) (p3 : (M' ++ L1).Perm N') (hK : A → k1 u N) (hK' : A' → k1' c N') : CallP P g args L S w0 k1 k1' :=
  CallP.eff h hpre p1 (fun v L' ⟨h0, hv, hL⟩ => ⟨N, hL ▸ p2, hv ▸ hK h0⟩) (fun ch L' ⟨h0, hc, hL⟩ => ⟨N', hL ▸ p3, hc ▸ hK' h0⟩)
theorem perm3 {a b c : Nat × Obj} : ([a, b] ++ [c] : SHeap).Perm [a, c, b] := List.Perm.cons _ (List.Perm.swap _ _ _)
theorem perm2 {a b : Nat × Obj} : ([a, b] ++ [] : SHeap).Perm [a, b] := List.Perm.refl _
theorem perm1 {a b : Nat × Obj} : ([a] ++ [b] : SHeap).Perm [a, b] := List.Perm.refl _
abbrev rK (B : Nat) (tx : ByteArray) (a : Nat) : Nat × Obj := (B, .cells #[.bool true, .string tx, .int .i64 (a : Int), .pointer none, .slice none 0 0] 95)
theorem rNum_e {B NB no tn a : Nat} {tx : ByteArray} {cs : List Value} (hs : tx.size < 4611686018427387904) (ha : a ≤ (bts tx).length) (hno : no < cs.length) :
    EffP Tryz.prog 99 ⟨[pt B 0, pt NB no]⟩ [rK B tx a, (NB, .cells ⟨cs⟩ tn)] (fun _ => True)
      (fun v L' => (rdI (bts tx) (a, 0)).2.2 = 0 ∧ v = .tuple #[] ∧ L' = [rK B tx (rdI (bts tx) (a, 0)).2.1, (NB, .cells ⟨cs.set no (.int .i64 (rdI (bts tx) (a, 0)).1)⟩ tn)])
      (fun ch L' => (rdI (bts tx) (a, 0)).2.2 = 10 ∧ ch = pan 10 ∧ L' = [rK B tx a, (NB, .cells ⟨cs⟩ tn)]) := by
  intro W hm _
  refine rNum_vc B NB no tx a tn cs hm ?_
  have hq : QCall Tryz.prog 111 ⟨[.string tx, .int .i64 (a : Int)]⟩ [rK B tx a, (NB, .cells ⟨cs⟩ tn)] (([rK B tx a, (NB, .cells ⟨cs⟩ tn)] : SHeap).map (·.1)) W (intAns tx (a : Int)) := QCall.of (Int_c tx _ hs)
  rw [int_ans (st := (a, 0)) ha rfl] at hq
  rw [rdI, if_pos rfl]
  cases hr : rdInt ((bts tx).drop a) with
  | none =>
    rw [hr] at hq
    exact ⟨_, _, _, hq, fun _ => finX ⟨rfl, rfl, rfl⟩, fun h0 => absurd h0 (by decide)⟩
  | some p =>
    rw [hr] at hq
    exact ⟨_, _, _, hq, fun h0 => absurd rfl h0, fun _ => ⟨hno, finK ⟨rfl, rfl, rfl⟩⟩⟩
theorem rWord_e {B NB no tn a : Nat} {tx : ByteArray} {cs : List Value} (hs : tx.size < 4611686018427387904) (ha : a ≤ (bts tx).length) (hno : no < cs.length) :
    EffP Tryz.prog 140 ⟨[pt B 0, pt NB no]⟩ [rK B tx a, (NB, .cells ⟨cs⟩ tn)] (fun _ => True)
      (fun v L' => (rdT (bts tx) (a, 0)).2.2 = 0 ∧ v = .tuple #[] ∧ L' = [rK B tx (rdT (bts tx) (a, 0)).2.1, (NB, .cells ⟨cs.set no (.string (rdT (bts tx) (a, 0)).1)⟩ tn)])
      (fun ch L' => (rdT (bts tx) (a, 0)).2.2 = 10 ∧ ch = pan 10 ∧ L' = [rK B tx a, (NB, .cells ⟨cs⟩ tn)]) := by
  intro W hm _
  refine rWord_vc B NB no tx a tn cs hm ?_
  have hq : QCall Tryz.prog 156 ⟨[.string tx, .int .i64 (a : Int)]⟩ [rK B tx a, (NB, .cells ⟨cs⟩ tn)] (([rK B tx a, (NB, .cells ⟨cs⟩ tn)] : SHeap).map (·.1)) W (strAns tx (a : Int)) := QCall.of (String_c tx _ hs)
  rw [str_ans (st := (a, 0)) ha rfl] at hq
  rw [rdT, if_pos rfl]
  cases hr : rdStr ((bts tx).drop a) with
  | none =>
    rw [hr] at hq
    exact ⟨_, _, _, hq, fun _ => finX ⟨rfl, rfl, rfl⟩, fun h0 => absurd h0 (by decide)⟩
  | some p =>
    rw [hr] at hq
    exact ⟨_, _, _, hq, fun h0 => absurd rfl h0, fun _ => ⟨hno, finK ⟨rfl, rfl, rfl⟩⟩⟩
theorem fcnt_bad {s : List UInt8} {m : Int} {st : RS} (h : (rdI s st).2.2 = 0) (h2 : (rdI s st).1 < 0 ∨ m < (rdI s st).1) : fcnt s m st = ((rdI s st).1, ((rdI s st).2.1, 50)) := by rw [fcnt, if_pos ⟨h, h2⟩]
theorem fcnt_good {s : List UInt8} {m : Int} {st : RS} (h : ¬ ((rdI s st).2.2 = 0 ∧ ((rdI s st).1 < 0 ∨ m < (rdI s st).1))) : fcnt s m st = rdI s st := by rw [fcnt, if_neg h]
theorem rdI_bad {s : List UInt8} {a : Nat} (h : (rdI s (a, 0)).2.2 = 10) : (rdI s (a, 0)).2.1 = a := by
  rw [rdI, if_pos rfl] at *
  split at h
  · rfl
  · simp at h
theorem rCount_e {B a : Nat} {n most : Int} {tx : ByteArray} (hs : tx.size < 4611686018427387904) (ha : a ≤ (bts tx).length) :
    EffP Tryz.prog 173 ⟨[pt B 0, .int .i64 n, .int .i64 most]⟩ [rK B tx a] (fun _ => True)
      (fun v L' => (fcnt (bts tx) most (a, 0)).2.2 = 0 ∧ v = .int .i64 (fcnt (bts tx) most (a, 0)).1 ∧ L' = [rK B tx (fcnt (bts tx) most (a, 0)).2.1])
      (fun ch L' => (fcnt (bts tx) most (a, 0)).2.2 ≠ 0 ∧ ch = pan (fcnt (bts tx) most (a, 0)).2.2 ∧ L' = [rK B tx (rdI (bts tx) (a, 0)).2.1]) := by
  intro W hm _
  refine rCount_vc B n most tx a hm fun B1 => ?_
  refine CallP.st [] (rNum_e (tn := 3) (cs := [.int .i64 n]) hs ha (by simp)) (fun _ _ => trivial) perm2 perm2 perm2 (fun h0 => ⟨_, _, rfl, rfl, ?_⟩) (fun h0 => ?_)
  · refine ⟨fun h1 => ⟨fun h2 => ?_, fun h2 => ?_⟩, fun h1 => ?_⟩
    · refine finXs [0] rfl ?_
      rw [fcnt_bad h0 (.inr (by omega))]
      exact ⟨show (50 : Int) ≠ 0 by decide, rfl, rfl⟩
    · refine finKs [0] rfl ?_
      rw [fcnt_good (fun hh => by rcases hh.2 with h | h <;> omega)]
      exact ⟨h0, rfl, rfl⟩
    · refine finXs [0] rfl ?_
      rw [fcnt_bad h0 (.inl (by omega))]
      exact ⟨show (50 : Int) ≠ 0 by decide, rfl, rfl⟩
  · refine finXs [0] rfl ?_
    rw [fcnt_good (fun hh => by rw [h0] at hh; exact absurd hh.1 (by decide)), h0, rdI_bad h0]
    exact ⟨by decide, rfl, rfl⟩
abbrev fH (FB : Nat) (cs : List Value) : Nat × Obj := (FB, .cells ⟨cs⟩ 28)
theorem set_next {z v : Value} (l : List Value) (g : Nat) : (l ++ List.replicate (g + 1) z).set l.length v = l ++ [v] ++ List.replicate g z := by
  rw [List.set_append_right _ _ (Nat.le_refl _), Nat.sub_self, List.replicate_succ, List.set_cons_zero, List.append_assoc]; rfl
def TopK (B FB : Nat) (tx : ByteArray) (x : Fct) (bp : Option Addr) (bc : Nat) (ap : Option Addr) (ac : Nat) (r : List ByteArray × RS) (v : Value) (L' : SHeap) : Prop :=
  r.2.2 = 0 ∧ v = .tuple #[] ∧ ∃ Bn, L' = [rK B tx r.2.1, fH FB (({ x with topics := r.1 } : Fct).cells (some ⟨Bn, 0, none⟩) r.1.length bp bc ap ac), (Bn, .cells ⟨r.1.map .string⟩ 9)]
def BadK (B FB : Nat) (tx : ByteArray) (e : Int) (ch : List PanicEntry) (L' : SHeap) : Prop :=
  e ≠ 0 ∧ ch = pan e ∧ ∃ a cs N, L' = rK B tx a :: fH FB cs :: N ∧ cs.length = 23
theorem rTopics_loop {B FB Bn : Nat} {tx : ByteArray} (hs : tx.size < 4611686018427387904) {x : Fct} {tp bp ap : Option Addr} {tc bc ac n : Nat} {S : List Nat} {w0 : World} {r : List ByteArray × RS} (hn : n ≤ 4) :
    ∀ (g : Nat) (l : List ByteArray) (a : Nat), l.length + g = n → a ≤ (bts tx).length → r = (l ++ (rdMany (rdT (bts tx)) g (a, 0)).1, (rdMany (rdT (bts tx)) g (a, 0)).2) →
      rTopics_c0 x tp tc bp bc ap ac tx B FB Bn (n : Int) (l.length : Int) (a : Int) n n (l.map .string ++ List.replicate g (.string ⟨#[]⟩)) S w0 (PK (TopK B FB tx x bp bc ap ac r) (BadK B FB tx r.2.2) S w0)
  | 0, l, a, hg, ha, hr => by
    apply rTopics_c0_vc
    have hr : r = (l, (a, 0)) := by rw [hr]; simp [rdMany]
    have hl : l.length = n := by omega
    refine no (by omega) (finK ?_)
    rw [hr]
    refine ⟨rfl, rfl, Bn, ?_⟩
    rw [← hl]; simp
  | g + 1, l, a, hg, ha, hr => by
    apply rTopics_c0_vc
    rw [rdMany, if_pos rfl] at hr
    refine yes (by omega) ⟨by omega, ?_⟩
    refine CallP.st [fH FB _] (rWord_e hs ha (by simp)) (fun _ _ => trivial) perm3 perm3 perm3 (fun h0 => ⟨_, _, rfl, rfl, ?_⟩) (fun h0 => ?_)
    · have e1 : Int.toNat (l.length : Int) = (l.map Value.string).length := by simp
      rw [e1, set_next, wi64 (by omega), show (l.length : Int) + 1 = ((l ++ [(rdT (bts tx) (a, 0)).1]).length : Int) by simp]
      have h2 : (rdT (bts tx) (a, 0)).2 = ((rdT (bts tx) (a, 0)).2.1, 0) := Prod.ext rfl h0
      have := rTopics_loop (B := B) (FB := FB) (Bn := Bn) hs (x := x) (tp := tp) (tc := tc) (bp := bp) (bc := bc) (ap := ap) (ac := ac) (S := S) (w0 := w0) (r := r) hn g (l ++ [(rdT (bts tx) (a, 0)).1]) (rdT (bts tx) (a, 0)).2.1 (by simp; omega) (rdT_le (st := (a, 0)) ha).1 (by rw [hr, h2]; simp)
      simpa using this
    · have h2 : r.2.2 = 10 := by rw [hr]; simp only; rw [rdMany_err (by rw [h0]; decide)]; exact h0
      refine finX ?_
      rw [h2]
      exact ⟨by decide, rfl, _, _, _, rfl, rfl⟩
theorem rTopics_e {B FB a : Nat} {tx : ByteArray} (hs : tx.size < 4611686018427387904) (ha : a ≤ (bts tx).length) {x : Fct} {tp bp ap : Option Addr} {tc bc ac : Nat} :
    EffP Tryz.prog 142 ⟨[pt B 0, pt FB 9]⟩ [rK B tx a, fH FB (x.cells tp tc bp bc ap ac)] (fun _ => True) (TopK B FB tx x bp bc ap ac (rdV (bts tx) .topics (a, 0))) (BadK B FB tx (rdV (bts tx) .topics (a, 0)).2.2) := by
  intro W hm _
  refine rTopics_vc B FB tx a x tp tc bp bc ap ac hm ?_
  refine CallP.st [fH FB _] (rCount_e hs ha) (fun _ _ => trivial) perm1 perm1 perm1 (fun h0 => ⟨_, _, rfl, rfl, ?_⟩) (fun h0 => ?_)
  · have hc := fcnt_ok h0
    refine ⟨by omega, fun B1 => ?_⟩
    generalize hq : (fcnt (bts tx) 4 (a, 0)) = q at *
    have h2 : q.2 = (q.2.1, 0) := Prod.ext rfl h0
    have hle : q.2.1 ≤ (bts tx).length := by rw [← hq]; exact fcnt_le ha
    have := rTopics_loop (B := B) (FB := FB) (Bn := B1) hs (x := x) (tp := tp) (tc := tc) (bp := bp) (bc := bc) (ap := ap) (ac := ac) (S := [rK B tx a, fH FB (x.cells tp tc bp bc ap ac)].map (·.1)) (w0 := W) (n := q.1.toNat) (r := rdV (bts tx) .topics (a, 0)) (by omega) q.1.toNat [] q.2.1 (by simp) hle
      (by show flist (rdT (bts tx)) (bts tx) 4 (a, 0) = _; rw [flist, hq, h2]; simp)
    exact this
  · refine finX ?_
    have e : (rdV (bts tx) .topics (a, 0)).2 = (fcnt (bts tx) 4 (a, 0)).2 := by show (flist _ _ _ _).2 = _; rw [flist, rdMany_err h0]
    rw [e]
    exact ⟨h0, rfl, _, _, [], rfl, rfl⟩
def BlkK (B FB : Nat) (tx : ByteArray) (x : Fct) (tp : Option Addr) (tc : Nat) (ap : Option Addr) (ac : Nat) (r : List Blk × RS) (v : Value) (L' : SHeap) : Prop :=
  r.2.2 = 0 ∧ v = .tuple #[] ∧ ∃ bp bc N, L' = rK B tx r.2.1 :: fH FB (({ x with blocks := r.1 } : Fct).cells tp tc bp bc ap ac) :: N ∧ BlksL (lkF N) bp r.1 ∧ r.1.length ≤ bc ∧ r.1.length ≤ 24
theorem rBlocks_e {B FB a : Nat} {tx : ByteArray} (hs : tx.size < 4611686018427387904) (ha : a ≤ (bts tx).length) {x : Fct} {tp bp ap : Option Addr} {tc bc ac : Nat} :
    EffP Tryz.prog 144 ⟨[pt B 0, pt FB 10]⟩ [rK B tx a, fH FB (x.cells tp tc bp bc ap ac)] (fun _ => True) (BlkK B FB tx x tp tc ap ac (rdV (bts tx) .blocks (a, 0))) (BadK B FB tx (rdV (bts tx) .blocks (a, 0)).2.2) := by
  intro W hm _
  refine rBlocks_vc B FB tx a x tp tc bp bc ap ac hm fun B1 => ?_
  refine CallP.st [fH FB (x.cells tp tc bp bc ap ac)] (rWord_e (tn := 9) (cs := [.string ⟨#[]⟩]) hs ha (by simp)) (fun _ _ => trivial) perm3 perm3 perm3 (fun h0 => ⟨_, (rdT (bts tx) (a, 0)).1, rfl, rfl, ?_⟩) (fun h0 => ?_)
  · have hsz := (rdT_le (s := bts tx) (st := (a, 0)) ha).2
    refine CallH.more (decode_e (rdT (bts tx) (a, 0)).1 (by omega)) fun v F ⟨p, c, hv, hc, hb⟩ => ⟨p, _, c, _, F, hv, rfl, fun h1 => ?_, fun h1 => ?_⟩
    · have e : rdV (bts tx) .blocks (a, 0) = ([], ((rdT (bts tx) (a, 0)).2.1, 50)) := by show rdBlks _ _ = _; rw [rdBlks, if_pos h0, if_neg h1]
      rw [e]
      exact finX ⟨show (50 : Int) ≠ 0 by decide, rfl, _, _, _, rfl, rfl⟩
    · have e : rdV (bts tx) .blocks (a, 0) = ((decSpec (bts (rdT (bts tx) (a, 0)).1)).1, (rdT (bts tx) (a, 0)).2) := by show rdBlks _ _ = _; rw [rdBlks, if_pos h0, if_pos h1]
      rw [e]
      refine finKst [_, _, _] [0, 1] rfl ⟨h0, rfl, p, c, F, rfl, hb, hc, decode_len _⟩
  · have e : (rdV (bts tx) .blocks (a, 0)).2 = (rdT (bts tx) (a, 0)).2 := by show (rdBlks _ _).2 = _; rw [rdBlks, if_neg (by rw [h0]; decide)]
    rw [e, h0]
    exact finX ⟨by decide, rfl, _, _, _, rfl, rfl⟩
def LabK (B FB : Nat) (tx : ByteArray) (x : Fct) (tp : Option Addr) (tc : Nat) (bp : Option Addr) (bc : Nat) (r : Lab × RS) (v : Value) (L' : SHeap) : Prop :=
  r.2.2 = 0 ∧ v = .tuple #[] ∧ ∃ Bn, L' = [rK B tx r.2.1, fH FB (({ x with lab := r.1 } : Fct).cells tp tc bp bc (some ⟨Bn, 0, none⟩) r.1.after.length), (Bn, .cells ⟨r.1.after.map (.int .i64)⟩ 3)] ∧ r.1.after.length ≤ 64
def labEnd (s : List UInt8) (u : Int) (r : List Int × RS) : Lab × RS := (⟨u, r.1, (rdI s r.2).1, (rdI s (rdI s r.2).2).1⟩, (rdI s (rdI s r.2).2).2)
theorem labEnd_err {s : List UInt8} {u : Int} {r : List Int × RS} (h : ¬ r.2.2 = 0) : (labEnd s u r).2 = r.2 := by
  show (rdI s (rdI s r.2).2).2 = _
  have h1 := rdI_err (s := s) h
  rw [h1, h1]
theorem rLabel_loop {B FB Bn : Nat} {tx : ByteArray} (hs : tx.size < 4611686018427387904) {x : Fct} {tp bp ap : Option Addr} {tc bc ac n : Nat} {u : Int} {S : List Nat} {w0 : World} {r : List Int × RS} (hn : n ≤ 64) :
    ∀ (g : Nat) (l : List Int) (a : Nat), l.length + g = n → a ≤ (bts tx).length → r = (l ++ (rdMany (rdI (bts tx)) g (a, 0)).1, (rdMany (rdI (bts tx)) g (a, 0)).2) →
      rLabel_c0 x tp tc bp bc ap ac tx B FB Bn (n : Int) (l.length : Int) (a : Int) u n n (l.map (.int .i64) ++ List.replicate g (.int .i64 0)) S w0 (PK (LabK B FB tx x tp tc bp bc (labEnd (bts tx) u r)) (BadK B FB tx (labEnd (bts tx) u r).2.2) S w0)
  | 0, l, a, hg, ha, hr => by
    apply rLabel_c0_vc
    have hr : r = (l, (a, 0)) := by rw [hr]; simp [rdMany]
    have hl : l.length = n := by omega
    subst hr
    refine no (by omega) ?_
    refine CallP.st [(Bn, _)] (rNum_e hs ha (by simp)) (fun _ _ => trivial) (List.Perm.refl _) (List.Perm.refl _) (List.Perm.refl _) (fun h0 => ⟨_, (rdI (bts tx) (a, 0)).1, rfl, rfl, ?_⟩) (fun h0 => ?_)
    · have h2 : (rdI (bts tx) (a, 0)).2 = ((rdI (bts tx) (a, 0)).2.1, 0) := Prod.ext rfl h0
      refine CallP.st [(Bn, _)] (rNum_e hs (rdI_le (st := (a, 0)) ha) (by simp)) (fun _ _ => trivial) (List.Perm.refl _) (List.Perm.refl _) (List.Perm.refl _) (fun h1 => ⟨_, (rdI (bts tx) ((rdI (bts tx) (a, 0)).2.1, 0)).1, rfl, rfl, finK ?_⟩) (fun h1 => finX ?_)
      · rw [← h2] at h1 ⊢
        refine ⟨h1, rfl, Bn, ?_, by show l.length ≤ 64; omega⟩
        rw [← hl]; simp [labEnd]
      · rw [← h2] at h1
        have e : (labEnd (bts tx) u (l, (a, 0))).2.2 = 10 := h1
        rw [e]
        exact ⟨by decide, rfl, _, _, _, rfl, rfl⟩
    · have e : (labEnd (bts tx) u (l, (a, 0))).2.2 = 10 := by
        show (rdI (bts tx) (rdI (bts tx) (a, 0)).2).2.2 = 10
        rw [rdI_err (by rw [h0]; decide)]; exact h0
      refine finX ?_
      rw [e]
      exact ⟨by decide, rfl, _, _, _, rfl, rfl⟩
  | g + 1, l, a, hg, ha, hr => by
    apply rLabel_c0_vc
    rw [rdMany, if_pos rfl] at hr
    refine yes (by omega) ⟨by omega, ?_⟩
    refine CallP.st [fH FB _] (rNum_e hs ha (by simp)) (fun _ _ => trivial) perm3 perm3 perm3 (fun h0 => ⟨_, _, rfl, rfl, ?_⟩) (fun h0 => ?_)
    · have e1 : Int.toNat (l.length : Int) = (l.map (Value.int .i64)).length := by simp
      rw [e1, set_next, wi64 (by omega), show (l.length : Int) + 1 = ((l ++ [(rdI (bts tx) (a, 0)).1]).length : Int) by simp]
      have h2 : (rdI (bts tx) (a, 0)).2 = ((rdI (bts tx) (a, 0)).2.1, 0) := Prod.ext rfl h0
      have := rLabel_loop (B := B) (FB := FB) (Bn := Bn) hs (x := x) (tp := tp) (tc := tc) (bp := bp) (bc := bc) (ap := ap) (ac := ac) (u := u) (S := S) (w0 := w0) (r := r) hn g (l ++ [(rdI (bts tx) (a, 0)).1]) (rdI (bts tx) (a, 0)).2.1 (by simp; omega) (rdI_le (st := (a, 0)) ha) (by rw [hr, h2]; simp)
      simpa using this
    · have h2 : r.2.2 = 10 := by rw [hr]; simp only; rw [rdMany_err (by rw [h0]; decide)]; exact h0
      refine finX ?_
      rw [labEnd_err (by rw [h2]; decide), h2]
      exact ⟨by decide, rfl, _, _, _, rfl, rfl⟩
theorem rLabel_e {B FB a : Nat} {tx : ByteArray} (hs : tx.size < 4611686018427387904) (ha : a ≤ (bts tx).length) {x : Fct} {tp bp ap : Option Addr} {tc bc ac : Nat} :
    EffP Tryz.prog 146 ⟨[pt B 0, pt FB 11]⟩ [rK B tx a, fH FB (x.cells tp tc bp bc ap ac)] (fun _ => True) (LabK B FB tx x tp tc bp bc (rdV (bts tx) .label (a, 0))) (BadK B FB tx (rdV (bts tx) .label (a, 0)).2.2) := by
  intro W hm _
  refine rLabel_vc B FB tx a x tp tc bp bc ap ac hm ?_
  have ev : rdV (bts tx) .label (a, 0) = labEnd (bts tx) (rdI (bts tx) (a, 0)).1 (flist (rdI (bts tx)) (bts tx) 64 (rdI (bts tx) (a, 0)).2) := rfl
  rw [ev]
  refine CallP.st [] (rNum_e hs ha (by simp)) (fun _ _ => trivial) perm2 perm2 perm2 (fun h0 => ⟨_, (rdI (bts tx) (a, 0)).1, rfl, rfl, ?_⟩) (fun h0 => ?_)
  · have h2 : (rdI (bts tx) (a, 0)).2 = ((rdI (bts tx) (a, 0)).2.1, 0) := Prod.ext rfl h0
    rw [h2]
    have ha2 := rdI_le (s := bts tx) (st := (a, 0)) ha
    generalize (rdI (bts tx) (a, 0)).2.1 = a2 at *
    generalize (rdI (bts tx) (a, 0)).1 = u at *
    refine CallP.st [fH FB _] (rCount_e hs ha2) (fun _ _ => trivial) perm1 perm1 perm1 (fun h3 => ⟨_, _, rfl, rfl, ?_⟩) (fun h3 => ?_)
    · have hc := fcnt_ok h3
      refine ⟨by omega, fun B1 => ?_⟩
      have hle := fcnt_le (s := bts tx) (m := 64) (st := (a2, 0)) ha2
      have hr : flist (rdI (bts tx)) (bts tx) 64 (a2, 0) = rdMany (rdI (bts tx)) (fcnt (bts tx) 64 (a2, 0)).1.toNat (fcnt (bts tx) 64 (a2, 0)).2 := rfl
      generalize hq : (fcnt (bts tx) 64 (a2, 0)) = q at *
      have h4 : q.2 = (q.2.1, 0) := Prod.ext rfl h3
      rw [hr, h4]
      exact rLabel_loop (B := B) (FB := FB) (Bn := B1) hs (x := x) (tp := tp) (tc := tc) (bp := bp) (bc := bc) (ap := ap) (ac := ac) (u := u) (S := [rK B tx a, fH FB (x.cells tp tc bp bc ap ac)].map (·.1)) (w0 := W) (n := q.1.toNat) (r := rdMany (rdI (bts tx)) q.1.toNat (q.2.1, 0)) (by omega) q.1.toNat [] q.2.1 (by simp) hle (by simp)
    · refine finX ?_
      have e : (flist (rdI (bts tx)) (bts tx) 64 (a2, 0)).2 = (fcnt (bts tx) 64 (a2, 0)).2 := by rw [flist, rdMany_err h3]
      rw [labEnd_err (by rw [e]; exact h3), e]
      exact ⟨h3, rfl, _, _, [], rfl, rfl⟩
  · refine finX ?_
    have e : (flist (rdI (bts tx)) (bts tx) 64 (rdI (bts tx) (a, 0)).2).2 = (rdI (bts tx) (a, 0)).2 := flist_err (by rw [h0]; decide)
    rw [labEnd_err (by rw [e, h0]; decide), e, h0]
    exact ⟨by decide, rfl, _, _, [], rfl, rfl⟩
end Go.Eng
namespace Go.Eng
open Go Go.RowKit Go.Proofs
set_option linter.unusedVariables false
set_option maxRecDepth 100000
theorem rNumC_vc (kc : Nat) (kn : Nat) (B : Nat) (FB : Nat) (no : Nat) (tx : ByteArray) (ca : Int) (cs : List Value) (F : SHeap) {R : Ending → World → Prop} {S : List Nat} {w0 W : World} (hm : Mem ((B, .cells #[.bool true, .string tx, .int .i64 ca, .pointer none, .slice none 0 0] 95) :: (FB, .cells ⟨cs⟩ 28) :: F) S w0 W)
  (H :
   ∃ (cw : List Value), kc ∉ S ∧ blkW w0 kc = some cw ∧ cw[0]? = some (.pointer (some ⟨B, 0, none⟩)) ∧
   ∃ (cw1 : List Value), kn ∉ S ∧ blkW w0 kn = some cw1 ∧ cw1[0]? = some (.pointer (some ⟨FB, no, none⟩)) ∧
   CallP Tryz.prog 99 ⟨[.pointer (some ⟨B, 0, none⟩), .pointer (some ⟨FB, no, none⟩)]⟩ ((B, .cells #[.bool true, .string tx, .int .i64 ca, .pointer none, .slice none 0 0] 95) :: (FB, .cells ⟨cs⟩ 28) :: F) S w0 (fun v L' => ∃ (ca1 : Int) (cs1 : List Value), v = (.tuple #[]) ∧ L' = ((B, .cells #[.bool true, .string tx, .int .i64 ca1, .pointer none, .slice none 0 0] 95) :: (FB, .cells ⟨cs1⟩ 28) :: F) ∧
    Fin R ((B, .cells #[.bool true, .string tx, .int .i64 ca1, .pointer none, .slice none 0 0] 95) :: (FB, .cells ⟨cs1⟩ 28) :: F) S w0 (.tuple #[])) (fun ch L' => FinP R L' S w0 ch)) :
  Calls Tryz.prog 137 ⟨[.pointer (some ⟨kc, 0, none⟩), .pointer (some ⟨kn, 0, none⟩)]⟩ W R := by
 refine AtE.calls (nt := 5) Tryz.func137 (by kernel_rfl) hm ?_
 refine AtE.ru 1 ?_
 obtain ⟨cw, hs, hw, hx, H⟩ := H
 refine AtE.loadW (b := kc) (off := 0) (T := 90) (v := .pointer (some ⟨B, 0, none⟩)) (by kernel_rfl) hs hw (valAt_one hx (by kernel_rfl)) ?_
 obtain ⟨cw1, hs, hw, hx, H⟩ := H
 refine AtE.loadW (b := kn) (off := 0) (T := 144) (v := .pointer (some ⟨FB, no, none⟩)) (by kernel_rfl) hs hw (valAt_one hx (by kernel_rfl)) ?_
 refine AtE.callP 99 ⟨[.pointer (some ⟨B, 0, none⟩), .pointer (some ⟨FB, no, none⟩)]⟩ (fun W => by kernel_rfl) (by kernel_rfl) H ?_ (fun ch L' h => RaiseE.nrm Tryz.func137 h)
 clear H
 rintro _ _ ⟨ca1, cs1, rfl, rfl, H⟩
 refine AtE.ru 1 ?_
 exact AtE.ret Tryz.func137 (by kernel_rfl) H
theorem rWordC_vc (kc : Nat) (kn : Nat) (B : Nat) (FB : Nat) (no : Nat) (tx : ByteArray) (ca : Int) (cs : List Value) (F : SHeap) {R : Ending → World → Prop} {S : List Nat} {w0 W : World} (hm : Mem ((B, .cells #[.bool true, .string tx, .int .i64 ca, .pointer none, .slice none 0 0] 95) :: (FB, .cells ⟨cs⟩ 28) :: F) S w0 W)
  (H :
   ∃ (cw : List Value), kc ∉ S ∧ blkW w0 kc = some cw ∧ cw[0]? = some (.pointer (some ⟨B, 0, none⟩)) ∧
   ∃ (cw1 : List Value), kn ∉ S ∧ blkW w0 kn = some cw1 ∧ cw1[0]? = some (.pointer (some ⟨FB, no, none⟩)) ∧
   CallP Tryz.prog 140 ⟨[.pointer (some ⟨B, 0, none⟩), .pointer (some ⟨FB, no, none⟩)]⟩ ((B, .cells #[.bool true, .string tx, .int .i64 ca, .pointer none, .slice none 0 0] 95) :: (FB, .cells ⟨cs⟩ 28) :: F) S w0 (fun v L' => ∃ (ca1 : Int) (cs1 : List Value), v = (.tuple #[]) ∧ L' = ((B, .cells #[.bool true, .string tx, .int .i64 ca1, .pointer none, .slice none 0 0] 95) :: (FB, .cells ⟨cs1⟩ 28) :: F) ∧
    Fin R ((B, .cells #[.bool true, .string tx, .int .i64 ca1, .pointer none, .slice none 0 0] 95) :: (FB, .cells ⟨cs1⟩ 28) :: F) S w0 (.tuple #[])) (fun ch L' => FinP R L' S w0 ch)) :
  Calls Tryz.prog 139 ⟨[.pointer (some ⟨kc, 0, none⟩), .pointer (some ⟨kn, 0, none⟩)]⟩ W R := by
 refine AtE.calls (nt := 5) Tryz.func139 (by kernel_rfl) hm ?_
 refine AtE.ru 1 ?_
 obtain ⟨cw, hs, hw, hx, H⟩ := H
 refine AtE.loadW (b := kc) (off := 0) (T := 90) (v := .pointer (some ⟨B, 0, none⟩)) (by kernel_rfl) hs hw (valAt_one hx (by kernel_rfl)) ?_
 obtain ⟨cw1, hs, hw, hx, H⟩ := H
 refine AtE.loadW (b := kn) (off := 0) (T := 189) (v := .pointer (some ⟨FB, no, none⟩)) (by kernel_rfl) hs hw (valAt_one hx (by kernel_rfl)) ?_
 refine AtE.callP 140 ⟨[.pointer (some ⟨B, 0, none⟩), .pointer (some ⟨FB, no, none⟩)]⟩ (fun W => by kernel_rfl) (by kernel_rfl) H ?_ (fun ch L' h => RaiseE.nrm Tryz.func139 h)
 clear H
 rintro _ _ ⟨ca1, cs1, rfl, rfl, H⟩
 refine AtE.ru 1 ?_
 exact AtE.ret Tryz.func139 (by kernel_rfl) H
theorem rTopC_vc (kc : Nat) (kf : Nat) (B : Nat) (FB : Nat) (tx : ByteArray) (ca : Int) (cs : List Value) (F : SHeap) {R : Ending → World → Prop} {S : List Nat} {w0 W : World} (hm : Mem ((B, .cells #[.bool true, .string tx, .int .i64 ca, .pointer none, .slice none 0 0] 95) :: (FB, .cells ⟨cs⟩ 28) :: F) S w0 W)
  (H :
   ∃ (cw : List Value), kc ∉ S ∧ blkW w0 kc = some cw ∧ cw[0]? = some (.pointer (some ⟨B, 0, none⟩)) ∧
   ∃ (cw1 : List Value), kf ∉ S ∧ blkW w0 kf = some cw1 ∧ cw1[0]? = some (.pointer (some ⟨FB, 0, none⟩)) ∧
   CallP Tryz.prog 142 ⟨[.pointer (some ⟨B, 0, none⟩), .pointer (some ⟨FB, 9, none⟩)]⟩ ((B, .cells #[.bool true, .string tx, .int .i64 ca, .pointer none, .slice none 0 0] 95) :: (FB, .cells ⟨cs⟩ 28) :: F) S w0 (fun v L' => ∃ (ca1 : Int) (cs1 : List Value) (F1 : SHeap), v = (.tuple #[]) ∧ L' = ((B, .cells #[.bool true, .string tx, .int .i64 ca1, .pointer none, .slice none 0 0] 95) :: (FB, .cells ⟨cs1⟩ 28) :: F1) ∧
    Fin R ((B, .cells #[.bool true, .string tx, .int .i64 ca1, .pointer none, .slice none 0 0] 95) :: (FB, .cells ⟨cs1⟩ 28) :: F1) S w0 (.tuple #[])) (fun ch L' => FinP R L' S w0 ch)) :
  Calls Tryz.prog 141 ⟨[.pointer (some ⟨kc, 0, none⟩), .pointer (some ⟨kf, 0, none⟩)]⟩ W R := by
 refine AtE.calls (nt := 7) Tryz.func141 (by kernel_rfl) hm ?_
 refine AtE.norm (k' := [.code (sub (Eng.body Tryz.f141) [])]) (e' := [(0, .pointer (some ⟨kc, 0, none⟩)), (1, .pointer (some ⟨kf, 0, none⟩))]) (L' := ((B, .cells #[.bool true, .string tx, .int .i64 ca, .pointer none, .slice none 0 0] 95) :: (FB, .cells ⟨cs⟩ 28) :: F)) ?_ (by kernel_rfl)
 refine AtE.draw 4 (by kernel_rfl) ?_
 obtain ⟨cw, hs, hw, hx, H⟩ := H
 refine AtQ.loadW (b := kc) (off := 0) (T := 90) (v := .pointer (some ⟨B, 0, none⟩)) (by kernel_rfl) hs hw (valAt_one hx (by kernel_rfl)) ?_
 obtain ⟨cw1, hs, hw, hx, H⟩ := H
 refine AtQ.loadW (b := kf) (off := 0) (T := 97) (v := .pointer (some ⟨FB, 0, none⟩)) (by kernel_rfl) hs hw (valAt_one hx (by kernel_rfl)) ?_
 refine AtQ.pu ?_
 refine AtQ.pu ?_
 refine AtQ.done (by kernel_rfl) ?_
 refine AtE.callP 142 ⟨[.pointer (some ⟨B, 0, none⟩), .pointer (some ⟨FB, 9, none⟩)]⟩ (fun W => by kernel_rfl) (by kernel_rfl) H ?_ (fun ch L' h => RaiseE.nrm Tryz.func141 h)
 clear H
 rintro _ _ ⟨ca1, cs1, F1, rfl, rfl, H⟩
 refine AtE.ru 1 ?_
 exact AtE.ret Tryz.func141 (by kernel_rfl) H
theorem rBlkC_vc (kc : Nat) (kf : Nat) (B : Nat) (FB : Nat) (tx : ByteArray) (ca : Int) (cs : List Value) (F : SHeap) {R : Ending → World → Prop} {S : List Nat} {w0 W : World} (hm : Mem ((B, .cells #[.bool true, .string tx, .int .i64 ca, .pointer none, .slice none 0 0] 95) :: (FB, .cells ⟨cs⟩ 28) :: F) S w0 W)
  (H :
   ∃ (cw : List Value), kc ∉ S ∧ blkW w0 kc = some cw ∧ cw[0]? = some (.pointer (some ⟨B, 0, none⟩)) ∧
   ∃ (cw1 : List Value), kf ∉ S ∧ blkW w0 kf = some cw1 ∧ cw1[0]? = some (.pointer (some ⟨FB, 0, none⟩)) ∧
   CallP Tryz.prog 144 ⟨[.pointer (some ⟨B, 0, none⟩), .pointer (some ⟨FB, 10, none⟩)]⟩ ((B, .cells #[.bool true, .string tx, .int .i64 ca, .pointer none, .slice none 0 0] 95) :: (FB, .cells ⟨cs⟩ 28) :: F) S w0 (fun v L' => ∃ (ca1 : Int) (cs1 : List Value) (F1 : SHeap), v = (.tuple #[]) ∧ L' = ((B, .cells #[.bool true, .string tx, .int .i64 ca1, .pointer none, .slice none 0 0] 95) :: (FB, .cells ⟨cs1⟩ 28) :: F1) ∧
    Fin R ((B, .cells #[.bool true, .string tx, .int .i64 ca1, .pointer none, .slice none 0 0] 95) :: (FB, .cells ⟨cs1⟩ 28) :: F1) S w0 (.tuple #[])) (fun ch L' => FinP R L' S w0 ch)) :
  Calls Tryz.prog 143 ⟨[.pointer (some ⟨kc, 0, none⟩), .pointer (some ⟨kf, 0, none⟩)]⟩ W R := by
 refine AtE.calls (nt := 7) Tryz.func143 (by kernel_rfl) hm ?_
 refine AtE.norm (k' := [.code (sub (Eng.body Tryz.f143) [])]) (e' := [(0, .pointer (some ⟨kc, 0, none⟩)), (1, .pointer (some ⟨kf, 0, none⟩))]) (L' := ((B, .cells #[.bool true, .string tx, .int .i64 ca, .pointer none, .slice none 0 0] 95) :: (FB, .cells ⟨cs⟩ 28) :: F)) ?_ (by kernel_rfl)
 refine AtE.draw 4 (by kernel_rfl) ?_
 obtain ⟨cw, hs, hw, hx, H⟩ := H
 refine AtQ.loadW (b := kc) (off := 0) (T := 90) (v := .pointer (some ⟨B, 0, none⟩)) (by kernel_rfl) hs hw (valAt_one hx (by kernel_rfl)) ?_
 obtain ⟨cw1, hs, hw, hx, H⟩ := H
 refine AtQ.loadW (b := kf) (off := 0) (T := 97) (v := .pointer (some ⟨FB, 0, none⟩)) (by kernel_rfl) hs hw (valAt_one hx (by kernel_rfl)) ?_
 refine AtQ.pu ?_
 refine AtQ.pu ?_
 refine AtQ.done (by kernel_rfl) ?_
 refine AtE.callP 144 ⟨[.pointer (some ⟨B, 0, none⟩), .pointer (some ⟨FB, 10, none⟩)]⟩ (fun W => by kernel_rfl) (by kernel_rfl) H ?_ (fun ch L' h => RaiseE.nrm Tryz.func143 h)
 clear H
 rintro _ _ ⟨ca1, cs1, F1, rfl, rfl, H⟩
 refine AtE.ru 1 ?_
 exact AtE.ret Tryz.func143 (by kernel_rfl) H
theorem rLabC_vc (kc : Nat) (kf : Nat) (B : Nat) (FB : Nat) (tx : ByteArray) (ca : Int) (cs : List Value) (F : SHeap) {R : Ending → World → Prop} {S : List Nat} {w0 W : World} (hm : Mem ((B, .cells #[.bool true, .string tx, .int .i64 ca, .pointer none, .slice none 0 0] 95) :: (FB, .cells ⟨cs⟩ 28) :: F) S w0 W)
  (H :
   ∃ (cw : List Value), kc ∉ S ∧ blkW w0 kc = some cw ∧ cw[0]? = some (.pointer (some ⟨B, 0, none⟩)) ∧
   ∃ (cw1 : List Value), kf ∉ S ∧ blkW w0 kf = some cw1 ∧ cw1[0]? = some (.pointer (some ⟨FB, 0, none⟩)) ∧
   CallP Tryz.prog 146 ⟨[.pointer (some ⟨B, 0, none⟩), .pointer (some ⟨FB, 11, none⟩)]⟩ ((B, .cells #[.bool true, .string tx, .int .i64 ca, .pointer none, .slice none 0 0] 95) :: (FB, .cells ⟨cs⟩ 28) :: F) S w0 (fun v L' => ∃ (ca1 : Int) (cs1 : List Value) (F1 : SHeap), v = (.tuple #[]) ∧ L' = ((B, .cells #[.bool true, .string tx, .int .i64 ca1, .pointer none, .slice none 0 0] 95) :: (FB, .cells ⟨cs1⟩ 28) :: F1) ∧
    Fin R ((B, .cells #[.bool true, .string tx, .int .i64 ca1, .pointer none, .slice none 0 0] 95) :: (FB, .cells ⟨cs1⟩ 28) :: F1) S w0 (.tuple #[])) (fun ch L' => FinP R L' S w0 ch)) :
  Calls Tryz.prog 145 ⟨[.pointer (some ⟨kc, 0, none⟩), .pointer (some ⟨kf, 0, none⟩)]⟩ W R := by
 refine AtE.calls (nt := 7) Tryz.func145 (by kernel_rfl) hm ?_
 refine AtE.norm (k' := [.code (sub (Eng.body Tryz.f145) [])]) (e' := [(0, .pointer (some ⟨kc, 0, none⟩)), (1, .pointer (some ⟨kf, 0, none⟩))]) (L' := ((B, .cells #[.bool true, .string tx, .int .i64 ca, .pointer none, .slice none 0 0] 95) :: (FB, .cells ⟨cs⟩ 28) :: F)) ?_ (by kernel_rfl)
 refine AtE.draw 4 (by kernel_rfl) ?_
 obtain ⟨cw, hs, hw, hx, H⟩ := H
 refine AtQ.loadW (b := kc) (off := 0) (T := 90) (v := .pointer (some ⟨B, 0, none⟩)) (by kernel_rfl) hs hw (valAt_one hx (by kernel_rfl)) ?_
 obtain ⟨cw1, hs, hw, hx, H⟩ := H
 refine AtQ.loadW (b := kf) (off := 0) (T := 97) (v := .pointer (some ⟨FB, 0, none⟩)) (by kernel_rfl) hs hw (valAt_one hx (by kernel_rfl)) ?_
 refine AtQ.pu ?_
 refine AtQ.pu ?_
 refine AtQ.done (by kernel_rfl) ?_
 refine AtE.callP 146 ⟨[.pointer (some ⟨B, 0, none⟩), .pointer (some ⟨FB, 11, none⟩)]⟩ (fun W => by kernel_rfl) (by kernel_rfl) H ?_ (fun ch L' h => RaiseE.nrm Tryz.func145 h)
 clear H
 rintro _ _ ⟨ca1, cs1, F1, rfl, rfl, H⟩
 refine AtE.ru 1 ?_
 exact AtE.ret Tryz.func145 (by kernel_rfl) H
end Go.Eng
namespace Go.Eng
open Go Go.RowKit Go.Proofs
set_option linter.unusedVariables false
set_option maxRecDepth 100000
def rFact_c0 (tx : ByteArray) (B1 : Nat) (B2 : Nat) (t29_p : Option Addr) (t29_l : Nat) (t29_c : Nat) (t30 : Int) (t31 : Int) (m2 : Int) (cs4 : List Value) (F2 : SHeap) (S : List Nat) (w0 : World) (R : Ending → World → Prop) : Prop :=
 AtE Tryz.prog 56 38 [.code (sub (Eng.body Tryz.f56) [1,1,1,1,1,1,0,0]), .inLoop (sub (Eng.body Tryz.f56) [1,1,1,1,1,1,0,0]), .inBlock 0] [(29, .slice t29_p t29_l t29_c), (30, .int .i64 t30), (31, .int .i64 t31)] ((B1, .cells #[.bool true, .string tx, .int .i64 m2, .pointer none, .slice none 0 0] 95) :: (B2, .cells ⟨cs4⟩ 28) :: F2) S w0 (nrm R)
theorem rFact_c0_vc (tx : ByteArray) (B1 : Nat) (B2 : Nat) (t29_p : Option Addr) (t29_l : Nat) (t29_c : Nat) (t30 : Int) (t31 : Int) (m2 : Int) (cs4 : List Value) (F2 : SHeap) {R : Ending → World → Prop} {S : List Nat} {w0 : World}
  (H :
   ((t31 < t30) →
    ∃ t29_pb t29_po : Nat, t29_p = some ⟨t29_pb, t29_po, none⟩ ∧ (0 ≤ t31 ∧ t31 < t29_l) ∧
    ∃ (cw : List Value) (m1 : Value), (∃ t fz, (t29_pb, Obj.cells ⟨cw⟩ t fz) ∈ ((B1, .cells #[.bool true, .string tx, .int .i64 m2, .pointer none, .slice none 0 0] 95) :: (B2, .cells ⟨cs4⟩ 28) :: F2)) ∧ cw[(t29_po + (Int.toNat t31))]? = some (m1) ∧
    ∃ (g : Nat) (caps : List Value), m1 = .func (.func g) ⟨[]⟩ ⟨caps⟩ ∧ FnReady Tryz.prog g ∧
    CallP Tryz.prog g ⟨[] ++ caps⟩ ((B1, .cells #[.bool true, .string tx, .int .i64 m2, .pointer none, .slice none 0 0] 95) :: (B2, .cells ⟨cs4⟩ 28) :: F2) S w0 (fun v L' => ∃ (ca4 : Int) (cs5 : List Value) (F3 : SHeap), v = .tuple #[] ∧ L' = ((B1, .cells #[.bool true, .string tx, .int .i64 ca4, .pointer none, .slice none 0 0] 95) :: (B2, .cells ⟨cs5⟩ 28) :: F3) ∧
     rFact_c0 tx B1 B2 t29_p t29_l t29_c t30 (IntKind.i64.wrap (t31 + (1 : Int))) ca4 cs5 F3 S w0 R) (fun ch L' => FinP R L' S w0 ch)) ∧
    ((¬ (t31 < t30)) →
    Fin R ((B1, .cells #[.bool true, .string tx, .int .i64 m2, .pointer none, .slice none 0 0] 95) :: (B2, .cells ⟨cs4⟩ 28) :: F2) S w0 (.tuple #[]))) :
  rFact_c0 tx B1 B2 t29_p t29_l t29_c t30 t31 m2 cs4 F2 S w0 R := by
 unfold rFact_c0
 refine AtE.ru 5 ?_
 refine AtE.splitP 32 (p := t31 < t30) (by kernel_rfl) (fun h2' => ?_) (fun h2' => ?_)
 ·replace H := H.1 h2'
  refine AtE.ru 6 ?_
  obtain ⟨t29_pb, t29_po, hp, H⟩ := H
  refine AtE.indexAddrP (E := 1) (p := t29_p) (b := t29_pb) (o := t29_po) (len := t29_l) (cap := t29_c) (sz := 1) (o' := (t29_po + (Int.toNat t31))) (kd := .i64) (i := t31) hp (by kernel_rfl) H.1 (by omega) ?_
  replace H := H.2
  obtain ⟨cw, m1, hw, hx, H⟩ := H
  refine AtE.loadT (b := t29_pb) (off := (t29_po + (Int.toNat t31))) (T := 1) (v := m1) (by kernel_rfl) hw (valAt_one hx (by kernel_rfl)) ?_
  refine AtE.ru 4 ?_
  obtain ⟨g, caps, rfl, hr, H⟩ := H
  refine AtE.callV g [] caps [] (by kernel_rfl) hr H ?_ (fun ch L' h => RaiseE.nrm Tryz.func56 h)
  clear H
  rintro _ _ ⟨ca4, cs5, F3, rfl, rfl, H⟩
  refine AtE.ru 7 ?_
  exact AtE.cutT [0,1] 2 H (by kernel_rfl)
 ·replace H := H.2 h2'
  refine AtE.ru 2 ?_
  exact AtE.ret Tryz.func56 (by kernel_rfl) H
theorem rFact_vc (B : Nat) (FB : Nat) (tx : ByteArray) (ca : Int) (cs : List Value) (F : SHeap) {R : Ending → World → Prop} {S : List Nat} {w0 W : World} (hm : Mem ((B, .cells #[.bool true, .string tx, .int .i64 ca, .pointer none, .slice none 0 0] 95) :: (FB, .cells ⟨cs⟩ 28) :: F) S w0 W)
  (H :
   CallP Tryz.prog 99 ⟨[.pointer (some ⟨B, 0, none⟩), .pointer (some ⟨FB, 0, none⟩)]⟩ ((B, .cells #[.bool true, .string tx, .int .i64 ca, .pointer none, .slice none 0 0] 95) :: (FB, .cells ⟨cs⟩ 28) :: F) S w0 (fun v L' => ∃ (ca1 : Int) (cs1 : List Value), v = (.tuple #[]) ∧ L' = ((B, .cells #[.bool true, .string tx, .int .i64 ca1, .pointer none, .slice none 0 0] 95) :: (FB, .cells ⟨cs1⟩ 28) :: F) ∧
    CallP Tryz.prog 99 ⟨[.pointer (some ⟨B, 0, none⟩), .pointer (some ⟨FB, 1, none⟩)]⟩ ((B, .cells #[.bool true, .string tx, .int .i64 ca1, .pointer none, .slice none 0 0] 95) :: (FB, .cells ⟨cs1⟩ 28) :: F) S w0 (fun v L' => ∃ (ca2 : Int) (cs2 : List Value), v = (.tuple #[]) ∧ L' = ((B, .cells #[.bool true, .string tx, .int .i64 ca2, .pointer none, .slice none 0 0] 95) :: (FB, .cells ⟨cs2⟩ 28) :: F) ∧
     CallP Tryz.prog 99 ⟨[.pointer (some ⟨B, 0, none⟩), .pointer (some ⟨FB, 2, none⟩)]⟩ ((B, .cells #[.bool true, .string tx, .int .i64 ca2, .pointer none, .slice none 0 0] 95) :: (FB, .cells ⟨cs2⟩ 28) :: F) S w0 (fun v L' => ∃ (ca3 : Int) (cs3 : List Value), v = (.tuple #[]) ∧ L' = ((B, .cells #[.bool true, .string tx, .int .i64 ca3, .pointer none, .slice none 0 0] 95) :: (FB, .cells ⟨cs3⟩ 28) :: F) ∧
      CallH Tryz.prog 100 ⟨[.pointer (some ⟨B, 0, none⟩), .pointer (some ⟨FB, 0, none⟩)]⟩ ((B, .cells #[.bool true, .string tx, .int .i64 ca3, .pointer none, .slice none 0 0] 95) :: (FB, .cells ⟨cs3⟩ 28) :: F) S w0 (fun v L' => ∃ (r1_p : Option Addr) (r1_l : Nat) (r1_c : Nat) (F1 : SHeap), v = (.slice r1_p r1_l r1_c) ∧ L' = ((B, .cells #[.bool true, .string tx, .int .i64 ca3, .pointer none, .slice none 0 0] 95) :: (FB, .cells ⟨cs3⟩ 28) :: F1) ∧
       (((r1_l : Int) = (0 : Int)) →
        FinP R ((B, .cells #[.bool true, .string tx, .int .i64 ca3, .pointer none, .slice none 0 0] 95) :: (FB, .cells ⟨cs3⟩ 28) :: F1) S w0 [{ v := .iface 31 (.int .i64 (50 : Int)), recovered := false }]) ∧
        ((¬ ((r1_l : Int) = (0 : Int))) →
        rFact_c0 tx B FB r1_p r1_l r1_c (r1_l : Int) (0 : Int) ca3 cs3 F1 S w0 R))) (fun ch L' => FinP R L' S w0 ch)) (fun ch L' => FinP R L' S w0 ch)) (fun ch L' => FinP R L' S w0 ch)) :
  Calls Tryz.prog 56 ⟨[.pointer (some ⟨B, 0, none⟩), .pointer (some ⟨FB, 0, none⟩)]⟩ W R := by
 refine AtE.calls (nt := 38) Tryz.func56 (by kernel_rfl) hm ?_
 refine AtE.ru 6 ?_
 refine AtE.callP 99 ⟨[.pointer (some ⟨B, 0, none⟩), .pointer (some ⟨FB, 0, none⟩)]⟩ (fun W => by kernel_rfl) (by kernel_rfl) H ?_ (fun ch L' h => RaiseE.nrm Tryz.func56 h)
 clear H
 rintro _ _ ⟨ca1, cs1, rfl, rfl, H⟩
 refine AtE.ru 7 ?_
 refine AtE.callP 99 ⟨[.pointer (some ⟨B, 0, none⟩), .pointer (some ⟨FB, 1, none⟩)]⟩ (fun W => by kernel_rfl) (by kernel_rfl) H ?_ (fun ch L' h => RaiseE.nrm Tryz.func56 h)
 clear H
 rintro _ _ ⟨ca2, cs2, rfl, rfl, H⟩
 refine AtE.ru 7 ?_
 refine AtE.callP 99 ⟨[.pointer (some ⟨B, 0, none⟩), .pointer (some ⟨FB, 2, none⟩)]⟩ (fun W => by kernel_rfl) (by kernel_rfl) H ?_ (fun ch L' h => RaiseE.nrm Tryz.func56 h)
 clear H
 rintro _ _ ⟨ca3, cs3, rfl, rfl, H⟩
 refine AtE.ru 5 ?_
 refine AtE.call 100 ⟨[.pointer (some ⟨B, 0, none⟩), .pointer (some ⟨FB, 0, none⟩)]⟩ (fun W => by kernel_rfl) (by kernel_rfl) H ?_
 clear H
 rintro _ _ ⟨r1_p, r1_l, r1_c, F1, rfl, rfl, H⟩
 refine AtE.ru 9 ?_
 refine AtE.splitP 27 (p := (r1_l : Int) = (0 : Int)) (by kernel_rfl) (fun h1' => ?_) (fun h1' => ?_)
 ·replace H := H.1 h1'
  refine AtE.ru 3 ?_
  refine AtE.panic (t := 31) (v := .int .i64 (50 : Int)) (by kernel_rfl) ?_
  exact RaiseE.nrm Tryz.func56 H
 ·replace H := H.2 h1'
  refine AtE.ru 10 ?_
  exact AtE.cutT [0,1] 2 H (by kernel_rfl)
end Go.Eng
namespace Go.Eng
open Go Go.RowKit Go.Proofs Wire
set_option linter.unusedVariables false
def lkU (M : SHeap) (lk : Lk) : Lk := fun b c => lkF M b c ∨ lk b c
def StepK (B FB : Nat) (tx : ByteArray) (f : Fct) (tp : Option Addr) (tc : Nat) (bp : Option Addr) (bc : Nat) (ap : Option Addr) (ac : Nat) (x : Fld) (a : Nat) (v : Value) (L' : SHeap) : Prop :=
  (rdV (bts tx) x.ty (a, 0)).2.2 = 0 ∧ v = .tuple #[] ∧ ∃ tp' tc' bp' bc' ap' ac' M, L' = rK B tx (rdV (bts tx) x.ty (a, 0)).2.1 :: fH FB ((f.set x (rdV (bts tx) x.ty (a, 0)).1).cells tp' tc' bp' bc' ap' ac') :: M ∧
    ∀ lk, FAt lk f tp tc bp bc ap ac → FAt (lkU M lk) (f.set x (rdV (bts tx) x.ty (a, 0)).1) tp' tc' bp' bc' ap' ac'
theorem rd_int {s : List UInt8} {st : RS} {f : Fct} {x : Fld} (h : x.ty = .int) : (rdV s x.ty st).2 = (rdI s st).2 ∧
    (∀ tp tc bp bc ap ac, (f.cells tp tc bp bc ap ac).set x.off (.int .i64 (rdI s st).1) = (f.set x (rdV s x.ty st).1).cells tp tc bp bc ap ac) ∧ x.off < 23 ∧
    ∀ lk tp tc bp bc ap ac, FAt lk f tp tc bp bc ap ac → FAt lk (f.set x (rdV s x.ty st).1) tp tc bp bc ap ac := by
  cases x <;> first | exact absurd h (by decide) | exact ⟨rfl, fun _ _ _ _ _ _ => rfl, by decide, fun _ _ _ _ _ _ _ h => ⟨h.tops, h.blks, h.ints, h.ct, h.cb, h.ca, h.fits⟩⟩
theorem rd_str {s : List UInt8} {st : RS} {f : Fct} {x : Fld} (hz : (rdT s st).1.size ≤ 9223372036854775807) (h : x.ty = .str) : (rdV s x.ty st).2 = (rdT s st).2 ∧
    (∀ tp tc bp bc ap ac, (f.cells tp tc bp bc ap ac).set x.off (.string (rdT s st).1) = (f.set x (rdV s x.ty st).1).cells tp tc bp bc ap ac) ∧ x.off < 23 ∧
    ∀ lk tp tc bp bc ap ac, FAt lk f tp tc bp bc ap ac → FAt lk (f.set x (rdV s x.ty st).1) tp tc bp bc ap ac := by
  cases x
  case lang => exact ⟨rfl, fun _ _ _ _ _ _ => rfl, by decide, fun _ _ _ _ _ _ _ h => ⟨h.tops, h.blks, h.ints, h.ct, h.cb, h.ca, ⟨hz, h.fits.1.2⟩, h.fits.2⟩⟩
  case title => exact ⟨rfl, fun _ _ _ _ _ _ => rfl, by decide, fun _ _ _ _ _ _ _ h => ⟨h.tops, h.blks, h.ints, h.ct, h.cb, h.ca, ⟨h.fits.1.1, hz, h.fits.1.2.2⟩, h.fits.2⟩⟩
  case author => exact ⟨rfl, fun _ _ _ _ _ _ => rfl, by decide, fun _ _ _ _ _ _ _ h => ⟨h.tops, h.blks, h.ints, h.ct, h.cb, h.ca, ⟨h.fits.1.1, h.fits.1.2.1, hz, h.fits.1.2.2.2⟩, h.fits.2⟩⟩
  case text => exact ⟨rfl, fun _ _ _ _ _ _ => rfl, by decide, fun _ _ _ _ _ _ _ h => ⟨h.tops, h.blks, h.ints, h.ct, h.cb, h.ca, ⟨h.fits.1.1, h.fits.1.2.1, h.fits.1.2.2.1, hz, h.fits.1.2.2.2.2⟩, h.fits.2⟩⟩
  case name => exact ⟨rfl, fun _ _ _ _ _ _ => rfl, by decide, fun _ _ _ _ _ _ _ h => ⟨h.tops, h.blks, h.ints, h.ct, h.cb, h.ca, ⟨h.fits.1.1, h.fits.1.2.1, h.fits.1.2.2.1, h.fits.1.2.2.2.1, hz⟩, h.fits.2⟩⟩
  all_goals exact absurd h (by decide)
theorem rdMany_sizes {s : List UInt8} : ∀ (n : Nat) (st : RS), st.1 ≤ s.length → ∀ t ∈ (rdMany (rdT s) n st).1, t.size ≤ 65536
  | 0, st, _, t, ht => by simp [rdMany] at ht
  | n + 1, st, h, t, ht => by
    unfold rdMany at ht
    split at ht
    · rcases List.mem_cons.1 ht with rfl | ht
      · exact (rdT_le h).2
      · exact rdMany_sizes n _ (rdT_le h).1 t ht
    · simp at ht
theorem cells_len {f : Fct} {tp bp ap : Option Addr} {tc bc ac : Nat} : (f.cells tp tc bp bc ap ac).length = 23 := rfl
theorem lkU_r {M : SHeap} {lk : Lk} : ∀ b c, lk b c → lkU M lk b c := fun _ _ h => .inr h
theorem lkU_l {M : SHeap} {lk : Lk} : ∀ b c, lkF M b c → lkU M lk b c := fun _ _ h => .inl h
theorem strs_at {lk : Lk} {Bn : Nat} {l : List ByteArray} (h : lk Bn (l.map .string)) : StrsL lk (some ⟨Bn, 0, none⟩) l :=
  fun _ => ⟨Bn, 0, _, rfl, h, fun i hi => by rw [Nat.zero_add, List.getElem?_map, List.getElem?_eq_getElem hi]; rfl⟩
theorem ints_at {lk : Lk} {Bn : Nat} {l : List Int} (h : lk Bn (l.map (.int .i64))) : IntsL lk (some ⟨Bn, 0, none⟩) l :=
  fun _ => ⟨Bn, 0, _, rfl, h, fun i hi => by rw [Nat.zero_add, List.getElem?_map, List.getElem?_eq_getElem hi]; rfl⟩
theorem rClo {X : SHeap} {B FB : Nat} {x : Fld} {v : Value} (h : CloAt X B FB x v) {tx : ByteArray} (hs : tx.size < 4611686018427387904) : ∃ g caps, v = .func (.func g) ⟨[]⟩ ⟨caps⟩ ∧ FnReady Tryz.prog g ∧
    ∀ {a : Nat} {f : Fct} {tp bp ap : Option Addr} {tc bc ac : Nat}, a ≤ (bts tx).length → EffP Tryz.prog g ⟨caps⟩ [rK B tx a, fH FB (f.cells tp tc bp bc ap ac)] (fun W => XPre [B, FB] X W) (StepK B FB tx f tp tc bp bc ap ac x a) (BadK B FB tx (rdV (bts tx) x.ty (a, 0)).2.2) := by
  obtain ⟨kc, kn, h1, ⟨hx, rfl, h2⟩ | ⟨hx, rfl, h2⟩ | ⟨rfl, rfl, h2⟩ | ⟨rfl, rfl, h2⟩ | ⟨rfl, rfl, h2⟩⟩ := h
  · refine ⟨_, _, rfl, ⟨_, Tryz.func137, by kernel_rfl, by kernel_rfl⟩, ?_⟩
    intro a f tp bp ap tc bc ac ha W hm hX
    obtain ⟨e1, e2, e3, e4⟩ := rd_int (s := bts tx) (st := (a, 0)) (f := f) hx
    have q1 := hX _ _ _ _ h1; have q2 := hX _ _ _ _ h2
    refine rNumC_vc kc kn B FB x.off tx a _ [] hm ⟨_, q1.1, q1.2, rfl, _, q2.1, q2.2, rfl, ?_⟩
    refine CallP.st [] (rNum_e hs ha (by rw [cells_len]; exact e3)) (fun _ _ => trivial) perm2 perm2 perm2 (fun h0 => ⟨_, _, rfl, rfl, finK ?_⟩) (fun h0 => finX ?_)
    · rw [StepK, e1, e2]
      exact ⟨h0, rfl, tp, tc, bp, bc, ap, ac, [], rfl, fun lk h => (e4 _ _ _ _ _ _ _ h).mono lkU_r⟩
    · rw [e1, h0]
      exact ⟨by decide, rfl, _, _, _, rfl, rfl⟩
  · refine ⟨_, _, rfl, ⟨_, Tryz.func139, by kernel_rfl, by kernel_rfl⟩, ?_⟩
    intro a f tp bp ap tc bc ac ha W hm hX
    have hz := (rdT_le (s := bts tx) (st := (a, 0)) ha).2
    obtain ⟨e1, e2, e3, e4⟩ := rd_str (s := bts tx) (st := (a, 0)) (f := f) (by omega) hx
    have q1 := hX _ _ _ _ h1; have q2 := hX _ _ _ _ h2
    refine rWordC_vc kc kn B FB x.off tx a _ [] hm ⟨_, q1.1, q1.2, rfl, _, q2.1, q2.2, rfl, ?_⟩
    refine CallP.st [] (rWord_e hs ha (by rw [cells_len]; exact e3)) (fun _ _ => trivial) perm2 perm2 perm2 (fun h0 => ⟨_, _, rfl, rfl, finK ?_⟩) (fun h0 => finX ?_)
    · rw [StepK, e1, e2]
      exact ⟨h0, rfl, tp, tc, bp, bc, ap, ac, [], rfl, fun lk h => (e4 _ _ _ _ _ _ _ h).mono lkU_r⟩
    · rw [e1, h0]
      exact ⟨by decide, rfl, _, _, _, rfl, rfl⟩
  · refine ⟨_, _, rfl, ⟨_, Tryz.func141, by kernel_rfl, by kernel_rfl⟩, ?_⟩
    intro a f tp bp ap tc bc ac ha W hm hX
    have q1 := hX _ _ _ _ h1; have q2 := hX _ _ _ _ h2
    refine rTopC_vc kc kn B FB tx a _ [] hm ⟨_, q1.1, q1.2, rfl, _, q2.1, q2.2, rfl, ?_⟩
    refine CallP.eff0 (L0 := [rK B tx a, fH FB _]) (L1 := []) (rTopics_e hs ha) (fun _ _ => trivial) ?_ (fun ch L' hb => finX (by rw [List.append_nil]; exact hb))
    rintro _ _ ⟨h0, rfl, Bn, rfl⟩
    refine ⟨_, _, [_], rfl, rfl, finK ?_⟩
    refine ⟨h0, rfl, some ⟨Bn, 0, none⟩, _, bp, bc, ap, ac, _, rfl, fun lk h => ?_⟩
    have hl := (flist_le (f := rdT (bts tx)) (s := bts tx) (m := 4) (fun st h => (rdT_le h).1) (st := (a, 0)) ha).2
    have hz := rdMany_sizes (s := bts tx) (fcnt (bts tx) 4 (a, 0)).1.toNat _ (fcnt_le (m := 4) (st := (a, 0)) ha)
    refine ⟨strs_at (.inl ⟨_, _, List.mem_singleton.2 rfl⟩), h.blks.mono lkU_r, h.ints.mono lkU_r, Nat.le_refl _, h.cb, h.ca, h.fits.1, ⟨Nat.le_trans hl (by decide), fun t ht => Nat.le_trans (hz t ht) (by decide)⟩, h.fits.2.2⟩
  · refine ⟨_, _, rfl, ⟨_, Tryz.func143, by kernel_rfl, by kernel_rfl⟩, ?_⟩
    intro a f tp bp ap tc bc ac ha W hm hX
    have q1 := hX _ _ _ _ h1; have q2 := hX _ _ _ _ h2
    refine rBlkC_vc kc kn B FB tx a _ [] hm ⟨_, q1.1, q1.2, rfl, _, q2.1, q2.2, rfl, ?_⟩
    refine CallP.eff0 (L0 := [rK B tx a, fH FB _]) (L1 := []) (rBlocks_e hs ha) (fun _ _ => trivial) ?_ (fun ch L' hb => finX (by rw [List.append_nil]; exact hb))
    rintro _ _ ⟨h0, rfl, p, c, N, rfl, hb, hc, h24⟩
    rw [List.append_nil]
    refine ⟨_, _, N, rfl, rfl, finK ?_⟩
    exact ⟨h0, rfl, tp, tc, p, c, ap, ac, N, rfl, fun lk h => ⟨h.tops.mono lkU_r, hb.mono lkU_l, h.ints.mono lkU_r, h.ct, hc, h.ca, h.fits.1, h.fits.2.1, Nat.le_trans h24 (by decide), h.fits.2.2.2⟩⟩
  · refine ⟨_, _, rfl, ⟨_, Tryz.func145, by kernel_rfl, by kernel_rfl⟩, ?_⟩
    intro a f tp bp ap tc bc ac ha W hm hX
    have q1 := hX _ _ _ _ h1; have q2 := hX _ _ _ _ h2
    refine rLabC_vc kc kn B FB tx a _ [] hm ⟨_, q1.1, q1.2, rfl, _, q2.1, q2.2, rfl, ?_⟩
    refine CallP.eff0 (L0 := [rK B tx a, fH FB _]) (L1 := []) (rLabel_e hs ha) (fun _ _ => trivial) ?_ (fun ch L' hb => finX (by rw [List.append_nil]; exact hb))
    rintro _ _ ⟨h0, rfl, Bn, rfl, h64⟩
    refine ⟨_, _, [_], rfl, rfl, finK ?_⟩
    exact ⟨h0, rfl, tp, tc, bp, bc, some ⟨Bn, 0, none⟩, _, _, rfl, fun lk h => ⟨h.tops.mono lkU_r, h.blks.mono lkU_r, ints_at (.inl ⟨_, _, List.mem_singleton.2 rfl⟩), h.ct, h.cb, Nat.le_refl _, h.fits.1, h.fits.2.1, h.fits.2.2.1, Nat.le_trans h64 (by decide)⟩⟩
def FactK (B FB : Nat) (tx : ByteArray) (r : Fct × RS) (v : Value) (L' : SHeap) : Prop :=
  r.2.2 = 0 ∧ v = .tuple #[] ∧ ∃ tp tc bp bc ap ac N, L' = rK B tx r.2.1 :: fH FB (r.1.cells tp tc bp bc ap ac) :: N ∧ FAt (lkF N) r.1 tp tc bp bc ap ac
theorem lkU_F {M N : SHeap} : ∀ b c, lkU M (lkF N) b c → lkF (M ++ N) b c := by
  rintro b c (⟨t, fz, h⟩ | ⟨t, fz, h⟩)
  · exact ⟨t, fz, List.mem_append_left _ h⟩
  · exact ⟨t, fz, List.mem_append_right _ h⟩
theorem rFact_loop {B FB Bs : Nat} {tx : ByteArray} (hs : tx.size < 4611686018427387904) {k : Int} {S : List Nat} {w0 : World} {X : SHeap} {vs : List Value} (hrow : (Bs, .cells ⟨vs⟩ 1) ∈ X) (hc : Clos X B FB (kfields k) vs) {r : Fct × RS} :
    ∀ (g i : Nat) (f : Fct) (a : Nat) (tp : Option Addr) (tc : Nat) (bp : Option Addr) (bc : Nat) (ap : Option Addr) (ac : Nat) (N : SHeap), g + i = (kfields k).length → r = ((kfields k).drop i).foldl (rdFld (bts tx)) (f, (a, 0)) → a ≤ (bts tx).length → FAt (lkF N) f tp tc bp bc ap ac →
      rFact_c0 tx B FB (some ⟨Bs, 0, none⟩) (kfields k).length (kfields k).length ((kfields k).length : Int) (i : Int) (a : Int) (f.cells tp tc bp bc ap ac) (N ++ X) S w0 (PK (FactK B FB tx r) (BadK B FB tx r.2.2) S w0)
  | 0, i, f, a, tp, tc, bp, bc, ap, ac, N, hi, hr, ha, hF => by
    apply rFact_c0_vc
    rw [List.drop_of_length_le (by omega)] at hr
    subst hr
    exact no (by omega) (finK ⟨rfl, rfl, tp, tc, bp, bc, ap, ac, N ++ X, rfl, hF.mono (lkF_mono fun x hx => List.mem_append_left _ hx)⟩)
  | g + 1, i, f, a, tp, tc, bp, bc, ap, ac, N, hi, hr, ha, hF => by
    apply rFact_c0_vc
    have hlt : i < (kfields k).length := by omega
    have h9 := kfields_len k
    obtain ⟨u, hu1, hu2⟩ := hc.get i hlt
    obtain ⟨gf, caps, e1, e2, e3⟩ := rClo hu2 hs
    rw [List.drop_eq_getElem_cons hlt, List.foldl_cons] at hr
    refine yes (by omega) ⟨Bs, 0, rfl, by omega, vs, u, ⟨_, _, List.mem_cons_of_mem _ (List.mem_cons_of_mem _ (List.mem_append_right _ hrow))⟩, by simpa using hu1, gf, caps, e1, e2, ?_⟩
    refine CallP.eff0 (L0 := [rK B tx a, fH FB (f.cells tp tc bp bc ap ac)]) (L1 := N ++ X) (e3 ha) (fun W' hm' => fun b c t fz hb => xpre_of hm' b c t fz (List.mem_append_right _ hb)) ?_ ?_
    · rintro _ _ ⟨h0, rfl, tp', tc', bp', bc', ap', ac', M, rfl, hM⟩
      refine ⟨_, _, (M ++ N) ++ X, rfl, by rw [List.append_assoc]; rfl, ?_⟩
      rw [wi64 (by omega), show (i : Int) + 1 = ((i + 1 : Nat) : Int) by omega]
      refine rFact_loop hs hrow hc g (i + 1) _ _ tp' tc' bp' bc' ap' ac' (M ++ N) (by omega) ?_ (rdV_le (st := (a, 0)) ha) ((hM _ hF).mono lkU_F)
      rw [hr]
      congr 1
      rw [rdFld]
      exact Prod.ext rfl (Prod.ext rfl h0)
    · rintro _ _ ⟨h0, rfl, a', cs, N', rfl, h23⟩
      refine finX ?_
      have e : r.2 = (rdV (bts tx) (kfields k)[i].ty (a, 0)).2 := by rw [hr, fold_err _ _ h0]; rfl
      rw [e]
      exact ⟨h0, rfl, a', cs, N' ++ (N ++ X), rfl, h23⟩
theorem decFRun_bad {s : List UInt8} (h : ¬ (rdH3 s).2.2 = 0) : (decFRun s).2 = (rdH3 s).2 := by
  have e : rdKind s = (rdH3 s).2 := by rw [rdKind, if_neg (fun hh => h hh.1)]
  rw [decFRun, fold_err _ _ (by simp only; rw [e]; exact h)]
  exact e
theorem rFact_e {B FB : Nat} {tx : ByteArray} (hs : tx.size < 4611686018427387904) :
    EffP Tryz.prog 56 ⟨[pt B 0, pt FB 0]⟩ [rK B tx 0, fH FB (Fct.zero.cells none 0 none 0 none 0)] (fun _ => True) (FactK B FB tx (decFRun (bts tx))) (BadK B FB tx (decFRun (bts tx)).2.2) := by
  intro W hm _
  have hl := rdH_le (bts tx)
  refine rFact_vc B FB tx 0 _ [] hm ?_
  refine CallP.st [] (rNum_e hs (Nat.zero_le _) (by rw [cells_len]; decide)) (fun _ _ => trivial) perm2 perm2 perm2 (fun h1 => ⟨_, _, rfl, rfl, ?_⟩) (fun h1 => finX ?_)
  · have h1 : (rdH1 (bts tx)).2.2 = 0 := h1
    have q1 : (rdH1 (bts tx)).2 = ((rdH1 (bts tx)).2.1, 0) := Prod.ext rfl h1
    show CallP _ _ _ [rK B tx (rdH1 (bts tx)).2.1, fH FB ((Fct.bare (rdH1 (bts tx)).1 0 0).cells none 0 none 0 none 0)] _ _ _ _
    refine CallP.st [] (rNum_e hs hl.1 (by rw [cells_len]; decide)) (fun _ _ => trivial) perm2 perm2 perm2 (fun h2 => ⟨_, _, rfl, rfl, ?_⟩) (fun h2 => finX ?_)
    · rw [← q1] at h2 ⊢
      have h2 : (rdH2 (bts tx)).2.2 = 0 := h2
      have q2 : (rdH2 (bts tx)).2 = ((rdH2 (bts tx)).2.1, 0) := Prod.ext rfl h2
      show CallP _ _ _ [rK B tx (rdH2 (bts tx)).2.1, fH FB ((Fct.bare (rdH1 (bts tx)).1 (rdH2 (bts tx)).1 0).cells none 0 none 0 none 0)] _ _ _ _
      refine CallP.st [] (rNum_e hs hl.2.1 (by rw [cells_len]; decide)) (fun _ _ => trivial) perm2 perm2 perm2 (fun h3 => ⟨_, _, rfl, rfl, ?_⟩) (fun h3 => finX ?_)
      · rw [← q2] at h3 ⊢
        have h3 : (rdH3 (bts tx)).2.2 = 0 := h3
        have q3 : (rdH3 (bts tx)).2 = ((rdH3 (bts tx)).2.1, 0) := Prod.ext rfl h3
        show CallH _ _ _ [rK B tx (rdH3 (bts tx)).2.1, fH FB ((Fct.bare (rdH1 (bts tx)).1 (rdH2 (bts tx)).1 (rdH3 (bts tx)).1).cells none 0 none 0 none 0)] _ _ _
        refine CallH.effW (L0 := []) (L1 := [rK B tx (rdH3 (bts tx)).2.1, fH FB ((Fct.bare (rdH1 (bts tx)).1 (rdH2 (bts tx)).1 (rdH3 (bts tx)).1).cells none 0 none 0 none 0)]) (fields_e (k := (rdH3 (bts tx)).1)) (fun W' hm' => ⟨(Fct.bare (rdH1 (bts tx)).1 (rdH2 (bts tx)).1 (rdH3 (bts tx)).1).cells none 0 none 0 none 0, ?_, rfl⟩) (by simp) fun u X hX => ?_
        · have := hm'.here (fH FB ((Fct.bare (rdH1 (bts tx)).1 (rdH2 (bts tx)).1 (rdH3 (bts tx)).1).cells none 0 none 0 none 0)) (by simp)
          simp only at this
          simp [blkW, this]
        · rcases hX with ⟨h0, rfl⟩ | ⟨Bs, vs, rfl, hrow, hc⟩
          · refine ⟨rK B tx (rdH3 (bts tx)).2.1 :: fH FB _ :: X, List.perm_append_comm, _, _, _, X, rfl, rfl, fun _ => finX ?_, fun h => absurd rfl h⟩
            have e : decFRun (bts tx) = (Fct.bare (rdH1 (bts tx)).1 (rdH2 (bts tx)).1 (rdH3 (bts tx)).1, ((rdH3 (bts tx)).2.1, 50)) := by
              rw [decFRun, h0, rdKind, if_pos ⟨h3, h0⟩]; rfl
            rw [e]
            exact ⟨show (50 : Int) ≠ 0 by decide, rfl, _, _, X, rfl, rfl⟩
          · refine ⟨rK B tx (rdH3 (bts tx)).2.1 :: fH FB _ :: X, List.perm_append_comm, _, _, _, X, rfl, rfl, fun h => ?_, fun h => ?_⟩
            · have hcl := hc.len
              have h0 : kfields (rdH3 (bts tx)).1 = [] := List.length_eq_zero_iff.1 (by omega)
              have e : decFRun (bts tx) = (Fct.bare (rdH1 (bts tx)).1 (rdH2 (bts tx)).1 (rdH3 (bts tx)).1, ((rdH3 (bts tx)).2.1, 50)) := by
                rw [decFRun, h0, rdKind, if_pos ⟨h3, h0⟩]; rfl
              rw [e]
              exact finX ⟨show (50 : Int) ≠ 0 by decide, rfl, _, _, X, rfl, rfl⟩
            · have hne : kfields (rdH3 (bts tx)).1 ≠ [] := fun h0 => h (by rw [h0]; rfl)
              refine rFact_loop hs hrow hc (kfields (rdH3 (bts tx)).1).length 0 (Fct.bare (rdH1 (bts tx)).1 (rdH2 (bts tx)).1 (rdH3 (bts tx)).1) (rdH3 (bts tx)).2.1 none 0 none 0 none 0 [] (by omega) ?_ hl.2.2 ?_
              · rw [List.drop_zero, decFRun, rdKind, if_neg (fun hh => hne hh.2), q3]
              · exact noLists rfl rfl rfl ⟨e0_sz, e0_sz, e0_sz, e0_sz, e0_sz⟩
      · rw [← q2] at h3
        have e : (rdH3 (bts tx)).2.2 = 10 := h3
        rw [decFRun_bad (by rw [e]; decide), e]
        exact ⟨by decide, rfl, _, _, [], rfl, rfl⟩
    · rw [← q1] at h2
      have e : (rdH2 (bts tx)).2.2 = 10 := h2
      have e3 : (rdH3 (bts tx)).2 = (rdH2 (bts tx)).2 := rdI_err (by rw [e]; decide)
      rw [decFRun_bad (by rw [e3, e]; decide), e3, e]
      exact ⟨by decide, rfl, _, _, [], rfl, rfl⟩
  · have e : (rdH1 (bts tx)).2.2 = 10 := h1
    have e2 : (rdH2 (bts tx)).2 = (rdH1 (bts tx)).2 := rdI_err (by rw [e]; decide)
    have e3 : (rdH3 (bts tx)).2 = (rdH2 (bts tx)).2 := rdI_err (by rw [e2, e]; decide)
    rw [decFRun_bad (by rw [e3, e2, e]; decide), e3, e2, e]
    exact ⟨by decide, rfl, _, _, [], rfl, rfl⟩
end Go.Eng
namespace Go.Eng
open Go Go.RowKit Go.Proofs
set_option linter.unusedVariables false
set_option maxRecDepth 100000
abbrev fDecodeH0 (B : Nat) (d : Fct) (dtp : Option Addr) (dtc : Nat) (dbp : Option Addr) (dbc : Nat) (dap : Option Addr) (dac : Nat) (B1 : Nat) (B2 : Nat) (s : ByteArray) (ca : Int) (F : SHeap) : SHeap := ((B, .cells #[.int .i64 d.n, .int .i64 d.time, .int .i64 d.kind, .int .i64 d.story, .string d.lang, .int .i64 d.rev, .int .i64 d.base, .string d.title, .string d.author, .slice dtp d.topics.length dtc, .slice dbp d.blocks.length dbc, .int .i64 d.lab.unt, .slice dap d.lab.after.length dac, .int .i64 d.lab.appr, .int .i64 d.lab.den, .int .i64 d.editor, .int .i64 d.block, .int .i64 d.sentence, .string d.text, .string d.name, .int .i64 d.partner, .int .i64 d.cls, .int .i64 d.unt] 28) :: (B1, .cells #[.int .i64 (0 : Int)] 31) :: (B2, .cells #[.bool true, .string s, .int .i64 ca, .pointer none, .slice none 0 0] 95) :: F)
abbrev fDecodeH1 (B : Nat) (B1 : Nat) (B2 : Nat) (s : ByteArray) (ca : Int) (F : SHeap) : SHeap := ((B, .cells #[.int .i64 (0 : Int), .int .i64 (0 : Int), .int .i64 (0 : Int), .int .i64 (0 : Int), .string (⟨#[]⟩), .int .i64 (0 : Int), .int .i64 (0 : Int), .string (⟨#[]⟩), .string (⟨#[]⟩), .slice none 0 0, .slice none 0 0, .int .i64 (0 : Int), .slice none 0 0, .int .i64 (0 : Int), .int .i64 (0 : Int), .int .i64 (0 : Int), .int .i64 (0 : Int), .int .i64 (0 : Int), .string (⟨#[]⟩), .string (⟨#[]⟩), .int .i64 (0 : Int), .int .i64 (0 : Int), .int .i64 (0 : Int)] 28) :: (B1, .cells #[.int .i64 (10 : Int)] 31) :: (B2, .cells #[.bool true, .string s, .int .i64 ca, .pointer none, .slice none 0 0] 95) :: F)
abbrev fDecodeH2 (B : Nat) (B1 : Nat) (B2 : Nat) (s : ByteArray) (ca : Int) (F : SHeap) : SHeap := ((B, .cells #[.int .i64 (0 : Int), .int .i64 (0 : Int), .int .i64 (0 : Int), .int .i64 (0 : Int), .string (⟨#[]⟩), .int .i64 (0 : Int), .int .i64 (0 : Int), .string (⟨#[]⟩), .string (⟨#[]⟩), .slice none 0 0, .slice none 0 0, .int .i64 (0 : Int), .slice none 0 0, .int .i64 (0 : Int), .int .i64 (0 : Int), .int .i64 (0 : Int), .int .i64 (0 : Int), .int .i64 (0 : Int), .string (⟨#[]⟩), .string (⟨#[]⟩), .int .i64 (0 : Int), .int .i64 (0 : Int), .int .i64 (0 : Int)] 28) :: (B1, .cells #[.int .i64 (50 : Int)] 31) :: (B2, .cells #[.bool true, .string s, .int .i64 ca, .pointer none, .slice none 0 0] 95) :: F)
abbrev fDecodeH3 (B : Nat) (B1 : Nat) (pe : Int) (F1 : SHeap) : SHeap := ((B, .cells #[.int .i64 (0 : Int), .int .i64 (0 : Int), .int .i64 (0 : Int), .int .i64 (0 : Int), .string (⟨#[]⟩), .int .i64 (0 : Int), .int .i64 (0 : Int), .string (⟨#[]⟩), .string (⟨#[]⟩), .slice none 0 0, .slice none 0 0, .int .i64 (0 : Int), .slice none 0 0, .int .i64 (0 : Int), .int .i64 (0 : Int), .int .i64 (0 : Int), .int .i64 (0 : Int), .int .i64 (0 : Int), .string (⟨#[]⟩), .string (⟨#[]⟩), .int .i64 (0 : Int), .int .i64 (0 : Int), .int .i64 (0 : Int)] 28) :: (B1, .cells #[.int .i64 pe] 31) :: F1)
abbrev fDecodeA0 : Array Value := #[.int .i64 (0 : Int), .int .i64 (0 : Int), .int .i64 (0 : Int), .int .i64 (0 : Int), .string (⟨#[]⟩), .int .i64 (0 : Int), .int .i64 (0 : Int), .string (⟨#[]⟩), .string (⟨#[]⟩), .slice none 0 0, .slice none 0 0, .int .i64 (0 : Int), .slice none 0 0, .int .i64 (0 : Int), .int .i64 (0 : Int), .int .i64 (0 : Int), .int .i64 (0 : Int), .int .i64 (0 : Int), .string (⟨#[]⟩), .string (⟨#[]⟩), .int .i64 (0 : Int), .int .i64 (0 : Int), .int .i64 (0 : Int)]
abbrev fDecodeA1 (d : Fct) (dtp : Option Addr) (dtc : Nat) (dbp : Option Addr) (dbc : Nat) (dap : Option Addr) (dac : Nat) : Array Value := #[.int .i64 d.n, .int .i64 d.time, .int .i64 d.kind, .int .i64 d.story, .string d.lang, .int .i64 d.rev, .int .i64 d.base, .string d.title, .string d.author, .slice dtp d.topics.length dtc, .slice dbp d.blocks.length dbc, .int .i64 d.lab.unt, .slice dap d.lab.after.length dac, .int .i64 d.lab.appr, .int .i64 d.lab.den, .int .i64 d.editor, .int .i64 d.block, .int .i64 d.sentence, .string d.text, .string d.name, .int .i64 d.partner, .int .i64 d.cls, .int .i64 d.unt]
theorem fDecode_vc (s : ByteArray) {R : Ending → World → Prop} {w0 W : World} (hm : Mem [] [] w0 W)
  (H :
   ∀ B : Nat,
   ∀ B1 : Nat,
   ∀ B2 : Nat,
   CallP Tryz.prog 56 ⟨[.pointer (some ⟨B2, 0, none⟩), .pointer (some ⟨B, 0, none⟩)]⟩ [(B, .cells fDecodeA0 28), (B1, .cells #[.int .i64 (0 : Int)] 31), (B2, .cells #[.bool true, .string s, .int .i64 (0 : Int), .pointer none, .slice none 0 0] 95)] [] w0 (fun v L' => ∃ (ca : Int) (d : Fct) (dtp : Option Addr) (dtc : Nat) (dbp : Option Addr) (dbc : Nat) (dap : Option Addr) (dac : Nat) (F : SHeap), v = (.tuple #[]) ∧ L' = (fDecodeH0 B d dtp dtc dbp dbc dap dac B1 B2 s ca F) ∧
    ((ca < (s.size : Int)) →
     DCall Tryz.prog 60 ⟨[.pointer (some ⟨B, 0, none⟩), .pointer (some ⟨B1, 0, none⟩)]⟩ (fDecodeH1 B B1 B2 s ca F) [] w0 .returning (fun u' L' => u' = .returning ∧ L' = (fDecodeH1 B B1 B2 s ca F) ∧
      Fin R (fDecodeH1 B B1 B2 s ca F) [] w0 (.tuple #[.agg fDecodeA0, .int .i64 (10 : Int)]))) ∧
     ((¬ (ca < (s.size : Int))) →
     CallH Tryz.prog 20 ⟨[.agg (fDecodeA1 d dtp dtc dbp dbc dap dac)]⟩ (fDecodeH0 B d dtp dtc dbp dbc dap dac B1 B2 s ca F) [] w0 (fun v L' => ∃ (r1 : Bool), v = (.bool r1) ∧ L' = (fDecodeH0 B d dtp dtc dbp dbc dap dac B1 B2 s ca F) ∧
      ((r1 = true) →
       DCall Tryz.prog 60 ⟨[.pointer (some ⟨B, 0, none⟩), .pointer (some ⟨B1, 0, none⟩)]⟩ (fDecodeH0 B d dtp dtc dbp dbc dap dac B1 B2 s ca F) [] w0 .returning (fun u' L' => u' = .returning ∧ L' = (fDecodeH0 B d dtp dtc dbp dbc dap dac B1 B2 s ca F) ∧
        Fin R (fDecodeH0 B d dtp dtc dbp dbc dap dac B1 B2 s ca F) [] w0 (.tuple #[.agg (fDecodeA1 d dtp dtc dbp dbc dap dac), .int .i64 (0 : Int)]))) ∧
       ((r1 = false) →
       DCall Tryz.prog 60 ⟨[.pointer (some ⟨B, 0, none⟩), .pointer (some ⟨B1, 0, none⟩)]⟩ (fDecodeH2 B B1 B2 s ca F) [] w0 .returning (fun u' L' => u' = .returning ∧ L' = (fDecodeH2 B B1 B2 s ca F) ∧
        Fin R (fDecodeH2 B B1 B2 s ca F) [] w0 (.tuple #[.agg fDecodeA0, .int .i64 (50 : Int)])))))) (fun ch L' => ∃ (y : Value) (y1 : Value) (y2 : Value) (y3 : Value) (y4 : Value) (y5 : Value) (y6 : Value) (y7 : Value) (y8 : Value) (y9 : Value) (y10 : Value) (y11 : Value) (y12 : Value) (y13 : Value) (y14 : Value) (y15 : Value) (y16 : Value) (y17 : Value) (y18 : Value) (y19 : Value) (y20 : Value) (y21 : Value) (y22 : Value) (pe : Int) (F1 : SHeap), ch = [{ v := .iface 31 (.int .i64 pe), recovered := false }] ∧ L' = ((B, .cells #[y, y1, y2, y3, y4, y5, y6, y7, y8, y9, y10, y11, y12, y13, y14, y15, y16, y17, y18, y19, y20, y21, y22] 28) :: (B1, .cells #[.int .i64 (0 : Int)] 31) :: F1) ∧
    DCall Tryz.prog 60 ⟨[.pointer (some ⟨B, 0, none⟩), .pointer (some ⟨B1, 0, none⟩)]⟩ ((B, .cells #[y, y1, y2, y3, y4, y5, y6, y7, y8, y9, y10, y11, y12, y13, y14, y15, y16, y17, y18, y19, y20, y21, y22] 28) :: (B1, .cells #[.int .i64 (0 : Int)] 31) :: F1) [] w0 (.panicking [{ v := .iface 31 (.int .i64 pe), recovered := false }]) (fun u' L' => u' = (.panicking [{ v := .iface 31 (.int .i64 pe), recovered := true }]) ∧ L' = (fDecodeH3 B B1 pe F1) ∧
     Fin R (fDecodeH3 B B1 pe F1) [] w0 (.tuple #[.agg fDecodeA0, .int .i64 pe])))) :
  Calls Tryz.prog 21 ⟨[.string s]⟩ W R := by
 refine AtE.calls (nt := 24) Tryz.func21 (by kernel_rfl) hm ?_
 refine AtE.ru 2 ?_
 refine AtE.new (fun B => .pointer (some ⟨B, 0, none⟩)) (.cells fDecodeA0 28) (fun W => by kernel_rfl) (by kernel_rfl) (fun B => ?_)
 replace H := H B
 refine AtE.new (fun B => .pointer (some ⟨B, 0, none⟩)) (.cells #[.int .i64 (0 : Int)] 31) (fun W => by kernel_rfl) (by kernel_rfl) (fun B1 => ?_)
 replace H := H B1
 refine AtE.ru 4 ?_
 refine AtE.defer (d := ⟨.fn (.func 60) #[.pointer (some ⟨B, 0, none⟩), .pointer (some ⟨B1, 0, none⟩)], #[]⟩) (by kernel_rfl) (fun W => by kernel_rfl) ?_
 refine AtE.ru 5 ?_
 refine AtE.new (fun B => .pointer (some ⟨B, 0, none⟩)) (.cells #[.bool true, .string s, .int .i64 (0 : Int), .pointer none, .slice none 0 0] 95) (fun W => by kernel_rfl) (by kernel_rfl) (fun B2 => ?_)
 replace H := H B2
 refine AtE.ru 5 ?_
 refine AtE.callP 56 ⟨[.pointer (some ⟨B2, 0, none⟩), .pointer (some ⟨B, 0, none⟩)]⟩ (fun W => by kernel_rfl) (by kernel_rfl) H ?_ ?_
 rotate_left
 ·clear H
  rintro _ _ ⟨y, y1, y2, y3, y4, y5, y6, y7, y8, y9, y10, y11, y12, y13, y14, y15, y16, y17, y18, y19, y20, y21, y22, pe, F1, rfl, rfl, H⟩
  refine RaiseE.dfr Tryz.func21 rfl (fun W => by kernel_rfl) (DCall.mono H ?_)
  clear H
  rintro _ _ ⟨rfl, rfl, H⟩
  exact ⟨rfl, _, ResOk.cells2 (a := 2) (b := 3) (T := 28) (U := 31) (u := .agg fDecodeA0) (v := .int .i64 pe) 0 0 1 0 (by kernel_rfl) (by kernel_rfl), H⟩
 clear H
 rintro _ _ ⟨ca, d, dtp, dtc, dbp, dbc, dap, dac, F, rfl, rfl, H⟩
 refine AtE.ru 7 ?_
 refine AtE.load 2 2 (T := 3) (v := .int .i64 ca) (by kernel_rfl) ?_
 refine AtE.ru 4 ?_
 refine AtE.splitP 17 (p := ca < (s.size : Int)) (by kernel_rfl) (fun h1' => ?_) (fun h1' => ?_)
 ·replace H := H.1 h1'
  refine AtE.norm (k' := [.code (sub (Eng.body Tryz.f21) [1,1,1,1,0,1]), .code (sub (Eng.body Tryz.f21) [1,1,1,1,1])]) (e' := [(2, .pointer (some ⟨B, 0, none⟩)), (3, .pointer (some ⟨B1, 0, none⟩)), (17, .bool true)]) (L' := (fDecodeH0 B d dtp dtc dbp dbc dap dac B1 B2 s ca F)) ?_ (by kernel_rfl)
  refine AtE.ru 4 ?_
  refine AtE.store 0 0 (T := 28) (v := .agg fDecodeA0) (by kernel_rfl) ?_
  refine AtE.store 1 0 (T := 31) (v := .int .i64 (10 : Int)) (by kernel_rfl) ?_
  refine AtE.ru 1 ?_
  refine AtE.retD Tryz.func21 rfl (fun W => by kernel_rfl) (by kernel_rfl) (DCall.mono H ?_)
  clear H
  rintro _ _ ⟨rfl, rfl, H⟩
  exact ⟨rfl, _, ResOk.cells2 (a := 2) (b := 3) (T := 28) (U := 31) (u := .agg fDecodeA0) (v := .int .i64 (10 : Int)) 0 0 1 0 (by kernel_rfl) (by kernel_rfl), H⟩
 ·replace H := H.2 h1'
  refine AtE.norm (k' := [.code (sub (Eng.body Tryz.f21) [1,1,1,1,0,1]), .code (sub (Eng.body Tryz.f21) [1,1,1,1,1])]) (e' := [(2, .pointer (some ⟨B, 0, none⟩)), (3, .pointer (some ⟨B1, 0, none⟩)), (17, .bool false)]) (L' := (fDecodeH0 B d dtp dtc dbp dbc dap dac B1 B2 s ca F)) ?_ (by kernel_rfl)
  refine AtE.ru 5 ?_
  refine AtE.load 0 0 (T := 28) (v := .agg (fDecodeA1 d dtp dtc dbp dbc dap dac)) (by kernel_rfl) ?_
  refine AtE.call 20 ⟨[.agg (fDecodeA1 d dtp dtc dbp dbc dap dac)]⟩ (fun W => by kernel_rfl) (by kernel_rfl) H ?_
  clear H
  rintro _ _ ⟨r1, rfl, rfl, H⟩
  refine AtE.split 20 (b := r1) (by kernel_rfl) (fun h2' => ?_) (fun h2' => ?_)
  ·replace H := H.1 h2'
   refine AtE.ru 6 ?_
   refine AtE.load 0 0 (T := 28) (v := .agg (fDecodeA1 d dtp dtc dbp dbc dap dac)) (by kernel_rfl) ?_
   refine AtE.store 0 0 (T := 28) (v := .agg (fDecodeA1 d dtp dtc dbp dbc dap dac)) (by kernel_rfl) ?_
   refine AtE.store 1 0 (T := 31) (v := .int .i64 (0 : Int)) (by kernel_rfl) ?_
   refine AtE.ru 1 ?_
   refine AtE.retD Tryz.func21 rfl (fun W => by kernel_rfl) (by kernel_rfl) (DCall.mono H ?_)
   clear H
   rintro _ _ ⟨rfl, rfl, H⟩
   exact ⟨rfl, _, ResOk.cells2 (a := 2) (b := 3) (T := 28) (U := 31) (u := .agg (fDecodeA1 d dtp dtc dbp dbc dap dac)) (v := .int .i64 (0 : Int)) 0 0 1 0 (by kernel_rfl) (by kernel_rfl), H⟩
  ·replace H := H.2 h2'
   refine AtE.ru 6 ?_
   refine AtE.store 0 0 (T := 28) (v := .agg fDecodeA0) (by kernel_rfl) ?_
   refine AtE.store 1 0 (T := 31) (v := .int .i64 (50 : Int)) (by kernel_rfl) ?_
   refine AtE.ru 1 ?_
   refine AtE.retD Tryz.func21 rfl (fun W => by kernel_rfl) (by kernel_rfl) (DCall.mono H ?_)
   clear H
   rintro _ _ ⟨rfl, rfl, H⟩
   exact ⟨rfl, _, ResOk.cells2 (a := 2) (b := 3) (T := 28) (U := 31) (u := .agg fDecodeA0) (v := .int .i64 (50 : Int)) 0 0 1 0 (by kernel_rfl) (by kernel_rfl), H⟩
end Go.Eng
namespace Go.Eng
open Go Go.RowKit Go.Proofs
set_option linter.unusedVariables false
set_option maxRecDepth 100000
theorem fdecR_vc (FB : Nat) (EB : Nat) (y0 : Value) (y1 : Value) (y2 : Value) (y3 : Value) (y4 : Value) (y5 : Value) (y6 : Value) (y7 : Value) (y8 : Value) (y9 : Value) (y10 : Value) (y11 : Value) (y12 : Value) (y13 : Value) (y14 : Value) (y15 : Value) (y16 : Value) (y17 : Value) (y18 : Value) (y19 : Value) (y20 : Value) (y21 : Value) (y22 : Value) (e : Int) {R : Ending → FrameMode → World → Prop} {S : List Nat} {w0 W : World} (hm : Mem [(FB, .cells #[y0, y1, y2, y3, y4, y5, y6, y7, y8, y9, y10, y11, y12, y13, y14, y15, y16, y17, y18, y19, y20, y21, y22] 28), (EB, .cells #[.int .i64 e] 31)] S w0 W)
  (H :
   FinD R .returning [(FB, .cells #[y0, y1, y2, y3, y4, y5, y6, y7, y8, y9, y10, y11, y12, y13, y14, y15, y16, y17, y18, y19, y20, y21, y22] 28), (EB, .cells #[.int .i64 e] 31)] S w0 (.tuple #[])) :
  CallsD Tryz.prog 60 ⟨[.pointer (some ⟨FB, 0, none⟩), .pointer (some ⟨EB, 0, none⟩)]⟩ .returning W R := by
 refine AtE.callsD (nt := 13) Tryz.func60 (by kernel_rfl) hm ?_
 refine AtE.ru 2 ?_
 refine AtE.recoverN (by kernel_rfl) (fun W => by kernel_rfl) ?_
 refine AtE.ru 11 ?_
 exact AtE.retG Tryz.func60 (by kernel_rfl) H
abbrev fdecPA0 : Array Value := #[.int .i64 (0 : Int), .int .i64 (0 : Int), .int .i64 (0 : Int), .int .i64 (0 : Int), .string (⟨#[]⟩), .int .i64 (0 : Int), .int .i64 (0 : Int), .string (⟨#[]⟩), .string (⟨#[]⟩), .slice none 0 0, .slice none 0 0, .int .i64 (0 : Int), .slice none 0 0, .int .i64 (0 : Int), .int .i64 (0 : Int), .int .i64 (0 : Int), .int .i64 (0 : Int), .int .i64 (0 : Int), .string (⟨#[]⟩), .string (⟨#[]⟩), .int .i64 (0 : Int), .int .i64 (0 : Int), .int .i64 (0 : Int)]
theorem fdecP_vc (FB : Nat) (EB : Nat) (y0 : Value) (y1 : Value) (y2 : Value) (y3 : Value) (y4 : Value) (y5 : Value) (y6 : Value) (y7 : Value) (y8 : Value) (y9 : Value) (y10 : Value) (y11 : Value) (y12 : Value) (y13 : Value) (y14 : Value) (y15 : Value) (y16 : Value) (y17 : Value) (y18 : Value) (y19 : Value) (y20 : Value) (y21 : Value) (y22 : Value) (e : Int) (x : Int) {R : Ending → FrameMode → World → Prop} {S : List Nat} {w0 W : World} (hm : Mem [(FB, .cells #[y0, y1, y2, y3, y4, y5, y6, y7, y8, y9, y10, y11, y12, y13, y14, y15, y16, y17, y18, y19, y20, y21, y22] 28), (EB, .cells #[.int .i64 e] 31)] S w0 W)
  (H :
   FinD R (.panicking [{ v := .iface 31 (.int .i64 x), recovered := true }]) [(FB, .cells fdecPA0 28), (EB, .cells #[.int .i64 x] 31)] S w0 (.tuple #[])) :
  CallsD Tryz.prog 60 ⟨[.pointer (some ⟨FB, 0, none⟩), .pointer (some ⟨EB, 0, none⟩)]⟩ (.panicking [{ v := .iface 31 (.int .i64 x), recovered := false }]) W R := by
 refine AtE.callsD (nt := 13) Tryz.func60 (by kernel_rfl) hm ?_
 refine AtE.ru 2 ?_
 refine AtE.recoverP (v := .iface 31 (.int .i64 x)) (by kernel_rfl) (fun W => by kernel_rfl) ?_
 refine AtE.ru 21 ?_
 refine AtE.store 0 0 (T := 28) (v := .agg fdecPA0) (by kernel_rfl) ?_
 refine AtE.store 1 0 (T := 31) (v := .int .i64 x) (by kernel_rfl) ?_
 refine AtE.ru 2 ?_
 exact AtE.retG Tryz.func60 (by kernel_rfl) H
end Go.Eng
namespace Go.Eng
open Go Go.RowKit Go.Proofs Wire
set_option linter.unusedVariables false
def EffD (P : Program) (g : FuncId) (args : Array Value) (L0 : SHeap) (u : FrameMode) (K : FrameMode → SHeap → Prop) : Prop :=
  ∀ W, Mem L0 (L0.map (·.1)) W W → CallsD P g args u W fun e u' W' => ∃ v L', e = .returned v ∧ Mem L' (L0.map (·.1)) W W' ∧ K u' L'
theorem DCall.eff {P : Program} {g : FuncId} {args : Array Value} {L0 L1 L : SHeap} {S : List Nat} {w0 : World} {u : FrameMode} {K K' : FrameMode → SHeap → Prop} (h : EffD P g args L0 u K) (hp : (L0 ++ L1).Perm L)
    (hK : ∀ u' L', K u' L' → ∃ L2, (L' ++ L1).Perm L2 ∧ K' u' L2) : DCall P g args L S w0 u K' := by
  intro W hm c cs hc
  have hm' : Mem (L0 ++ L1) S w0 W := hm.perm hp
  have hnd := hm'.nodup
  rw [List.map_append, List.nodup_append] at hnd
  obtain ⟨en, u', W', fr, ⟨v, L', h1, h2, h3⟩, h4⟩ := h W ⟨hnd.1, fun p hp => hm'.here p (List.mem_append_left _ hp), fun p hp => .inr (List.mem_map_of_mem hp), Kept.refl _ W⟩ c cs hc
  obtain ⟨L2, hp2, hk2⟩ := hK u' L' h3
  exact ⟨en, u', W', fr, ⟨v, L2, h1, Mem.perm (L := L' ++ L1) (hm'.framed h2) hp2.symm, hk2⟩, h4⟩
theorem len_succ {α : Type} {l : List α} {n : Nat} (h : l.length = n + 1) : ∃ a t, l = a :: t ∧ t.length = n := by
  cases l with
  | nil => simp at h
  | cons a t => exact ⟨a, t, rfl, by simpa using h⟩
theorem len23 {l : List Value} (h : l.length = 23) : ∃ y0 y1 y2 y3 y4 y5 y6 y7 y8 y9 y10 y11 y12 y13 y14 y15 y16 y17 y18 y19 y20 y21 y22, l = [y0, y1, y2, y3, y4, y5, y6, y7, y8, y9, y10, y11, y12, y13, y14, y15, y16, y17, y18, y19, y20, y21, y22] := by
  obtain ⟨y0, l0, e0, h0⟩ := len_succ h
  obtain ⟨y1, l1, e1, h1⟩ := len_succ h0
  obtain ⟨y2, l2, e2, h2⟩ := len_succ h1
  obtain ⟨y3, l3, e3, h3⟩ := len_succ h2
  obtain ⟨y4, l4, e4, h4⟩ := len_succ h3
  obtain ⟨y5, l5, e5, h5⟩ := len_succ h4
  obtain ⟨y6, l6, e6, h6⟩ := len_succ h5
  obtain ⟨y7, l7, e7, h7⟩ := len_succ h6
  obtain ⟨y8, l8, e8, h8⟩ := len_succ h7
  obtain ⟨y9, l9, e9, h9⟩ := len_succ h8
  obtain ⟨y10, l10, e10, h10⟩ := len_succ h9
  obtain ⟨y11, l11, e11, h11⟩ := len_succ h10
  obtain ⟨y12, l12, e12, h12⟩ := len_succ h11
  obtain ⟨y13, l13, e13, h13⟩ := len_succ h12
  obtain ⟨y14, l14, e14, h14⟩ := len_succ h13
  obtain ⟨y15, l15, e15, h15⟩ := len_succ h14
  obtain ⟨y16, l16, e16, h16⟩ := len_succ h15
  obtain ⟨y17, l17, e17, h17⟩ := len_succ h16
  obtain ⟨y18, l18, e18, h18⟩ := len_succ h17
  obtain ⟨y19, l19, e19, h19⟩ := len_succ h18
  obtain ⟨y20, l20, e20, h20⟩ := len_succ h19
  obtain ⟨y21, l21, e21, h21⟩ := len_succ h20
  obtain ⟨y22, l22, e22, h22⟩ := len_succ h21
  rw [List.length_eq_zero_iff] at h22
  subst h22 e22 e21 e20 e19 e18 e17 e16 e15 e14 e13 e12 e11 e10 e9 e8 e7 e6 e5 e4 e3 e2 e1 e0
  exact ⟨_, _, _, _, _, _, _, _, _, _, _, _, _, _, _, _, _, _, _, _, _, _, _, rfl⟩
abbrev eH (B : Nat) (e : Int) : Nat × Obj := (B, .cells #[.int .i64 e] 31)
theorem fdecR_e {B C : Nat} {cs : List Value} {e : Int} (h : cs.length = 23) : EffD Tryz.prog 60 ⟨[pt B 0, pt C 0]⟩ [fH B cs, eH C e] .returning (fun u' L' => u' = .returning ∧ L' = [fH B cs, eH C e]) := by
  intro W hm
  obtain ⟨y0, y1, y2, y3, y4, y5, y6, y7, y8, y9, y10, y11, y12, y13, y14, y15, y16, y17, y18, y19, y20, y21, y22, rfl⟩ := len23 h
  exact fdecR_vc B C _ _ _ _ _ _ _ _ _ _ _ _ _ _ _ _ _ _ _ _ _ _ _ e hm fun W' hm' => ⟨_, _, rfl, hm', rfl, rfl⟩
theorem fdecP_e {B C : Nat} {cs : List Value} {e x : Int} (h : cs.length = 23) : EffD Tryz.prog 60 ⟨[pt B 0, pt C 0]⟩ [fH B cs, eH C e] (.panicking (pan x))
    (fun u' L' => u' = .panicking [{ v := .iface 31 (.int .i64 x), recovered := true }] ∧ L' = [fH B (Fct.zero.cells none 0 none 0 none 0), eH C x]) := by
  intro W hm
  obtain ⟨y0, y1, y2, y3, y4, y5, y6, y7, y8, y9, y10, y11, y12, y13, y14, y15, y16, y17, y18, y19, y20, y21, y22, rfl⟩ := len23 h
  exact fdecP_vc B C _ _ _ _ _ _ _ _ _ _ _ _ _ _ _ _ _ _ _ _ _ _ _ e x hm fun W' hm' => ⟨_, _, rfl, hm', rfl, rfl⟩
theorem permD {a b x : Nat × Obj} {N : SHeap} : ((a :: b :: N) ++ [x]).Perm (b :: x :: a :: N) :=
  (((List.perm_append_comm (l₁ := N) (l₂ := [x])).cons b).cons a).trans ((List.Perm.swap b a _).trans ((List.Perm.swap x a N).cons b))
def DecFOut (r : Fct × Int) (v : Value) (F : SHeap) : Prop := ∃ tp tc bp bc ap ac, v = .tuple #[.agg ⟨r.1.cells tp tc bp bc ap ac⟩, .int .i64 r.2] ∧ FAt (lkF F) r.1 tp tc bp bc ap ac
theorem zeroAt {lk : Lk} : FAt lk Fct.zero none 0 none 0 none 0 := noLists rfl rfl rfl ⟨e0_sz, e0_sz, e0_sz, e0_sz, e0_sz⟩
theorem DecFOut.zero {e : Int} {F : SHeap} : DecFOut (Fct.zero, e) (.tuple #[.agg ⟨Fct.zero.cells none 0 none 0 none 0⟩, .int .i64 e]) F := ⟨none, 0, none, 0, none, 0, rfl, zeroAt⟩
theorem fDecode_e {s : ByteArray} (hs : s.size < 4611686018427387904) : EffC Tryz.prog 21 ⟨[.string s]⟩ [] (DecFOut (decF (bts s))) := by
  intro W hm
  refine fDecode_vc s hm fun B B1 B2 => ?_
  refine CallP.eff (L1 := [eH B1 0]) (rFact_e (B := B2) (FB := B) hs) (fun _ _ => trivial) permD ?_ ?_
  · rintro _ _ ⟨h0, rfl, tp, tc, bp, bc, ap, ac, N, rfl, hF⟩
    refine ⟨_, permD, (decFRun (bts s)).2.1, (decFRun (bts s)).1, tp, tc, bp, bc, ap, ac, N, rfl, rfl, fun h1 => ?_, fun h1 => ?_⟩
    · have e : decF (bts s) = (Fct.zero, 10) := by rw [decF, if_neg (by simpa using h0), if_pos (by rw [bts_len]; omega)]
      rw [e]
      exact DCall.eff (L1 := rK B2 s (decFRun (bts s)).2.1 :: N) (fdecR_e (B := B) (C := B1) (cs := Fct.zero.cells none 0 none 0 none 0) (e := 10) rfl) (List.Perm.refl _) fun u' L' ⟨hu, hL⟩ => ⟨_, List.Perm.refl _, hu, by rw [hL]; rfl, fun W' hm' => ⟨_, _, rfl, hm', DecFOut.zero⟩⟩
    · refine CallH.pw (fun W' hm' => fValid_c (hF.mono (lkF_W hm' fun x hx => List.mem_cons_of_mem _ (List.mem_cons_of_mem _ (List.mem_cons_of_mem _ hx))))) ⟨_, rfl, rfl, fun hv => ?_, fun hv => ?_⟩
      · have e : decF (bts s) = ((decFRun (bts s)).1, 0) := by rw [decF, if_neg (by simpa using h0), if_neg (by rw [bts_len]; omega), if_pos hv]
        rw [e]
        exact DCall.eff (L1 := rK B2 s (decFRun (bts s)).2.1 :: N) (fdecR_e (B := B) (C := B1) (cs := (decFRun (bts s)).1.cells tp tc bp bc ap ac) (e := 0) rfl) (List.Perm.refl _) fun u' L' ⟨hu, hL⟩ => ⟨_, List.Perm.refl _, hu, by rw [hL]; rfl, fun W' hm' => ⟨_, _, rfl, hm', tp, tc, bp, bc, ap, ac, rfl, hF.mono (lkF_mono fun x hx => List.mem_cons_of_mem _ (List.mem_cons_of_mem _ (List.mem_cons_of_mem _ hx)))⟩⟩
      · have e : decF (bts s) = (Fct.zero, 50) := by rw [decF, if_neg (by simpa using h0), if_neg (by rw [bts_len]; omega), if_neg (by rw [hv]; decide)]
        rw [e]
        exact DCall.eff (L1 := rK B2 s (decFRun (bts s)).2.1 :: N) (fdecR_e (B := B) (C := B1) (cs := Fct.zero.cells none 0 none 0 none 0) (e := 50) rfl) (List.Perm.refl _) fun u' L' ⟨hu, hL⟩ => ⟨_, List.Perm.refl _, hu, by rw [hL]; rfl, fun W' hm' => ⟨_, _, rfl, hm', DecFOut.zero⟩⟩
  · rintro _ _ ⟨h0, rfl, a, cs, N, rfl, h23⟩
    have e : decF (bts s) = (Fct.zero, (decFRun (bts s)).2.2) := by rw [decF, if_pos h0]
    rw [e]
    have hd : EffD Tryz.prog 60 ⟨[pt B 0, pt B1 0]⟩ [fH B cs, eH B1 0] (.panicking (pan (decFRun (bts s)).2.2)) _ := fdecP_e h23
    obtain ⟨y0, y1, y2, y3, y4, y5, y6, y7, y8, y9, y10, y11, y12, y13, y14, y15, y16, y17, y18, y19, y20, y21, y22, rfl⟩ := len23 h23
    refine ⟨_, permD, y0, y1, y2, y3, y4, y5, y6, y7, y8, y9, y10, y11, y12, y13, y14, y15, y16, y17, y18, y19, y20, y21, y22, _, rK B2 s a :: N, rfl, rfl, ?_⟩
    exact DCall.eff (L1 := rK B2 s a :: N) hd (List.Perm.refl _) fun u' L' ⟨hu, hL⟩ => ⟨_, List.Perm.refl _, hu, by rw [hL]; rfl, fun W' hm' => ⟨_, _, rfl, hm', DecFOut.zero⟩⟩
end Go.Eng
