/- A part of the proof: the engine by which functions are walked, verification conditions that a program of the prover wrote, contracts and plain laws; no claim of its own. -/
import Derived.Shelf.Strings.OnBuilder
import Derived.Test.YtobhboeiheeghaaDoorProg
import Derived.Test.YtobhboeiheeghaaDoorChecked
import Derived.Test.YtobhboeiheeghaaDoorLinD
namespace Go.Proofs
open Go.Shelf
def Tryd.lays156_ren : Go.Shelf.Ren := ⟨fun | 156 => 68 | 165 => 90 | 166 => 50 | 169 => 51 | 240 => 75 | 241 => 103 | 276 => 92 | 277 => 109 | n => n, fun | 31 => 42 | 9 => 9 | 3 => 3 | 4 => 4 | 0 => 0 | 20 => 20 | 72 => 60 | 76 => 65 | 70 => 57 | 37 => 58 | 75 => 64 | 127 => 90 | 164 => 109 | 5 => 5 | 80 => 67 | n => n, fun | n => n⟩
theorem Tryd.lays156 : Go.Proofs.Lays.n156 Tryd.prog Tryd.lays156_ren := {
  mixed := by kernel_rfl
  f156 := Tryd.func68.trans (congrArg some (by kernel_rfl))
  f165 := Tryd.func90.trans (congrArg some (by kernel_rfl))
  f166 := Tryd.func50.trans (congrArg some (by kernel_rfl))
  f169 := Tryd.func51.trans (congrArg some (by kernel_rfl))
  f240 := Tryd.func75.trans (congrArg some (by kernel_rfl))
  f241 := Tryd.func103.trans (congrArg some (by kernel_rfl))
  f276 := Tryd.func92.trans (congrArg some (by kernel_rfl))
  f277 := Tryd.func109.trans (congrArg some (by kernel_rfl))
  t0 := Tryd.underlying0
  a0 := Tryd.isAgg0
  z0 := Tryd.sizeOf0
  v0 := Tryd.zeroValue0
  t3 := Tryd.underlying3
  a3 := Tryd.isAgg3
  z3 := Tryd.sizeOf3
  v3 := Tryd.zeroValue3
  t4 := Tryd.underlying4
  a4 := Tryd.isAgg4
  z4 := Tryd.sizeOf4
  v4 := Tryd.zeroValue4
  t9 := Tryd.underlying9
  a9 := Tryd.isAgg9
  z9 := Tryd.sizeOf9
  v9 := Tryd.zeroValue9
  t20 := Tryd.underlying20
  a20 := Tryd.isAgg20
  z20 := Tryd.sizeOf20
  v20 := Tryd.zeroValue20
  t31 := Tryd.underlying42
  a31 := Tryd.isAgg42
  z31 := Tryd.sizeOf42
  v31 := Tryd.zeroValue42
  t37 := Tryd.underlying58
  a37 := Tryd.isAgg58
  z37 := Tryd.sizeOf58
  v37 := Tryd.zeroValue58
  t70 := Tryd.underlying57
  a70 := Tryd.isAgg57
  z70 := Tryd.sizeOf57
  v70 := Tryd.zeroValue57
  t72 := Tryd.underlying60
  a72 := Tryd.isAgg60
  z72 := Tryd.sizeOf60
  v72 := Tryd.zeroValue60
  t75 := Tryd.underlying64
  a75 := Tryd.isAgg64
  z75 := Tryd.sizeOf64
  v75 := Tryd.zeroValue64
  t76 := Tryd.underlying65
  a76 := Tryd.isAgg65
  z76 := Tryd.sizeOf65
  v76 := Tryd.zeroValue65
  t127 := Tryd.underlying90
  a127 := Tryd.isAgg90
  z127 := Tryd.sizeOf90
  v127 := Tryd.zeroValue90
  t164 := Tryd.underlying109
  a164 := Tryd.isAgg109
  z164 := Tryd.sizeOf109
  v164 := Tryd.zeroValue109 }
theorem Tryd.Builder_Extra_156 : Builder.Extra Tryd.prog Tryd.lays156_ren := {
  sizeBuilder := by kernel_rfl
  liesBuilder := by kernel_rfl
  t5 := Tryd.underlying5
  a5 := Tryd.isAgg5
  z5 := Tryd.sizeOf5
  v5 := Tryd.zeroValue5
  infoByte := by kernel_rfl
  cellsByte := by kernel_rfl
  sizeByte := by kernel_rfl
  neB5 := by decide }
open Go.RowKit in
theorem Tryd.strings_Join_none (a : Option Addr) (c : Nat) (sep : ByteArray) (w : World) :
    Calls Tryd.prog 68 #[.slice a 0 c, .string sep] w fun e w' => e = .returned (.string ⟨#[]⟩) ∧ w' = w := Any.strings_Join_none Tryd.lays156 Tryd.Builder_Extra_156 a c sep w
open Go.RowKit in
theorem Tryd.strings_Join (bk o c : Nat) (xs : List ByteArray) (sep : ByteArray) (w : World) (hcells : ∀ (j : Nat) x, xs[j]? = some x → w.cell? ⟨bk, o + j, none⟩ = some (.string x)) (hbk : bk < w.heap.size) (hN : xs.length ≤ 140737488355328) (hcap : xs.length ≤ c) (hlen : (Lib.join (xs.map (·.data.toList)) sep.data.toList).length ≤ 140737488355328) :
    Calls Tryd.prog 68 #[.slice (some ⟨bk, o, none⟩) xs.length c, .string sep] w fun e w' => e = .returned (.string ⟨(Lib.join (xs.map (·.data.toList)) sep.data.toList).toArray⟩) ∧ Below w.heap.size w w' := Any.strings_Join Tryd.lays156 Tryd.Builder_Extra_156 bk o c xs sep w hcells hbk hN hcap hlen
end Go.Proofs
namespace Go.Eng
open Go Go.RowKit Go.Proofs Wire
set_option linter.unusedVariables false
theorem lib_join (l : List ByteArray) : Lib.join (l.map (·.data.toList)) [32] = joinL l := by
  cases l with
  | nil => rfl
  | cons x r =>
    rw [List.map_cons, Lib.join_cons, joinL, List.map_cons, joinS, Lib.joinTail]
    congr 1
theorem join_c {W : World} {p : Option Addr} {c : Nat} {l : List ByteArray} (hl : StrsL (lkW W) p l) (hc : l.length ≤ c) (hn : (joinL l).length ≤ 140737488355328) (hm : l.length ≤ 140737488355328) :
    PW Tryd.prog 68 ⟨[.slice p l.length c, .string ⟨#[32]⟩]⟩ W (.string (ba (joinL l))) := by
  rcases Nat.eq_zero_or_pos l.length with h0 | h0
  · have : l = [] := List.length_eq_zero_iff.1 h0
    subst this
    exact (Any.strings_Join_none Tryd.lays156 Tryd.Builder_Extra_156 p c _ W).mono fun e w' ⟨he, hw⟩ => ⟨he, hw ▸ Below.refl _ _⟩
  · obtain ⟨b, o, cs, rfl, h2, h3⟩ := hl h0
    simp only [lkW, blkW] at h2
    split at h2
    · next c' t fz hh =>
      obtain rfl := Option.some.inj h2
      refine (Tryd.strings_Join b o c l ⟨#[32]⟩ W (fun j x hx => ?_) (Array.getElem?_eq_some_iff.1 hh).1 hm hc ?_).mono fun e w' ⟨he, hw⟩ => ⟨?_, hw⟩
      · have hj : j < l.length := (List.getElem?_eq_some_iff.1 hx).1
        rw [cell_of_heap (c := c'.toList) (t := t) (fz := fz) (by simpa using hh), h3 j hj]
        rw [List.getElem?_eq_getElem hj] at hx
        rw [Option.some.inj hx]
      · show (Lib.join (l.map (·.data.toList)) [32]).length ≤ _
        rw [lib_join]; exact hn
      · rw [he]
        show Ending.returned (.string ⟨(Lib.join (l.map (·.data.toList)) [32]).toArray⟩) = _
        rw [lib_join]
    · cases h2
end Go.Eng
namespace Go.Eng
open Go Go.RowKit
variable {P : Program} {f nt : Nat} {k : List Item} {e : Env} {L : SHeap} {S : List Nat} {w0 : World} {ops : Array Oper} {nq : Nat} {kk : List Item}
def held (L : SHeap) (w0 : World) (b : Nat) (c : List Value) : Prop := (∃ t fz, (b, Obj.cells ⟨c⟩ t fz) ∈ L) ∨ blkW w0 b = some c
theorem held_at {W : World} {b : Nat} {c : List Value} (hm : Mem L S w0 W) (hb : b ∉ S) (h : held L w0 b c) : ∃ t fz, W.heap[b]? = some (.cells ⟨c⟩ t fz) := by
  rcases h with ⟨t, fz, h⟩ | hc
  · exact ⟨t, fz, hm.here _ h⟩
  · unfold blkW at hc
    split at hc
    · next c' t fz hh =>
      simp at hc; subst hc
      have hlt : b < w0.heap.size := by
        rcases Nat.lt_or_ge b w0.heap.size with h | h
        · exact h
        · rw [Array.getElem?_eq_none h] at hh; cases hh
      exact ⟨t, fz, by rw [hm.kept.block b hlt hb, hh]⟩
    · cases hc
theorem AtE.loadM {R : Goal P} {b off : Nat} {T : TypeId} {v : Value} {c : List Value} (h : asLoad nt k e = some (T, .pointer (some ⟨b, off, none⟩))) (hb : b ∉ S) (hc : held L w0 b c) (hv : valAt P T c off = some v)
    (hn : AtE P f nt (nextK k) (putE e (curDst nt k e) v) L S w0 R) : AtE P f nt k e L S w0 R := by
  obtain ⟨o, x, hcu, ho, hx⟩ := asLoad_spec h
  refine AtE.opV hcu (fun W hm => ?_) hn
  simp only [execOp, ho, hx]
  obtain ⟨t, fz, hh⟩ := held_at hm hb hc
  exact run_lift (load_run (t := t) (fz := fz) hh hv)
theorem AtQ.loadM {R : Goal P} {b off : Nat} {T : TypeId} {v : Value} {c : List Value} (h : asLoad nt k e = some (T, .pointer (some ⟨b, off, none⟩))) (hb : b ∉ S) (hc : held L w0 b c) (hv : valAt P T c off = some v)
    (hn : AtQ P f nt ops nq kk (nextK k) (putE e (curDst nt k e) v) L S w0 R) : AtQ P f nt ops nq kk k e L S w0 R := by
  obtain ⟨o, x, hcu, ho, hx⟩ := asLoad_spec h
  refine AtQ.opV hcu (fun W hm => ?_) hn
  simp only [execOp, ho, hx]
  obtain ⟨t, fz, hh⟩ := held_at hm hb hc
  exact run_lift (load_run (t := t) (fz := fz) hh hv)
end Go.Eng
namespace Go.Eng
open Go Go.RowKit Go.Proofs Wire
set_option linter.unusedVariables false
def tot (l : List (List UInt8)) : Nat := (l.map (·.length + 1)).sum
theorem tot_cons (x : List UInt8) (l : List (List UInt8)) : tot (x :: l) = x.length + 1 + tot l := by simp [tot]
theorem sen_tot : ∀ (r : List UInt8) (p q : UInt8) (acc : List UInt8), tot (sen p q acc r) ≤ acc.length + 2 * r.length + 1
  | [], p, q, acc => by
    have := trimS_len acc
    rw [sen]; split
    · simp [tot]
    · simp [tot]; omega
  | c :: r, p, q, acc => by
    have h1 := sen_tot r q c []
    have h2 := sen_tot r q c (acc ++ [c])
    have h3 := trimS_len (acc ++ [c])
    simp only [List.length_append, List.length_cons, List.length_nil] at *
    rw [sen]; split
    · rw [tot_cons]; omega
    · omega
theorem tot_len : ∀ l : List (List UInt8), l.length ≤ tot l
  | [] => Nat.le_refl _
  | x :: r => by have := tot_len r; rw [tot_cons, List.length_cons]; omega
theorem tot_flat : ∀ l : List (List UInt8), (l.flatMap (32 :: ·)).length = tot l
  | [] => rfl
  | x :: r => by rw [List.flatMap_cons, List.length_append, tot_flat r, tot_cons, List.length_cons]
theorem joinS_len (l : List (List UInt8)) : (joinS l).length ≤ tot l := by
  cases l with
  | nil => exact Nat.le_refl _
  | cons x r => rw [joinS, List.length_append, tot_flat, tot_cons]; omega
theorem senB_bts (s : ByteArray) : (senB s).map bts = senOf (bts s) := by
  rw [senB, List.map_map]
  exact (List.map_congr_left (fun x _ => bts_mk x)).trans (List.map_id _)
theorem join_len (s : ByteArray) : (joinL (senB s)).length ≤ 2 * s.size + 1 := by
  have h1 := joinS_len (senOf (bts s))
  have h2 := sen_tot (bts s) 32 32 []
  rw [joinL, senB_bts]
  rw [bts_len, List.length_nil] at h2
  have : tot (senOf (bts s)) ≤ 0 + 2 * s.size + 1 := h2
  omega
theorem senB_len (s : ByteArray) : (senB s).length ≤ 2 * s.size + 1 := by
  have h1 := tot_len (senOf (bts s))
  have h2 := sen_tot (bts s) 32 32 []
  rw [bts_len, List.length_nil] at h2
  have : tot (senOf (bts s)) ≤ 0 + 2 * s.size + 1 := h2
  rw [senB, List.length_map]; omega
def ruleOf (b : Blk) : List UInt8 :=
  if b.kind = 1 then bts b.text
  else if b.kind = 2 then joinL (senB b.text)
  else if b.kind = 3 then [34] ++ bts b.text ++ [34]
  else if b.kind = 4 then [91] ++ bts b.text ++ [93]
  else [35] ++ bts b.text
def plainB (b : Blk) : List UInt8 := if 1 ≤ b.kind ∧ b.kind ≤ 5 then ruleOf b ++ [10] else []
def plainL (l : List Blk) : List UInt8 := l.flatMap plainB
theorem plainL_cons (b : Blk) (l : List Blk) : plainL (b :: l) = plainB b ++ plainL l := List.flatMap_cons
theorem plainL_drop {l : List Blk} {i : Nat} (h : i < l.length) : plainL (l.drop i) = plainB l[i] ++ plainL (l.drop (i + 1)) := by rw [List.drop_eq_getElem_cons h, plainL_cons]
theorem ruleOf_len (b : Blk) : (ruleOf b).length ≤ 2 * b.text.size + 2 := by
  have h1 := join_len b.text
  have h2 := bts_len b.text
  unfold ruleOf
  repeat' split
  all_goals (try simp only [List.length_append, List.length_cons, List.length_nil]); omega
theorem plainB_len (b : Blk) : (plainB b).length ≤ 2 * b.text.size + 3 := by
  have := ruleOf_len b
  unfold plainB; split
  · simp only [List.length_append, List.length_cons, List.length_nil]; omega
  · simp
theorem plainL_len : ∀ (l : List Blk), (∀ b ∈ l, b.text.size ≤ 1000000) → (plainL l).length ≤ 2000003 * l.length
  | [], _ => by simp [plainL]
  | b :: r, h => by
    have h1 := plainL_len r (fun x hx => h x (List.mem_cons_of_mem _ hx))
    have h2 := plainB_len b
    have h3 := h b List.mem_cons_self
    rw [plainL_cons, List.length_append, List.length_cons]; omega
theorem rul2_c (s : ByteArray) : PureC Tryd.prog 66 ⟨[.string s]⟩ (.string (ba (bts s))) := fun W => rul2_vc s (Mem.start [] W) (finPure (by rw [ba_bts]))
theorem rul3_c (s : ByteArray) (hs : s.size ≤ 1099511627776) : PureC Tryd.prog 67 ⟨[.string s]⟩ (.string (ba (joinL (senB s)))) := by
  intro W
  have h1 := join_len s
  have h2 := senB_len s
  refine rul3_vc s (Mem.start [] W) (CallH.effF (sentences_e hs) ?_)
  rintro v F ⟨p, c, rfl, hc, hF⟩
  exact ⟨p, _, c, F, rfl, rfl, CallH.pw (fun W' hm' => join_c (hF.mono (lkF_W hm' fun x h => h)) hc (by omega) (by omega)) ⟨_, rfl, rfl, finPure rfl⟩⟩
theorem cat3 (a : List UInt8) (s : ByteArray) (b : List UInt8) : ba a ++ s ++ ba b = ba (a ++ bts s ++ b) := bts_inj (by simp only [bts_append, bts_mk])
theorem rul4_c (s : ByteArray) (hs : s.size ≤ 1099511627776) : PureC Tryd.prog 69 ⟨[.string s]⟩ (.string (ba ([34] ++ bts s ++ [34]))) := by
  intro W
  have e : ((⟨#[34]⟩ : ByteArray) ++ s).size = 1 + s.size := by rw [← bts_len, bts_append, List.length_append, bts_len]; rfl
  refine rul4_vc s (Mem.start [] W) ⟨?_, ?_, ?_⟩
  · show 1 + s.size ≤ _; omega
  · rw [e]; show 1 + s.size + 1 ≤ _; omega
  · rintro _ rfl
    exact finPure (congrArg Value.string (cat3 [34] s [34]))
theorem rul5_c (s : ByteArray) (hs : s.size ≤ 1099511627776) : PureC Tryd.prog 70 ⟨[.string s]⟩ (.string (ba ([91] ++ bts s ++ [93]))) := by
  intro W
  have e : ((⟨#[91]⟩ : ByteArray) ++ s).size = 1 + s.size := by rw [← bts_len, bts_append, List.length_append, bts_len]; rfl
  refine rul5_vc s (Mem.start [] W) ⟨?_, ?_, ?_⟩
  · show 1 + s.size ≤ _; omega
  · rw [e]; show 1 + s.size + 1 ≤ _; omega
  · rintro _ rfl
    exact finPure (congrArg Value.string (cat3 [91] s [93]))
theorem rul6_c (s : ByteArray) (hs : s.size ≤ 1099511627776) : PureC Tryd.prog 72 ⟨[.string s]⟩ (.string (ba ([35] ++ bts s))) := by
  intro W
  refine rul6_vc s (Mem.start [] W) ⟨?_, ?_⟩
  · show 1 + s.size ≤ _; omega
  · rintro _ rfl
    exact finPure (congrArg Value.string (bts_inj (by simp only [bts_append, bts_mk])))
theorem ru1 {b : Blk} (k : b.kind = 1) : plainB b = bts b.text ++ [10] := by rw [plainB, if_pos (by omega), ruleOf, if_pos k]
theorem ru2 {b : Blk} (k : b.kind = 2) : plainB b = joinL (senB b.text) ++ [10] := by rw [plainB, if_pos (by omega), ruleOf, if_neg (by omega), if_pos k]
theorem ru3 {b : Blk} (k : b.kind = 3) : plainB b = ([34] ++ bts b.text ++ [34]) ++ [10] := by rw [plainB, if_pos (by omega), ruleOf, if_neg (by omega), if_neg (by omega), if_pos k]
theorem ru4 {b : Blk} (k : b.kind = 4) : plainB b = ([91] ++ bts b.text ++ [93]) ++ [10] := by rw [plainB, if_pos (by omega), ruleOf, if_neg (by omega), if_neg (by omega), if_neg (by omega), if_pos k]
theorem ru5 {b : Blk} (k : b.kind = 5) : plainB b = ([35] ++ bts b.text) ++ [10] := by rw [plainB, if_pos (by omega), ruleOf, if_neg (by omega), if_neg (by omega), if_neg (by omega), if_neg (by omega)]
theorem ru0 {b : Blk} (k : ¬ (1 ≤ b.kind ∧ b.kind ≤ 5)) : plainB b = [] := by rw [plainB, if_neg k]
theorem plain_loop1 {w0 : World} {mb B : Nat} {p : Option Addr} {c : Nat} {l : List Blk} (hl : BlksL (lkW w0) p l) (hz : ∀ b ∈ l, b.text.size ≤ 1000000) (hn : l.length ≤ 10000) :
    ∀ (g i : Nat) (F : SHeap) (acc : List UInt8), g + i = l.length → BRep B acc F → acc ++ plainL (l.drop i) = plainL l →
      plain_c1 mb B p l.length c (l.length : Int) (i : Int) F w0 (fun e W' => e = .returned (.string (ba (plainL l))) ∧ Below w0.heap.size w0 W')
  | 0, i, F, acc, hg, hF, he => by
    apply plain_c1_vc
    have hb := plainL_len l hz
    rw [List.drop_of_length_le (by omega), show plainL [] = [] from rfl, List.append_nil] at he
    subst he
    exact no (by omega) (CallH.effT [_] (string_e hF (by omega)) fun v F' hv => ⟨_, F', hv, rfl, finPW rfl⟩)
  | g + 1, i, F, acc, hg, hF, he => by
    apply plain_c1_vc
    have hi : i < l.length := by omega
    have hb := plainL_len l hz
    have hs := hz _ (List.getElem_mem hi)
    rw [plainL_drop hi] at he
    have hlen := congrArg List.length he
    simp only [List.length_append] at hlen
    obtain ⟨B1, o1, c1, rfl, e2, e3, p6, c6, e4, e5, e6⟩ := hl.get hi
    have wr : ∀ (x y : Nat × Obj) (r : List UInt8), r ++ [10] = plainB l[i] →
        CallH Tryd.prog 50 ⟨[.pointer (some ⟨B, 0, none⟩), .string (ba r)]⟩ (x :: y :: (mb, rulesObj) :: F) [] w0 (fun v L' => ∃ (r251 : Int) (r261 : Value) (F12 : SHeap), v = (.tuple #[.int .i64 r251, r261]) ∧ L' = (x :: y :: (mb, rulesObj) :: F12) ∧
          CallH Tryd.prog 62 ⟨[.pointer (some ⟨B, 0, none⟩), .int .u8 (10 : Int)]⟩ (x :: y :: (mb, rulesObj) :: F12) [] w0 (fun v L' => ∃ (r271 : Value) (F13 : SHeap), v = (r271) ∧ L' = (x :: y :: (mb, rulesObj) :: F13) ∧
            plain_c1 mb B (some ⟨B1, o1, none⟩) l.length c (l.length : Int) (IntKind.i64.wrap ((i : Int) + (1 : Int))) F13 w0 (fun e W' => e = .returned (.string (ba (plainL l))) ∧ Below w0.heap.size w0 W'))) := by
      intro x y r hr
      have hrl := congrArg List.length hr
      simp only [List.length_append, List.length_cons, List.length_nil] at hrl
      refine CallH.effT [x, y, (mb, rulesObj)] (write_e hF (by rw [ba_size]; omega)) fun v F1 ⟨hv, hF1⟩ => ⟨_, _, F1, hv, rfl, ?_⟩
      rw [bts_mk] at hF1
      refine CallH.effT [x, y, (mb, rulesObj)] (byte_e (x := 10) hF1 (by rw [List.length_append]; omega)) fun v F2 ⟨hv, hF2⟩ => ⟨_, F2, rfl, rfl, ?_⟩
      rw [wi64 (by omega), show (i : Int) + 1 = ((i + 1 : Nat) : Int) by omega]
      refine plain_loop1 hl hz hn g (i + 1) F2 _ (by omega) hF2 ?_
      rw [← he, ← hr]; simp
    refine yes (by omega) ⟨B1, o1, rfl, by omega, c1, l[i].id, l[i].kind, l[i].text, l[i].story, l[i].ref, l[i].lab.unt, p6, l[i].lab.after.length, c6, l[i].lab.appr, l[i].lab.den, e2, ⟨by simpa using e4, by simpa using e3⟩, fun B2 => ?_⟩
    refine ⟨fun k B3 => CallH.pure (rul2_c _) ⟨_, rfl, rfl, wr _ _ _ (ru1 k).symm⟩, fun k1 => ⟨fun k B3 => CallH.pure (rul3_c _ (by omega)) ⟨_, rfl, rfl, wr _ _ _ (ru2 k).symm⟩, fun k2 => ⟨fun k B3 => CallH.pure (rul4_c _ (by omega)) ⟨_, rfl, rfl, wr _ _ _ (ru3 k).symm⟩, fun k3 =>
      ⟨fun k B3 => CallH.pure (rul5_c _ (by omega)) ⟨_, rfl, rfl, wr _ _ _ (ru4 k).symm⟩, fun k4 => ⟨fun k B3 => CallH.pure (rul6_c _ (by omega)) ⟨_, rfl, rfl, wr _ _ _ (ru5 k).symm⟩, fun k5 B3 => ?_⟩⟩⟩⟩⟩
    rw [wi64 (by omega), show (i : Int) + 1 = ((i + 1 : Nat) : Int) by omega]
    refine plain_loop1 hl hz hn g (i + 1) F acc (by omega) hF ?_
    rw [← he, ru0 (by omega), List.nil_append]
theorem plain_start {w0 : World} {mb B : Nat} {p : Option Addr} {c : Nat} {l : List Blk} (hl : BlksL (lkW w0) p l) (hz : ∀ b ∈ l, b.text.size ≤ 1000000) (hn : l.length ≤ 10000) {i : Nat} (hi : i < l.length) (he : plainL (l.drop i) = plainL l) (x y : Nat × Obj) (r : List UInt8) (hr : r ++ [10] = plainB l[i]) :
        CallH Tryd.prog 50 ⟨[.pointer (some ⟨B, 0, none⟩), .string (ba r)]⟩ [(mb, rulesObj), bHdr B (.pointer none) (.slice none 0 0), x, y] [] w0 (fun v L' => ∃ (r251 : Int) (r261 : Value) (F12 : SHeap), v = (.tuple #[.int .i64 r251, r261]) ∧ L' = ((mb, rulesObj) :: x :: y :: F12) ∧
          CallH Tryd.prog 62 ⟨[.pointer (some ⟨B, 0, none⟩), .int .u8 (10 : Int)]⟩ ((mb, rulesObj) :: x :: y :: F12) [] w0 (fun v L' => ∃ (r271 : Value) (F13 : SHeap), v = (r271) ∧ L' = ((mb, rulesObj) :: x :: y :: F13) ∧
            plain_c1 mb B p l.length c (l.length : Int) (IntKind.i64.wrap ((i : Int) + (1 : Int))) F13 w0 (fun e W' => e = .returned (.string (ba (plainL l))) ∧ Below w0.heap.size w0 W'))) := by
  have hb := plainL_len l hz
  rw [plainL_drop hi] at he
  have hlen := congrArg List.length he
  simp only [List.length_append] at hlen
  have hrl := congrArg List.length hr
  simp only [List.length_append, List.length_cons, List.length_nil] at hrl
  refine CallH.eff (L0 := [bHdr B (.pointer none) (.slice none 0 0)]) (L1 := [(mb, rulesObj), x, y]) (write_e (BRep.new B) (by rw [ba_size, List.length_nil]; omega)) (List.Perm.swap _ _ _) fun v F1 ⟨hv, hF1⟩ => ⟨(mb, rulesObj) :: x :: y :: F1, List.perm_append_comm, _, _, F1, hv, rfl, ?_⟩
  rw [bts_mk, List.nil_append] at hF1
  refine CallH.effT [(mb, rulesObj), x, y] (byte_e (x := 10) hF1 (by omega)) fun v F2 ⟨hv, hF2⟩ => ⟨_, F2, rfl, rfl, ?_⟩
  rw [wi64 (by omega), show (i : Int) + 1 = ((i + 1 : Nat) : Int) by omega]
  refine plain_loop1 hl hz hn (l.length - (i + 1)) (i + 1) F2 _ (by omega) hF2 ?_
  rw [← he, ← hr]
theorem plain_loop2 {w0 : World} {mb B : Nat} {p : Option Addr} {c : Nat} {l : List Blk} (hl : BlksL (lkW w0) p l) (hz : ∀ b ∈ l, b.text.size ≤ 1000000) (hn : l.length ≤ 10000) :
    ∀ (g i : Nat), g + i = l.length → plainL (l.drop i) = plainL l →
      plain_c2 mb B p l.length c (l.length : Int) (i : Int) none w0 (fun e W' => e = .returned (.string (ba (plainL l))) ∧ Below w0.heap.size w0 W')
  | 0, i, hg, he => by
    apply plain_c2_vc
    rw [List.drop_of_length_le (by omega)] at he
    refine no (by omega) (CallH.eff (L0 := [bHdr B (.pointer none) (.slice none 0 0)]) (L1 := [(mb, rulesObj)]) (string_e (BRep.new B) (by simp)) (List.Perm.swap _ _ _) fun v F' hv => ⟨(mb, rulesObj) :: F', List.perm_append_comm, _, F', hv, rfl, finPW ?_⟩)
    rw [← he]; rfl
  | g + 1, i, hg, he => by
    apply plain_c2_vc
    have hi : i < l.length := by omega
    have hs := hz _ (List.getElem_mem hi)
    obtain ⟨B1, o1, c1, rfl, e2, e3, p6, c6, e4, e5, e6⟩ := hl.get hi
    refine yes (by omega) ⟨B1, o1, rfl, by omega, c1, l[i].id, l[i].kind, l[i].text, l[i].story, l[i].ref, l[i].lab.unt, p6, l[i].lab.after.length, c6, l[i].lab.appr, l[i].lab.den, e2, ⟨by simpa using e4, by simpa using e3⟩, fun B2 => ?_⟩
    refine ⟨fun k B3 => CallH.pure (rul2_c _) ⟨_, rfl, rfl, plain_start hl hz hn hi he _ _ _ (ru1 k).symm⟩, fun k1 => ⟨fun k B3 => CallH.pure (rul3_c _ (by omega)) ⟨_, rfl, rfl, plain_start hl hz hn hi he _ _ _ (ru2 k).symm⟩, fun k2 => ⟨fun k B3 => CallH.pure (rul4_c _ (by omega)) ⟨_, rfl, rfl, plain_start hl hz hn hi he _ _ _ (ru3 k).symm⟩, fun k3 =>
      ⟨fun k B3 => CallH.pure (rul5_c _ (by omega)) ⟨_, rfl, rfl, plain_start hl hz hn hi he _ _ _ (ru4 k).symm⟩, fun k4 => ⟨fun k B3 => CallH.pure (rul6_c _ (by omega)) ⟨_, rfl, rfl, plain_start hl hz hn hi he _ _ _ (ru5 k).symm⟩, fun k5 B3 => ?_⟩⟩⟩⟩⟩
    rw [wi64 (by omega), show (i : Int) + 1 = ((i + 1 : Nat) : Int) by omega]
    refine plain_loop2 hl hz hn g (i + 1) (by omega) ?_
    rw [← he, plainL_drop hi, ru0 (by omega), List.nil_append]
theorem plain_c {W : World} {p : Option Addr} {c : Nat} {l : List Blk} (hl : BlksL (lkW W) p l) (hz : ∀ b ∈ l, b.text.size ≤ 1000000) (hn : l.length ≤ 10000) : PW Tryd.prog 34 ⟨[.slice p l.length c]⟩ W (.string (ba (plainL l))) := by
  refine plain_vc p l.length c (Mem.start [] W) (CallH.rules fun mb => ⟨mb, rfl, rfl, fun B => ?_⟩)
  apply plain_c0_vc
  rcases Nat.eq_zero_or_pos l.length with h0 | hi
  · have : l = [] := List.length_eq_zero_iff.1 h0
    subst this
    exact no (by simp) (CallH.eff (L0 := [bHdr B (.pointer none) (.slice none 0 0)]) (L1 := [(mb, rulesObj)]) (string_e (BRep.new B) (by simp)) (List.Perm.swap _ _ _) fun v F' hv => ⟨(mb, rulesObj) :: F', List.perm_append_comm, _, F', hv, rfl, finPW rfl⟩)
  · have hs := hz _ (List.getElem_mem hi)
    have he : plainL (l.drop 0) = plainL l := by rw [List.drop_zero]
    obtain ⟨B1, o1, c1, rfl, e2, e3, p6, c6, e4, e5, e6⟩ := hl.get hi
    refine yes (by omega) ⟨B1, o1, rfl, by omega, c1, l[0].id, l[0].kind, l[0].text, l[0].story, l[0].ref, l[0].lab.unt, p6, l[0].lab.after.length, c6, l[0].lab.appr, l[0].lab.den, e2, ⟨by simpa using e4, by simpa using e3⟩, fun B2 => ?_⟩
    refine ⟨fun k B3 => CallH.pure (rul2_c _) ⟨_, rfl, rfl, plain_start hl hz hn hi he _ _ _ (ru1 k).symm⟩, fun k1 => ⟨fun k B3 => CallH.pure (rul3_c _ (by omega)) ⟨_, rfl, rfl, plain_start hl hz hn hi he _ _ _ (ru2 k).symm⟩, fun k2 => ⟨fun k B3 => CallH.pure (rul4_c _ (by omega)) ⟨_, rfl, rfl, plain_start hl hz hn hi he _ _ _ (ru3 k).symm⟩, fun k3 =>
      ⟨fun k B3 => CallH.pure (rul5_c _ (by omega)) ⟨_, rfl, rfl, plain_start hl hz hn hi he _ _ _ (ru4 k).symm⟩, fun k4 => ⟨fun k B3 => CallH.pure (rul6_c _ (by omega)) ⟨_, rfl, rfl, plain_start hl hz hn hi he _ _ _ (ru5 k).symm⟩, fun k5 B3 => ?_⟩⟩⟩⟩⟩
    rw [wi64 (by omega)]
    refine plain_loop2 hl hz hn (l.length - 1) 1 (by omega) ?_
    rw [← he, plainL_drop hi, ru0 (by omega), List.nil_append]
end Go.Eng
namespace Go.Eng
open Go Go.RowKit Go.Proofs Wire
set_option linter.unusedVariables false
theorem held_W {L : SHeap} {w0 W : World} (hm : Mem L [] w0 W) : ∀ b c, held L w0 b c → lkW W b c := by
  intro b c h
  obtain ⟨t, fz, h⟩ := held_at hm List.not_mem_nil h
  simp [lkW, blkW, h]
theorem held_mono {L L' : SHeap} {w0 : World} (h : ∀ x ∈ L, x ∈ L') : ∀ b c, held L w0 b c → held L' w0 b c := by
  rintro b c (⟨t, fz, h1⟩ | h1)
  · exact .inl ⟨t, fz, h _ h1⟩
  · exact .inr h1
theorem held_F {L F : SHeap} {w0 : World} (h : ∀ x ∈ F, x ∈ L) : ∀ b c, lkF F b c → held L w0 b c := fun b c ⟨t, fz, h1⟩ => .inl ⟨t, fz, h _ h1⟩
def cutT (s : ByteArray) (n : Nat) : ByteArray := s.extract 0 (min s.size n)
def cutB (b : Blk) : Blk := { b with text := cutT b.text 1000 }
def shortL (l : List Blk) : List Blk := (l.take 30).map cutB
theorem cutT_bts (s : ByteArray) (n : Nat) : bts (cutT s n) = (bts s).take n := by
  rw [cutT, bts_ext, seg, List.drop_zero, Nat.sub_zero, ← bts_len s]
  rcases Nat.le_total (bts s).length n with h | h
  · rw [Nat.min_eq_left h, List.take_length, List.take_of_length_le h]
  · rw [Nat.min_eq_right h]
theorem cutT_size (s : ByteArray) (n : Nat) : (cutT s n).size = min n s.size := by rw [← bts_len, cutT_bts, List.length_take, bts_len]
theorem shortL_len (l : List Blk) : (shortL l).length = min 30 l.length := by rw [shortL, List.length_map, List.length_take]
theorem shortL_get {l : List Blk} {i : Nat} (h : i < (shortL l).length) : (shortL l)[i] = cutB (l[i]'(by rw [shortL_len] at h; omega)) := by simp [shortL]
theorem shortL_text {l : List Blk} {b : Blk} (h : b ∈ shortL l) : b.text.size ≤ 1000 := by
  obtain ⟨a, ha, rfl⟩ := List.mem_map.1 h
  show (cutT a.text 1000).size ≤ 1000
  rw [cutT_size]; omega
def BRowL (lk : Lk) (cs : List Value) (l : List Blk) : Prop := ∀ i (h : i < l.length), i * 9 + 9 ≤ cs.length ∧ BlkL lk ((cs.drop (i * 9)).take 9) l[i]
theorem BRowL.app {lk : Lk} {cs r : List Value} {l : List Blk} {b : Blk} {p : Option Addr} {c cap cap1 : Nat} (h : BRowL lk cs l) (h1 : l.length ≤ cap) (h2 : cs.length = cap * 9) (hb : IntsL lk p b.lab.after) (hf : b.Fits)
    (q1 : l.length + 1 ≤ cap1) (q2 : (cs.take (l.length * 9) ++ b.cells p c ++ r).length = cap1 * 9) : BRowL lk (cs.take (l.length * 9) ++ b.cells p c ++ r) (l ++ [b]) := by
  have hn : l.length * 9 ≤ cs.length := by rw [h2]; exact Nat.mul_le_mul_right _ h1
  intro i hi
  have hi' : i < l.length + 1 := by simpa using hi
  refine ⟨by rw [q2]; omega, ?_⟩
  rcases Nat.lt_or_ge i l.length with hlt | hge
  · rw [row_old hlt hn, List.getElem_append_left hlt]
    exact (h i hlt).2
  · have : i = l.length := by omega
    subst this
    rw [row_new hn rfl]
    simp only [List.getElem_append_right (Nat.le_refl _), Nat.sub_self, List.getElem_cons_zero]
    exact ⟨p, c, rfl, hb, hf⟩
theorem BRowL.sl {lk : Lk} {cs : List Value} {l : List Blk} {B4 : Nat} (h : BRowL lk cs l) : BlksL (fun b c => lkF [(B4, .cells ⟨cs⟩ 26)] b c ∨ lk b c) (some ⟨B4, 0, none⟩) l :=
  fun _ => ⟨B4, 0, cs, rfl, .inl ⟨26, _, List.mem_cons_self⟩, fun i hi => ⟨by rw [Nat.zero_add]; exact (h i hi).1, by rw [Nat.zero_add]; exact (h i hi).2.mono fun b c h => .inr h⟩⟩
theorem BRowL.one {lk : Lk} {r : List Value} {b : Blk} {p : Option Addr} {c cap : Nat} (hb : IntsL lk p b.lab.after) (hf : b.Fits) (q1 : 1 ≤ cap) (q2 : (b.cells p c ++ r).length = cap * 9) : BRowL lk (b.cells p c ++ r) [b] := by
  intro i hi
  have : i = 0 := by simp at hi; omega
  subst this
  refine ⟨by rw [q2]; omega, p, c, ?_, hb, hf⟩
  simp
def ShortOut (lk : Lk) (l : List Blk) (v : Value) (F : SHeap) : Prop := ∃ (p : Option Addr) (c : Nat), v = .slice p (shortL l).length c ∧ (shortL l).length ≤ c ∧ BlksL (fun b c => lkF F b c ∨ lk b c) p (shortL l)
theorem cut_if (s : ByteArray) (n : Nat) : Int.toNat (if (n : Int) < (s.size : Int) then (n : Int) else (s.size : Int)) = min s.size n := by split <;> omega
theorem cutB_fits {b : Blk} (h : b.Fits) : (cutB b).Fits := ⟨by show (cutT b.text 1000).size ≤ _; rw [cutT_size]; omega, h.2⟩
theorem short_loop1 {w0 : World} {lk : Lk} {p : Option Addr} {c : Nat} {l : List Blk} (hlk : ∀ b c, lk b c → lkW w0 b c) (hl : BlksL lk p l) : ∀ (g i B cap : Nat) (cs : List Value), g + i = (shortL l).length → i ≤ cap → cs.length = cap * 9 → BRowL lk cs ((shortL l).take i) →
      short_c1 B p l.length c i cap (i : Int) cs w0 (fun e W' => ∃ v L', e = .returned v ∧ Mem L' [] w0 W' ∧ ShortOut lk l v L')
  | 0, i, B, cap, cs, hg, h1, h2, h3 => by
    apply short_c1_vc
    have hn := shortL_len l
    have hi : i = (shortL l).length := by omega
    subst hi
    rw [List.take_length] at h3
    have fin : ShortOut lk l (.slice (some ⟨B, 0, none⟩) (shortL l).length cap) [(B, .cells ⟨cs⟩ 26)] := ⟨_, cap, rfl, h1, h3.sl⟩
    exact ⟨fun hlt => ⟨fun h30 => by omega, fun h30 => dkFin fin⟩, fun hlt => dkFin fin⟩
  | g + 1, i, B, cap, cs, hg, h1, h2, h3 => by
    apply short_c1_vc
    have hn := shortL_len l
    have hi : i < l.length := by omega
    have his : i < (shortL l).length := by omega
    obtain ⟨B1, o1, c1, rfl, e2, e3, p6, c6, e4, e5, e6⟩ := hl.get hi
    refine yes (by omega) (yes (by omega) ⟨B1, o1, rfl, by omega, c1, l[i].id, l[i].kind, l[i].text, l[i].story, l[i].ref, l[i].lab.unt, p6, l[i].lab.after.length, c6, l[i].lab.appr, l[i].lab.den, hlk _ _ e2, ⟨by simpa using e4, by simpa using e3⟩, fun B2 => ⟨by split <;> omega, fun B3 => ⟨⟨h1, h2⟩, by omega, fun B4 cap2 r q1 q2 => ?_⟩⟩⟩)
    rintro _ rfl
    rw [wi64 (by omega), show (i : Int) + 1 = ((i + 1 : Nat) : Int) by omega]
    rw [show (1000 : Int) = ((1000 : Nat) : Int) from rfl, cut_if] at q2 ⊢
    have hlen : ((shortL l).take i).length = i := by rw [List.length_take]; omega
    have hrow := BRowL.app (b := cutB l[i]) (p := p6) (c := c6) (r := r) (cap1 := cap2) h3 (by rw [hlen]; exact h1) h2 e5 (cutB_fits e6) (by rw [hlen]; exact q1) (by rw [hlen]; exact q2)
    rw [hlen, ← shortL_get his, show (shortL l).take i ++ [(shortL l)[i]] = (shortL l).take (i + 1) by rw [List.take_add_one, List.getElem?_eq_getElem his]; rfl] at hrow
    rw [shortL_get his] at hrow
    exact short_loop1 hlk hl g (i + 1) B4 cap2 _ (by omega) q1 q2 hrow
theorem take_one_get {α : Type} : ∀ {l : List α} (h : 0 < l.length), l.take 1 = [l[0]]
  | x :: r, _ => rfl
theorem short_first {lk : Lk} {r : List Value} {b : Blk} {p : Option Addr} {c cap : Nat} (hb : IntsL lk p b.lab.after) (hf : b.Fits) (q1 : 1 ≤ cap)
    (q2 : ([.int .i64 b.id, .int .i64 b.kind, .string (b.text.extract 0 (min b.text.size 1000)), .int .i64 b.story, .int .i64 b.ref, .int .i64 b.lab.unt, .slice p b.lab.after.length c, .int .i64 b.lab.appr, .int .i64 b.lab.den] ++ r : List Value).length = cap * 9) :
    BRowL lk ([.int .i64 b.id, .int .i64 b.kind, .string (b.text.extract 0 (min b.text.size 1000)), .int .i64 b.story, .int .i64 b.ref, .int .i64 b.lab.unt, .slice p b.lab.after.length c, .int .i64 b.lab.appr, .int .i64 b.lab.den] ++ r) [cutB b] :=
  BRowL.one (b := cutB b) hb (cutB_fits hf) q1 q2
theorem short_e {lk : Lk} {p : Option Addr} {c : Nat} {l : List Blk} (hl : BlksL lk p l) : EffW Tryd.prog 18 ⟨[.slice p l.length c]⟩ [] (fun W => ∀ b c, lk b c → lkW W b c) (ShortOut lk l) := by
  intro W hm hlk
  refine short_vc p l.length c hm ?_
  apply short_c0_vc
  have hn := shortL_len l
  rcases Nat.eq_zero_or_pos l.length with h0 | hi
  · have : l = [] := List.length_eq_zero_iff.1 h0
    subst this
    exact no (by simp) (dkFin ⟨none, 0, rfl, Nat.le_refl _, fun h => absurd h (by simp [shortL])⟩)
  · have his : 0 < (shortL l).length := by omega
    obtain ⟨B1, o1, c1, rfl, e2, e3, p6, c6, e4, e5, e6⟩ := hl.get hi
    refine yes (by omega) (yes (by omega) ⟨B1, o1, rfl, by omega, c1, l[0].id, l[0].kind, l[0].text, l[0].story, l[0].ref, l[0].lab.unt, p6, l[0].lab.after.length, c6, l[0].lab.appr, l[0].lab.den, hlk _ _ e2, ⟨by simpa using e4, by simpa using e3⟩, fun B2 => ⟨by split <;> omega, fun B3 B4 cap2 r q1 q2 => ?_⟩⟩)
    rintro _ rfl
    rw [wi64 (by omega)]
    rw [show (1000 : Int) = ((1000 : Nat) : Int) from rfl, cut_if] at q2 ⊢
    have hrow := short_first (b := l[0]) (p := p6) (c := c6) (r := r) e5 e6 q1 q2
    rw [← shortL_get his, ← take_one_get his] at hrow
    exact short_loop1 hlk hl ((shortL l).length - 1) 1 B4 cap2 _ (by omega) q1 q2 hrow
theorem CallH.short {L : SHeap} {w0 : World} {p : Option Addr} {c : Nat} {l : List Blk} {K : Value → SHeap → Prop} (hl : BlksL (held L w0) p l)
    (hK : ∀ p' c' F, (∀ x ∈ L, x ∈ F) → (shortL l).length ≤ c' → BlksL (held F w0) p' (shortL l) → K (.slice p' (shortL l).length c') F) : CallH Tryd.prog 18 ⟨[.slice p l.length c]⟩ L [] w0 K := by
  refine CallH.effW (L1 := L) (short_e hl) (fun W hm => held_W hm) (List.Perm.refl _) ?_
  rintro v F ⟨p', c', rfl, hc, hb⟩
  refine ⟨F ++ L, List.Perm.refl _, hK p' c' _ (fun x hx => List.mem_append_right _ hx) hc (hb.mono ?_)⟩
  rintro b c (⟨t, fz, h⟩ | h)
  · exact .inl ⟨t, fz, List.mem_append_left _ h⟩
  · exact held_mono (fun x hx => List.mem_append_right _ hx) b c h
end Go.Eng
namespace Go.Eng
open Go Go.RowKit Wire
set_option linter.unusedVariables false
theorem drop_next {s x r : List UInt8} {a : Nat} (h : s.drop a = x ++ r) : s.drop (a + x.length) = r := by
  rw [← List.drop_drop, h, List.drop_left]
theorem rdI_fwd {s r : List UInt8} {a : Nat} {n : Int} (hn : okInt n) (h : s.drop a = Wire.enc n ++ r) : rdI s (a, 0) = (n, (a + (Wire.enc n).length, 0)) := by
  simp only [rdI, if_pos]
  rw [h, rdInt_enc hn]
theorem rdT_fwd {s r : List UInt8} {a : Nat} {t : ByteArray} (ht : t.size ≤ 65536) (h : s.drop a = encS (bts t) ++ r) : rdT s (a, 0) = (t, (a + (encS (bts t)).length, 0)) := by
  simp only [rdT, if_pos]
  rw [h, rdStr_enc (by rw [bts_len]; exact ht)]
theorem rdMany_fwd {α : Type} {f : RS → α × RS} {e : α → List UInt8} {s : List UInt8} : ∀ (l : List α) (a : Nat) (r : List UInt8), (∀ x ∈ l, ∀ a r, s.drop a = e x ++ r → f (a, 0) = (x, (a + (e x).length, 0))) → s.drop a = l.flatMap e ++ r →
    rdMany f l.length (a, 0) = (l, (a + (l.flatMap e).length, 0))
  | [], a, r, hf, h => rfl
  | x :: t, a, r, hf, h => by
    rw [List.flatMap_cons, List.append_assoc] at h
    have h1 := hf x List.mem_cons_self a _ h
    have h2 := rdMany_fwd t (a + (e x).length) r (fun y hy => hf y (List.mem_cons_of_mem _ hy)) (drop_next h)
    rw [List.length_cons, rdMany, if_pos rfl, h1, h2, List.flatMap_cons, List.length_append, Nat.add_assoc]
theorem rdList_fwd {α : Type} {f : RS → α × RS} {e : α → List UInt8} {s : List UInt8} {l : List α} {a most : Nat} {r : List UInt8} (hl : l.length ≤ most) (hm : most ≤ 65536) (hf : ∀ x ∈ l, ∀ a r, s.drop a = e x ++ r → f (a, 0) = (x, (a + (e x).length, 0)))
    (h : s.drop a = Wire.enc (l.length : Int) ++ (l.flatMap e ++ r)) : rdList f s most (a, 0) = (l, (a + ((Wire.enc (l.length : Int)).length + (l.flatMap e).length), 0)) := by
  have h1 := rdI_fwd (okI (by omega)) h
  have h2 : rdCount s most (a, 0) = ((l.length : Int), (a + (Wire.enc (l.length : Int)).length, 0)) := by
    rw [rdCount, h1, if_neg (by simp only; omega)]
  rw [rdList, h2]
  simp only [Int.toNat_natCast]
  rw [rdMany_fwd l _ r hf (drop_next h), Nat.add_assoc]
theorem rdBlk_fwd {s r : List UInt8} {a : Nat} {b : Blk} (hb : b.Good) (h : s.drop a = b.enc ++ r) : rdBlk s (a, 0) = (b, (a + b.enc.length, 0)) := by
  have i1 := hb.id; have i2 := hb.kind; have i3 := hb.text; have i4 := hb.story; have i5 := hb.ref; have i6 := hb.unt; have i7 := hb.appr; have i8 := hb.den; have i9 := hb.len
  unfold Blk.enc at h
  simp only [List.append_assoc] at h
  have h1 := rdI_fwd (okI (by omega)) h; have d1 := drop_next h
  have h2 := rdI_fwd (okI (by omega)) d1; have d2 := drop_next d1
  have h3 := rdT_fwd (by omega) d2; have d3 := drop_next d2
  have h4 := rdI_fwd (okI (by omega)) d3; have d4 := drop_next d3
  have h5 := rdI_fwd (okI (by omega)) d4; have d5 := drop_next d4
  have h6 := rdI_fwd (okI (by omega)) d5; have d6 := drop_next d5
  have h7 := rdList_fwd (f := rdI s) (e := Wire.enc) (most := 64) (l := b.lab.after) (by omega) (by omega) (fun x hx a r h => rdI_fwd (okI (by have := hb.after x hx; omega)) h) d6
  have d7 := drop_next (drop_next d6)
  rw [Nat.add_assoc] at d7
  have h8 := rdI_fwd (okI (by omega)) d7; have d8 := drop_next d7
  have h9 := rdI_fwd (okI (by omega)) d8
  have q1 : rdB1 s (a, 0) = _ := h1
  have q2 : rdB2 s (a, 0) = _ := (congrArg (fun x : (Int) × RS => rdI s x.2) q1).trans h2
  have q3 : rdB3 s (a, 0) = _ := (congrArg (fun x : (Int) × RS => rdT s x.2) q2).trans h3
  have q4 : rdB4 s (a, 0) = _ := (congrArg (fun x : (ByteArray) × RS => rdI s x.2) q3).trans h4
  have q5 : rdB5 s (a, 0) = _ := (congrArg (fun x : (Int) × RS => rdI s x.2) q4).trans h5
  have q6 : rdB6 s (a, 0) = _ := (congrArg (fun x : (Int) × RS => rdI s x.2) q5).trans h6
  have q7 : rdB7 s (a, 0) = _ := (congrArg (fun x : (Int) × RS => rdList (rdI s) s 64 x.2) q6).trans h7
  have q8 : rdB8 s (a, 0) = _ := (congrArg (fun x : (List Int) × RS => rdI s x.2) q7).trans h8
  have q9 : rdB9 s (a, 0) = _ := (congrArg (fun x : (Int) × RS => rdI s x.2) q8).trans h9
  rw [rdBlk, q1, q2, q3, q4, q5, q6, q7, q8, q9]
  simp only [Prod.mk.injEq, and_true, true_and]
  unfold Blk.enc
  simp only [List.length_append]
  have : encIs b.lab.after = b.lab.after.flatMap Wire.enc := rfl
  omega
theorem decRun_fwd {l : List Blk} (h : listOk l = true) (r : List UInt8) : decRun (encL l ++ r) = (l, ((encL l).length, 0)) := by
  obtain ⟨h1, h2⟩ := listOk_all h
  have := rdList_fwd (f := rdBlk (encL l ++ r)) (e := Blk.enc) (s := encL l ++ r) (a := 0) (l := l) (most := 24) (r := r) h1 (by omega) (fun b hb a r h => rdBlk_fwd (Blk.good (h2 b hb)) h) (by rw [List.drop_zero, encL, encBs, List.append_assoc])
  rw [decRun]
  refine this.trans ?_
  rw [Nat.zero_add, encL, List.length_append]; rfl
theorem dec_enc {l : List Blk} (h : listOk l = true) : decSpec (encL l) = (l, 0) := by
  have := decRun_fwd h []
  rw [List.append_nil] at this
  rw [decSpec, this, if_neg (by simp), if_neg (by simp), if_pos h]
theorem dec_more {l : List Blk} (h : listOk l = true) {r : List UInt8} (hr : r ≠ []) : decSpec (encL l ++ r) = ([], 10) := by
  have h1 : 0 < r.length := List.length_pos_iff.2 hr
  rw [decSpec, decRun_fwd h, if_neg (by simp), if_pos (by simp only [List.length_append]; omega)]
end Go.Eng
namespace Go.Eng
open Go Go.RowKit Go.Proofs
set_option linter.unusedVariables false
set_option maxRecDepth 100000
noncomputable abbrev EngB15s17 := sub (Eng.body Tryd.f17)
abbrev EngB15b0 : ByteArray := ⟨#[99,105,116,121,45,104,97,108,108]⟩
abbrev EngB15b1 : ByteArray := ⟨#[73,116,32,114,97,105,110,101,100,46,32,32,73,116,32,115,116,111,112,112,101,100,46]⟩
theorem sane_vc  {R : Ending → World → Prop} {w0 W : World} (hm : Mem [] [] w0 W)
  (H :
   ∀ B : Nat,
   ∀ B1 : Nat,
   ∀ B2 : Nat,
   ∀ B3 : Nat,
   CallH Tryd.prog 27 ⟨[.slice (some ⟨B3, 0, none⟩) 3 3]⟩ [(B, .cells #[.int .i64 (7 : Int), .int .i64 (5 : Int), .string EngB15b0, .int .i64 (0 : Int), .int .i64 (0 : Int), .int .i64 (0 : Int), .slice none 0 0, .int .i64 (0 : Int), .int .i64 (0 : Int)] 26), (B1, .cells #[.int .i64 (7 : Int), .int .i64 (5 : Int), .string (⟨#[67,105,116,121]⟩), .int .i64 (0 : Int), .int .i64 (0 : Int), .int .i64 (0 : Int), .slice none 0 0, .int .i64 (0 : Int), .int .i64 (0 : Int)] 26), (B2, .cells #[.int .i64 (7 : Int), .int .i64 (3 : Int), .string (⟨#[]⟩), .int .i64 (3 : Int), .int .i64 (0 : Int), .int .i64 (0 : Int), .slice none 0 0, .int .i64 (0 : Int), .int .i64 (0 : Int)] 26), (B3, .cells #[.int .i64 (1 : Int), .int .i64 (1 : Int), .string (⟨#[82,97,105,110]⟩), .int .i64 (0 : Int), .int .i64 (0 : Int), .int .i64 (0 : Int), .slice none 0 0, .int .i64 (0 : Int), .int .i64 (0 : Int), .int .i64 (2 : Int), .int .i64 (2 : Int), .string EngB15b1, .int .i64 (0 : Int), .int .i64 (0 : Int), .int .i64 (0 : Int), .slice none 0 0, .int .i64 (0 : Int), .int .i64 (0 : Int), .int .i64 (9 : Int), .int .i64 (5 : Int), .string (⟨#[114,97,105,110]⟩), .int .i64 (0 : Int), .int .i64 (0 : Int), .int .i64 (0 : Int), .slice none 0 0, .int .i64 (0 : Int), .int .i64 (0 : Int)] 26)] [] w0 (fun v L' => ∃ (r1 : ByteArray) (r21 : Int), v = (.tuple #[.string r1, .int .i64 r21]) ∧ L' = [(B, .cells #[.int .i64 (7 : Int), .int .i64 (5 : Int), .string EngB15b0, .int .i64 (0 : Int), .int .i64 (0 : Int), .int .i64 (0 : Int), .slice none 0 0, .int .i64 (0 : Int), .int .i64 (0 : Int)] 26), (B1, .cells #[.int .i64 (7 : Int), .int .i64 (5 : Int), .string (⟨#[67,105,116,121]⟩), .int .i64 (0 : Int), .int .i64 (0 : Int), .int .i64 (0 : Int), .slice none 0 0, .int .i64 (0 : Int), .int .i64 (0 : Int)] 26), (B2, .cells #[.int .i64 (7 : Int), .int .i64 (3 : Int), .string (⟨#[]⟩), .int .i64 (3 : Int), .int .i64 (0 : Int), .int .i64 (0 : Int), .slice none 0 0, .int .i64 (0 : Int), .int .i64 (0 : Int)] 26), (B3, .cells #[.int .i64 (1 : Int), .int .i64 (1 : Int), .string (⟨#[82,97,105,110]⟩), .int .i64 (0 : Int), .int .i64 (0 : Int), .int .i64 (0 : Int), .slice none 0 0, .int .i64 (0 : Int), .int .i64 (0 : Int), .int .i64 (2 : Int), .int .i64 (2 : Int), .string EngB15b1, .int .i64 (0 : Int), .int .i64 (0 : Int), .int .i64 (0 : Int), .slice none 0 0, .int .i64 (0 : Int), .int .i64 (0 : Int), .int .i64 (9 : Int), .int .i64 (5 : Int), .string (⟨#[114,97,105,110]⟩), .int .i64 (0 : Int), .int .i64 (0 : Int), .int .i64 (0 : Int), .slice none 0 0, .int .i64 (0 : Int), .int .i64 (0 : Int)] 26)] ∧
    ∀ B4 : Nat,
    ∃ (r31 : ByteArray) (r41 : Int), (QCallB Tryd.prog 27 ⟨[.slice (some ⟨B4, 0, none⟩) 2 2]⟩ [(B, .cells #[.int .i64 (7 : Int), .int .i64 (5 : Int), .string EngB15b0, .int .i64 (0 : Int), .int .i64 (0 : Int), .int .i64 (0 : Int), .slice none 0 0, .int .i64 (0 : Int), .int .i64 (0 : Int)] 26), (B1, .cells #[.int .i64 (7 : Int), .int .i64 (5 : Int), .string (⟨#[67,105,116,121]⟩), .int .i64 (0 : Int), .int .i64 (0 : Int), .int .i64 (0 : Int), .slice none 0 0, .int .i64 (0 : Int), .int .i64 (0 : Int)] 26), (B2, .cells #[.int .i64 (7 : Int), .int .i64 (3 : Int), .string (⟨#[]⟩), .int .i64 (3 : Int), .int .i64 (0 : Int), .int .i64 (0 : Int), .slice none 0 0, .int .i64 (0 : Int), .int .i64 (0 : Int)] 26), (B3, .cells #[.int .i64 (1 : Int), .int .i64 (1 : Int), .string (⟨#[82,97,105,110]⟩), .int .i64 (0 : Int), .int .i64 (0 : Int), .int .i64 (0 : Int), .slice none 0 0, .int .i64 (0 : Int), .int .i64 (0 : Int), .int .i64 (2 : Int), .int .i64 (2 : Int), .string EngB15b1, .int .i64 (0 : Int), .int .i64 (0 : Int), .int .i64 (0 : Int), .slice none 0 0, .int .i64 (0 : Int), .int .i64 (0 : Int), .int .i64 (9 : Int), .int .i64 (5 : Int), .string (⟨#[114,97,105,110]⟩), .int .i64 (0 : Int), .int .i64 (0 : Int), .int .i64 (0 : Int), .slice none 0 0, .int .i64 (0 : Int), .int .i64 (0 : Int)] 26), (B4, .cells #[.int .i64 (1 : Int), .int .i64 (1 : Int), .string (⟨#[82,97,105,110]⟩), .int .i64 (0 : Int), .int .i64 (0 : Int), .int .i64 (0 : Int), .slice none 0 0, .int .i64 (0 : Int), .int .i64 (0 : Int), .int .i64 (1 : Int), .int .i64 (1 : Int), .string (⟨#[82,97,105,110]⟩), .int .i64 (0 : Int), .int .i64 (0 : Int), .int .i64 (0 : Int), .slice none 0 0, .int .i64 (0 : Int), .int .i64 (0 : Int)] 26)] [] w0 (.tuple #[.string r31, .int .i64 r41])) ∧
    CallH Tryd.prog 29 ⟨[.string r1]⟩ [(B, .cells #[.int .i64 (7 : Int), .int .i64 (5 : Int), .string EngB15b0, .int .i64 (0 : Int), .int .i64 (0 : Int), .int .i64 (0 : Int), .slice none 0 0, .int .i64 (0 : Int), .int .i64 (0 : Int)] 26), (B1, .cells #[.int .i64 (7 : Int), .int .i64 (5 : Int), .string (⟨#[67,105,116,121]⟩), .int .i64 (0 : Int), .int .i64 (0 : Int), .int .i64 (0 : Int), .slice none 0 0, .int .i64 (0 : Int), .int .i64 (0 : Int)] 26), (B2, .cells #[.int .i64 (7 : Int), .int .i64 (3 : Int), .string (⟨#[]⟩), .int .i64 (3 : Int), .int .i64 (0 : Int), .int .i64 (0 : Int), .slice none 0 0, .int .i64 (0 : Int), .int .i64 (0 : Int)] 26), (B3, .cells #[.int .i64 (1 : Int), .int .i64 (1 : Int), .string (⟨#[82,97,105,110]⟩), .int .i64 (0 : Int), .int .i64 (0 : Int), .int .i64 (0 : Int), .slice none 0 0, .int .i64 (0 : Int), .int .i64 (0 : Int), .int .i64 (2 : Int), .int .i64 (2 : Int), .string EngB15b1, .int .i64 (0 : Int), .int .i64 (0 : Int), .int .i64 (0 : Int), .slice none 0 0, .int .i64 (0 : Int), .int .i64 (0 : Int), .int .i64 (9 : Int), .int .i64 (5 : Int), .string (⟨#[114,97,105,110]⟩), .int .i64 (0 : Int), .int .i64 (0 : Int), .int .i64 (0 : Int), .slice none 0 0, .int .i64 (0 : Int), .int .i64 (0 : Int)] 26), (B4, .cells #[.int .i64 (1 : Int), .int .i64 (1 : Int), .string (⟨#[82,97,105,110]⟩), .int .i64 (0 : Int), .int .i64 (0 : Int), .int .i64 (0 : Int), .slice none 0 0, .int .i64 (0 : Int), .int .i64 (0 : Int), .int .i64 (1 : Int), .int .i64 (1 : Int), .string (⟨#[82,97,105,110]⟩), .int .i64 (0 : Int), .int .i64 (0 : Int), .int .i64 (0 : Int), .slice none 0 0, .int .i64 (0 : Int), .int .i64 (0 : Int)] 26)] [] w0 (fun v L' => ∃ (r51_p : Option Addr) (r51_l : Nat) (r51_c : Nat) (r61 : Int) (F : SHeap), v = (.tuple #[.slice r51_p r51_l r51_c, .int .i64 r61]) ∧ L' = ((B, .cells #[.int .i64 (7 : Int), .int .i64 (5 : Int), .string EngB15b0, .int .i64 (0 : Int), .int .i64 (0 : Int), .int .i64 (0 : Int), .slice none 0 0, .int .i64 (0 : Int), .int .i64 (0 : Int)] 26) :: (B1, .cells #[.int .i64 (7 : Int), .int .i64 (5 : Int), .string (⟨#[67,105,116,121]⟩), .int .i64 (0 : Int), .int .i64 (0 : Int), .int .i64 (0 : Int), .slice none 0 0, .int .i64 (0 : Int), .int .i64 (0 : Int)] 26) :: (B2, .cells #[.int .i64 (7 : Int), .int .i64 (3 : Int), .string (⟨#[]⟩), .int .i64 (3 : Int), .int .i64 (0 : Int), .int .i64 (0 : Int), .slice none 0 0, .int .i64 (0 : Int), .int .i64 (0 : Int)] 26) :: (B3, .cells #[.int .i64 (1 : Int), .int .i64 (1 : Int), .string (⟨#[82,97,105,110]⟩), .int .i64 (0 : Int), .int .i64 (0 : Int), .int .i64 (0 : Int), .slice none 0 0, .int .i64 (0 : Int), .int .i64 (0 : Int), .int .i64 (2 : Int), .int .i64 (2 : Int), .string EngB15b1, .int .i64 (0 : Int), .int .i64 (0 : Int), .int .i64 (0 : Int), .slice none 0 0, .int .i64 (0 : Int), .int .i64 (0 : Int), .int .i64 (9 : Int), .int .i64 (5 : Int), .string (⟨#[114,97,105,110]⟩), .int .i64 (0 : Int), .int .i64 (0 : Int), .int .i64 (0 : Int), .slice none 0 0, .int .i64 (0 : Int), .int .i64 (0 : Int)] 26) :: (B4, .cells #[.int .i64 (1 : Int), .int .i64 (1 : Int), .string (⟨#[82,97,105,110]⟩), .int .i64 (0 : Int), .int .i64 (0 : Int), .int .i64 (0 : Int), .slice none 0 0, .int .i64 (0 : Int), .int .i64 (0 : Int), .int .i64 (1 : Int), .int .i64 (1 : Int), .string (⟨#[82,97,105,110]⟩), .int .i64 (0 : Int), .int .i64 (0 : Int), .int .i64 (0 : Int), .slice none 0 0, .int .i64 (0 : Int), .int .i64 (0 : Int)] 26) :: F) ∧
     (r1.size + (⟨#[120]⟩ : ByteArray).size ≤ 9223372036854775807) ∧
     CallH Tryd.prog 29 ⟨[.string (r1 ++ (⟨#[120]⟩ : ByteArray))]⟩ ((B, .cells #[.int .i64 (7 : Int), .int .i64 (5 : Int), .string EngB15b0, .int .i64 (0 : Int), .int .i64 (0 : Int), .int .i64 (0 : Int), .slice none 0 0, .int .i64 (0 : Int), .int .i64 (0 : Int)] 26) :: (B1, .cells #[.int .i64 (7 : Int), .int .i64 (5 : Int), .string (⟨#[67,105,116,121]⟩), .int .i64 (0 : Int), .int .i64 (0 : Int), .int .i64 (0 : Int), .slice none 0 0, .int .i64 (0 : Int), .int .i64 (0 : Int)] 26) :: (B2, .cells #[.int .i64 (7 : Int), .int .i64 (3 : Int), .string (⟨#[]⟩), .int .i64 (3 : Int), .int .i64 (0 : Int), .int .i64 (0 : Int), .slice none 0 0, .int .i64 (0 : Int), .int .i64 (0 : Int)] 26) :: (B3, .cells #[.int .i64 (1 : Int), .int .i64 (1 : Int), .string (⟨#[82,97,105,110]⟩), .int .i64 (0 : Int), .int .i64 (0 : Int), .int .i64 (0 : Int), .slice none 0 0, .int .i64 (0 : Int), .int .i64 (0 : Int), .int .i64 (2 : Int), .int .i64 (2 : Int), .string EngB15b1, .int .i64 (0 : Int), .int .i64 (0 : Int), .int .i64 (0 : Int), .slice none 0 0, .int .i64 (0 : Int), .int .i64 (0 : Int), .int .i64 (9 : Int), .int .i64 (5 : Int), .string (⟨#[114,97,105,110]⟩), .int .i64 (0 : Int), .int .i64 (0 : Int), .int .i64 (0 : Int), .slice none 0 0, .int .i64 (0 : Int), .int .i64 (0 : Int)] 26) :: (B4, .cells #[.int .i64 (1 : Int), .int .i64 (1 : Int), .string (⟨#[82,97,105,110]⟩), .int .i64 (0 : Int), .int .i64 (0 : Int), .int .i64 (0 : Int), .slice none 0 0, .int .i64 (0 : Int), .int .i64 (0 : Int), .int .i64 (1 : Int), .int .i64 (1 : Int), .string (⟨#[82,97,105,110]⟩), .int .i64 (0 : Int), .int .i64 (0 : Int), .int .i64 (0 : Int), .slice none 0 0, .int .i64 (0 : Int), .int .i64 (0 : Int)] 26) :: F) [] w0 (fun v L' => ∃ (r71_p : Option Addr) (r71_l : Nat) (r71_c : Nat) (r81 : Int) (F1 : SHeap), v = (.tuple #[.slice r71_p r71_l r71_c, .int .i64 r81]) ∧ L' = ((B, .cells #[.int .i64 (7 : Int), .int .i64 (5 : Int), .string EngB15b0, .int .i64 (0 : Int), .int .i64 (0 : Int), .int .i64 (0 : Int), .slice none 0 0, .int .i64 (0 : Int), .int .i64 (0 : Int)] 26) :: (B1, .cells #[.int .i64 (7 : Int), .int .i64 (5 : Int), .string (⟨#[67,105,116,121]⟩), .int .i64 (0 : Int), .int .i64 (0 : Int), .int .i64 (0 : Int), .slice none 0 0, .int .i64 (0 : Int), .int .i64 (0 : Int)] 26) :: (B2, .cells #[.int .i64 (7 : Int), .int .i64 (3 : Int), .string (⟨#[]⟩), .int .i64 (3 : Int), .int .i64 (0 : Int), .int .i64 (0 : Int), .slice none 0 0, .int .i64 (0 : Int), .int .i64 (0 : Int)] 26) :: (B3, .cells #[.int .i64 (1 : Int), .int .i64 (1 : Int), .string (⟨#[82,97,105,110]⟩), .int .i64 (0 : Int), .int .i64 (0 : Int), .int .i64 (0 : Int), .slice none 0 0, .int .i64 (0 : Int), .int .i64 (0 : Int), .int .i64 (2 : Int), .int .i64 (2 : Int), .string EngB15b1, .int .i64 (0 : Int), .int .i64 (0 : Int), .int .i64 (0 : Int), .slice none 0 0, .int .i64 (0 : Int), .int .i64 (0 : Int), .int .i64 (9 : Int), .int .i64 (5 : Int), .string (⟨#[114,97,105,110]⟩), .int .i64 (0 : Int), .int .i64 (0 : Int), .int .i64 (0 : Int), .slice none 0 0, .int .i64 (0 : Int), .int .i64 (0 : Int)] 26) :: (B4, .cells #[.int .i64 (1 : Int), .int .i64 (1 : Int), .string (⟨#[82,97,105,110]⟩), .int .i64 (0 : Int), .int .i64 (0 : Int), .int .i64 (0 : Int), .slice none 0 0, .int .i64 (0 : Int), .int .i64 (0 : Int), .int .i64 (1 : Int), .int .i64 (1 : Int), .string (⟨#[82,97,105,110]⟩), .int .i64 (0 : Int), .int .i64 (0 : Int), .int .i64 (0 : Int), .slice none 0 0, .int .i64 (0 : Int), .int .i64 (0 : Int)] 26) :: F1) ∧
      CallH Tryd.prog 32 ⟨[.string (⟨#[68,114,46,32,74,46,32,83,109,105,116,104,32,32,119,111,110,46,32,32,82,101,97,108,108,121,63,33,32,65,116,32,51,46,53,32,116,111,32,49]⟩)]⟩ ((B, .cells #[.int .i64 (7 : Int), .int .i64 (5 : Int), .string EngB15b0, .int .i64 (0 : Int), .int .i64 (0 : Int), .int .i64 (0 : Int), .slice none 0 0, .int .i64 (0 : Int), .int .i64 (0 : Int)] 26) :: (B1, .cells #[.int .i64 (7 : Int), .int .i64 (5 : Int), .string (⟨#[67,105,116,121]⟩), .int .i64 (0 : Int), .int .i64 (0 : Int), .int .i64 (0 : Int), .slice none 0 0, .int .i64 (0 : Int), .int .i64 (0 : Int)] 26) :: (B2, .cells #[.int .i64 (7 : Int), .int .i64 (3 : Int), .string (⟨#[]⟩), .int .i64 (3 : Int), .int .i64 (0 : Int), .int .i64 (0 : Int), .slice none 0 0, .int .i64 (0 : Int), .int .i64 (0 : Int)] 26) :: (B3, .cells #[.int .i64 (1 : Int), .int .i64 (1 : Int), .string (⟨#[82,97,105,110]⟩), .int .i64 (0 : Int), .int .i64 (0 : Int), .int .i64 (0 : Int), .slice none 0 0, .int .i64 (0 : Int), .int .i64 (0 : Int), .int .i64 (2 : Int), .int .i64 (2 : Int), .string EngB15b1, .int .i64 (0 : Int), .int .i64 (0 : Int), .int .i64 (0 : Int), .slice none 0 0, .int .i64 (0 : Int), .int .i64 (0 : Int), .int .i64 (9 : Int), .int .i64 (5 : Int), .string (⟨#[114,97,105,110]⟩), .int .i64 (0 : Int), .int .i64 (0 : Int), .int .i64 (0 : Int), .slice none 0 0, .int .i64 (0 : Int), .int .i64 (0 : Int)] 26) :: (B4, .cells #[.int .i64 (1 : Int), .int .i64 (1 : Int), .string (⟨#[82,97,105,110]⟩), .int .i64 (0 : Int), .int .i64 (0 : Int), .int .i64 (0 : Int), .slice none 0 0, .int .i64 (0 : Int), .int .i64 (0 : Int), .int .i64 (1 : Int), .int .i64 (1 : Int), .string (⟨#[82,97,105,110]⟩), .int .i64 (0 : Int), .int .i64 (0 : Int), .int .i64 (0 : Int), .slice none 0 0, .int .i64 (0 : Int), .int .i64 (0 : Int)] 26) :: F1) [] w0 (fun v L' => ∃ (r91_p : Option Addr) (r91_l : Nat) (r91_c : Nat) (F2 : SHeap), v = (.slice r91_p r91_l r91_c) ∧ L' = ((B, .cells #[.int .i64 (7 : Int), .int .i64 (5 : Int), .string EngB15b0, .int .i64 (0 : Int), .int .i64 (0 : Int), .int .i64 (0 : Int), .slice none 0 0, .int .i64 (0 : Int), .int .i64 (0 : Int)] 26) :: (B1, .cells #[.int .i64 (7 : Int), .int .i64 (5 : Int), .string (⟨#[67,105,116,121]⟩), .int .i64 (0 : Int), .int .i64 (0 : Int), .int .i64 (0 : Int), .slice none 0 0, .int .i64 (0 : Int), .int .i64 (0 : Int)] 26) :: (B2, .cells #[.int .i64 (7 : Int), .int .i64 (3 : Int), .string (⟨#[]⟩), .int .i64 (3 : Int), .int .i64 (0 : Int), .int .i64 (0 : Int), .slice none 0 0, .int .i64 (0 : Int), .int .i64 (0 : Int)] 26) :: (B3, .cells #[.int .i64 (1 : Int), .int .i64 (1 : Int), .string (⟨#[82,97,105,110]⟩), .int .i64 (0 : Int), .int .i64 (0 : Int), .int .i64 (0 : Int), .slice none 0 0, .int .i64 (0 : Int), .int .i64 (0 : Int), .int .i64 (2 : Int), .int .i64 (2 : Int), .string EngB15b1, .int .i64 (0 : Int), .int .i64 (0 : Int), .int .i64 (0 : Int), .slice none 0 0, .int .i64 (0 : Int), .int .i64 (0 : Int), .int .i64 (9 : Int), .int .i64 (5 : Int), .string (⟨#[114,97,105,110]⟩), .int .i64 (0 : Int), .int .i64 (0 : Int), .int .i64 (0 : Int), .slice none 0 0, .int .i64 (0 : Int), .int .i64 (0 : Int)] 26) :: (B4, .cells #[.int .i64 (1 : Int), .int .i64 (1 : Int), .string (⟨#[82,97,105,110]⟩), .int .i64 (0 : Int), .int .i64 (0 : Int), .int .i64 (0 : Int), .slice none 0 0, .int .i64 (0 : Int), .int .i64 (0 : Int), .int .i64 (1 : Int), .int .i64 (1 : Int), .string (⟨#[82,97,105,110]⟩), .int .i64 (0 : Int), .int .i64 (0 : Int), .int .i64 (0 : Int), .slice none 0 0, .int .i64 (0 : Int), .int .i64 (0 : Int)] 26) :: F2) ∧
       CallH Tryd.prog 19 ⟨[.agg #[.int .i64 (7 : Int), .int .i64 (5 : Int), .string EngB15b0, .int .i64 (0 : Int), .int .i64 (0 : Int), .int .i64 (0 : Int), .slice none 0 0, .int .i64 (0 : Int), .int .i64 (0 : Int)]]⟩ ((B, .cells #[.int .i64 (7 : Int), .int .i64 (5 : Int), .string EngB15b0, .int .i64 (0 : Int), .int .i64 (0 : Int), .int .i64 (0 : Int), .slice none 0 0, .int .i64 (0 : Int), .int .i64 (0 : Int)] 26) :: (B1, .cells #[.int .i64 (7 : Int), .int .i64 (5 : Int), .string (⟨#[67,105,116,121]⟩), .int .i64 (0 : Int), .int .i64 (0 : Int), .int .i64 (0 : Int), .slice none 0 0, .int .i64 (0 : Int), .int .i64 (0 : Int)] 26) :: (B2, .cells #[.int .i64 (7 : Int), .int .i64 (3 : Int), .string (⟨#[]⟩), .int .i64 (3 : Int), .int .i64 (0 : Int), .int .i64 (0 : Int), .slice none 0 0, .int .i64 (0 : Int), .int .i64 (0 : Int)] 26) :: (B3, .cells #[.int .i64 (1 : Int), .int .i64 (1 : Int), .string (⟨#[82,97,105,110]⟩), .int .i64 (0 : Int), .int .i64 (0 : Int), .int .i64 (0 : Int), .slice none 0 0, .int .i64 (0 : Int), .int .i64 (0 : Int), .int .i64 (2 : Int), .int .i64 (2 : Int), .string EngB15b1, .int .i64 (0 : Int), .int .i64 (0 : Int), .int .i64 (0 : Int), .slice none 0 0, .int .i64 (0 : Int), .int .i64 (0 : Int), .int .i64 (9 : Int), .int .i64 (5 : Int), .string (⟨#[114,97,105,110]⟩), .int .i64 (0 : Int), .int .i64 (0 : Int), .int .i64 (0 : Int), .slice none 0 0, .int .i64 (0 : Int), .int .i64 (0 : Int)] 26) :: (B4, .cells #[.int .i64 (1 : Int), .int .i64 (1 : Int), .string (⟨#[82,97,105,110]⟩), .int .i64 (0 : Int), .int .i64 (0 : Int), .int .i64 (0 : Int), .slice none 0 0, .int .i64 (0 : Int), .int .i64 (0 : Int), .int .i64 (1 : Int), .int .i64 (1 : Int), .string (⟨#[82,97,105,110]⟩), .int .i64 (0 : Int), .int .i64 (0 : Int), .int .i64 (0 : Int), .slice none 0 0, .int .i64 (0 : Int), .int .i64 (0 : Int)] 26) :: F2) [] w0 (fun v L' => ∃ (r101 : Bool), v = (.bool r101) ∧ L' = ((B, .cells #[.int .i64 (7 : Int), .int .i64 (5 : Int), .string EngB15b0, .int .i64 (0 : Int), .int .i64 (0 : Int), .int .i64 (0 : Int), .slice none 0 0, .int .i64 (0 : Int), .int .i64 (0 : Int)] 26) :: (B1, .cells #[.int .i64 (7 : Int), .int .i64 (5 : Int), .string (⟨#[67,105,116,121]⟩), .int .i64 (0 : Int), .int .i64 (0 : Int), .int .i64 (0 : Int), .slice none 0 0, .int .i64 (0 : Int), .int .i64 (0 : Int)] 26) :: (B2, .cells #[.int .i64 (7 : Int), .int .i64 (3 : Int), .string (⟨#[]⟩), .int .i64 (3 : Int), .int .i64 (0 : Int), .int .i64 (0 : Int), .slice none 0 0, .int .i64 (0 : Int), .int .i64 (0 : Int)] 26) :: (B3, .cells #[.int .i64 (1 : Int), .int .i64 (1 : Int), .string (⟨#[82,97,105,110]⟩), .int .i64 (0 : Int), .int .i64 (0 : Int), .int .i64 (0 : Int), .slice none 0 0, .int .i64 (0 : Int), .int .i64 (0 : Int), .int .i64 (2 : Int), .int .i64 (2 : Int), .string EngB15b1, .int .i64 (0 : Int), .int .i64 (0 : Int), .int .i64 (0 : Int), .slice none 0 0, .int .i64 (0 : Int), .int .i64 (0 : Int), .int .i64 (9 : Int), .int .i64 (5 : Int), .string (⟨#[114,97,105,110]⟩), .int .i64 (0 : Int), .int .i64 (0 : Int), .int .i64 (0 : Int), .slice none 0 0, .int .i64 (0 : Int), .int .i64 (0 : Int)] 26) :: (B4, .cells #[.int .i64 (1 : Int), .int .i64 (1 : Int), .string (⟨#[82,97,105,110]⟩), .int .i64 (0 : Int), .int .i64 (0 : Int), .int .i64 (0 : Int), .slice none 0 0, .int .i64 (0 : Int), .int .i64 (0 : Int), .int .i64 (1 : Int), .int .i64 (1 : Int), .string (⟨#[82,97,105,110]⟩), .int .i64 (0 : Int), .int .i64 (0 : Int), .int .i64 (0 : Int), .slice none 0 0, .int .i64 (0 : Int), .int .i64 (0 : Int)] 26) :: F2) ∧
        ((r101 = true) →
         CallH Tryd.prog 19 ⟨[.agg #[.int .i64 (7 : Int), .int .i64 (5 : Int), .string (⟨#[67,105,116,121]⟩), .int .i64 (0 : Int), .int .i64 (0 : Int), .int .i64 (0 : Int), .slice none 0 0, .int .i64 (0 : Int), .int .i64 (0 : Int)]]⟩ ((B, .cells #[.int .i64 (7 : Int), .int .i64 (5 : Int), .string EngB15b0, .int .i64 (0 : Int), .int .i64 (0 : Int), .int .i64 (0 : Int), .slice none 0 0, .int .i64 (0 : Int), .int .i64 (0 : Int)] 26) :: (B1, .cells #[.int .i64 (7 : Int), .int .i64 (5 : Int), .string (⟨#[67,105,116,121]⟩), .int .i64 (0 : Int), .int .i64 (0 : Int), .int .i64 (0 : Int), .slice none 0 0, .int .i64 (0 : Int), .int .i64 (0 : Int)] 26) :: (B2, .cells #[.int .i64 (7 : Int), .int .i64 (3 : Int), .string (⟨#[]⟩), .int .i64 (3 : Int), .int .i64 (0 : Int), .int .i64 (0 : Int), .slice none 0 0, .int .i64 (0 : Int), .int .i64 (0 : Int)] 26) :: (B3, .cells #[.int .i64 (1 : Int), .int .i64 (1 : Int), .string (⟨#[82,97,105,110]⟩), .int .i64 (0 : Int), .int .i64 (0 : Int), .int .i64 (0 : Int), .slice none 0 0, .int .i64 (0 : Int), .int .i64 (0 : Int), .int .i64 (2 : Int), .int .i64 (2 : Int), .string EngB15b1, .int .i64 (0 : Int), .int .i64 (0 : Int), .int .i64 (0 : Int), .slice none 0 0, .int .i64 (0 : Int), .int .i64 (0 : Int), .int .i64 (9 : Int), .int .i64 (5 : Int), .string (⟨#[114,97,105,110]⟩), .int .i64 (0 : Int), .int .i64 (0 : Int), .int .i64 (0 : Int), .slice none 0 0, .int .i64 (0 : Int), .int .i64 (0 : Int)] 26) :: (B4, .cells #[.int .i64 (1 : Int), .int .i64 (1 : Int), .string (⟨#[82,97,105,110]⟩), .int .i64 (0 : Int), .int .i64 (0 : Int), .int .i64 (0 : Int), .slice none 0 0, .int .i64 (0 : Int), .int .i64 (0 : Int), .int .i64 (1 : Int), .int .i64 (1 : Int), .string (⟨#[82,97,105,110]⟩), .int .i64 (0 : Int), .int .i64 (0 : Int), .int .i64 (0 : Int), .slice none 0 0, .int .i64 (0 : Int), .int .i64 (0 : Int)] 26) :: F2) [] w0 (fun v L' => ∃ (r111 : Bool), v = (.bool r111) ∧ L' = ((B, .cells #[.int .i64 (7 : Int), .int .i64 (5 : Int), .string EngB15b0, .int .i64 (0 : Int), .int .i64 (0 : Int), .int .i64 (0 : Int), .slice none 0 0, .int .i64 (0 : Int), .int .i64 (0 : Int)] 26) :: (B1, .cells #[.int .i64 (7 : Int), .int .i64 (5 : Int), .string (⟨#[67,105,116,121]⟩), .int .i64 (0 : Int), .int .i64 (0 : Int), .int .i64 (0 : Int), .slice none 0 0, .int .i64 (0 : Int), .int .i64 (0 : Int)] 26) :: (B2, .cells #[.int .i64 (7 : Int), .int .i64 (3 : Int), .string (⟨#[]⟩), .int .i64 (3 : Int), .int .i64 (0 : Int), .int .i64 (0 : Int), .slice none 0 0, .int .i64 (0 : Int), .int .i64 (0 : Int)] 26) :: (B3, .cells #[.int .i64 (1 : Int), .int .i64 (1 : Int), .string (⟨#[82,97,105,110]⟩), .int .i64 (0 : Int), .int .i64 (0 : Int), .int .i64 (0 : Int), .slice none 0 0, .int .i64 (0 : Int), .int .i64 (0 : Int), .int .i64 (2 : Int), .int .i64 (2 : Int), .string EngB15b1, .int .i64 (0 : Int), .int .i64 (0 : Int), .int .i64 (0 : Int), .slice none 0 0, .int .i64 (0 : Int), .int .i64 (0 : Int), .int .i64 (9 : Int), .int .i64 (5 : Int), .string (⟨#[114,97,105,110]⟩), .int .i64 (0 : Int), .int .i64 (0 : Int), .int .i64 (0 : Int), .slice none 0 0, .int .i64 (0 : Int), .int .i64 (0 : Int)] 26) :: (B4, .cells #[.int .i64 (1 : Int), .int .i64 (1 : Int), .string (⟨#[82,97,105,110]⟩), .int .i64 (0 : Int), .int .i64 (0 : Int), .int .i64 (0 : Int), .slice none 0 0, .int .i64 (0 : Int), .int .i64 (0 : Int), .int .i64 (1 : Int), .int .i64 (1 : Int), .string (⟨#[82,97,105,110]⟩), .int .i64 (0 : Int), .int .i64 (0 : Int), .int .i64 (0 : Int), .slice none 0 0, .int .i64 (0 : Int), .int .i64 (0 : Int)] 26) :: F2) ∧
          ((r111 = true) →
           Fin R ((B, .cells #[.int .i64 (7 : Int), .int .i64 (5 : Int), .string EngB15b0, .int .i64 (0 : Int), .int .i64 (0 : Int), .int .i64 (0 : Int), .slice none 0 0, .int .i64 (0 : Int), .int .i64 (0 : Int)] 26) :: (B1, .cells #[.int .i64 (7 : Int), .int .i64 (5 : Int), .string (⟨#[67,105,116,121]⟩), .int .i64 (0 : Int), .int .i64 (0 : Int), .int .i64 (0 : Int), .slice none 0 0, .int .i64 (0 : Int), .int .i64 (0 : Int)] 26) :: (B2, .cells #[.int .i64 (7 : Int), .int .i64 (3 : Int), .string (⟨#[]⟩), .int .i64 (3 : Int), .int .i64 (0 : Int), .int .i64 (0 : Int), .slice none 0 0, .int .i64 (0 : Int), .int .i64 (0 : Int)] 26) :: (B3, .cells #[.int .i64 (1 : Int), .int .i64 (1 : Int), .string (⟨#[82,97,105,110]⟩), .int .i64 (0 : Int), .int .i64 (0 : Int), .int .i64 (0 : Int), .slice none 0 0, .int .i64 (0 : Int), .int .i64 (0 : Int), .int .i64 (2 : Int), .int .i64 (2 : Int), .string EngB15b1, .int .i64 (0 : Int), .int .i64 (0 : Int), .int .i64 (0 : Int), .slice none 0 0, .int .i64 (0 : Int), .int .i64 (0 : Int), .int .i64 (9 : Int), .int .i64 (5 : Int), .string (⟨#[114,97,105,110]⟩), .int .i64 (0 : Int), .int .i64 (0 : Int), .int .i64 (0 : Int), .slice none 0 0, .int .i64 (0 : Int), .int .i64 (0 : Int)] 26) :: (B4, .cells #[.int .i64 (1 : Int), .int .i64 (1 : Int), .string (⟨#[82,97,105,110]⟩), .int .i64 (0 : Int), .int .i64 (0 : Int), .int .i64 (0 : Int), .slice none 0 0, .int .i64 (0 : Int), .int .i64 (0 : Int), .int .i64 (1 : Int), .int .i64 (1 : Int), .string (⟨#[82,97,105,110]⟩), .int .i64 (0 : Int), .int .i64 (0 : Int), .int .i64 (0 : Int), .slice none 0 0, .int .i64 (0 : Int), .int .i64 (0 : Int)] 26) :: F2) [] w0 (.bool false)) ∧
           ((r111 = false) →
           CallH Tryd.prog 19 ⟨[.agg #[.int .i64 (7 : Int), .int .i64 (3 : Int), .string (⟨#[]⟩), .int .i64 (3 : Int), .int .i64 (0 : Int), .int .i64 (0 : Int), .slice none 0 0, .int .i64 (0 : Int), .int .i64 (0 : Int)]]⟩ ((B, .cells #[.int .i64 (7 : Int), .int .i64 (5 : Int), .string EngB15b0, .int .i64 (0 : Int), .int .i64 (0 : Int), .int .i64 (0 : Int), .slice none 0 0, .int .i64 (0 : Int), .int .i64 (0 : Int)] 26) :: (B1, .cells #[.int .i64 (7 : Int), .int .i64 (5 : Int), .string (⟨#[67,105,116,121]⟩), .int .i64 (0 : Int), .int .i64 (0 : Int), .int .i64 (0 : Int), .slice none 0 0, .int .i64 (0 : Int), .int .i64 (0 : Int)] 26) :: (B2, .cells #[.int .i64 (7 : Int), .int .i64 (3 : Int), .string (⟨#[]⟩), .int .i64 (3 : Int), .int .i64 (0 : Int), .int .i64 (0 : Int), .slice none 0 0, .int .i64 (0 : Int), .int .i64 (0 : Int)] 26) :: (B3, .cells #[.int .i64 (1 : Int), .int .i64 (1 : Int), .string (⟨#[82,97,105,110]⟩), .int .i64 (0 : Int), .int .i64 (0 : Int), .int .i64 (0 : Int), .slice none 0 0, .int .i64 (0 : Int), .int .i64 (0 : Int), .int .i64 (2 : Int), .int .i64 (2 : Int), .string EngB15b1, .int .i64 (0 : Int), .int .i64 (0 : Int), .int .i64 (0 : Int), .slice none 0 0, .int .i64 (0 : Int), .int .i64 (0 : Int), .int .i64 (9 : Int), .int .i64 (5 : Int), .string (⟨#[114,97,105,110]⟩), .int .i64 (0 : Int), .int .i64 (0 : Int), .int .i64 (0 : Int), .slice none 0 0, .int .i64 (0 : Int), .int .i64 (0 : Int)] 26) :: (B4, .cells #[.int .i64 (1 : Int), .int .i64 (1 : Int), .string (⟨#[82,97,105,110]⟩), .int .i64 (0 : Int), .int .i64 (0 : Int), .int .i64 (0 : Int), .slice none 0 0, .int .i64 (0 : Int), .int .i64 (0 : Int), .int .i64 (1 : Int), .int .i64 (1 : Int), .string (⟨#[82,97,105,110]⟩), .int .i64 (0 : Int), .int .i64 (0 : Int), .int .i64 (0 : Int), .slice none 0 0, .int .i64 (0 : Int), .int .i64 (0 : Int)] 26) :: F2) [] w0 (fun v L' => ∃ (r121 : Bool), v = (.bool r121) ∧ L' = ((B, .cells #[.int .i64 (7 : Int), .int .i64 (5 : Int), .string EngB15b0, .int .i64 (0 : Int), .int .i64 (0 : Int), .int .i64 (0 : Int), .slice none 0 0, .int .i64 (0 : Int), .int .i64 (0 : Int)] 26) :: (B1, .cells #[.int .i64 (7 : Int), .int .i64 (5 : Int), .string (⟨#[67,105,116,121]⟩), .int .i64 (0 : Int), .int .i64 (0 : Int), .int .i64 (0 : Int), .slice none 0 0, .int .i64 (0 : Int), .int .i64 (0 : Int)] 26) :: (B2, .cells #[.int .i64 (7 : Int), .int .i64 (3 : Int), .string (⟨#[]⟩), .int .i64 (3 : Int), .int .i64 (0 : Int), .int .i64 (0 : Int), .slice none 0 0, .int .i64 (0 : Int), .int .i64 (0 : Int)] 26) :: (B3, .cells #[.int .i64 (1 : Int), .int .i64 (1 : Int), .string (⟨#[82,97,105,110]⟩), .int .i64 (0 : Int), .int .i64 (0 : Int), .int .i64 (0 : Int), .slice none 0 0, .int .i64 (0 : Int), .int .i64 (0 : Int), .int .i64 (2 : Int), .int .i64 (2 : Int), .string EngB15b1, .int .i64 (0 : Int), .int .i64 (0 : Int), .int .i64 (0 : Int), .slice none 0 0, .int .i64 (0 : Int), .int .i64 (0 : Int), .int .i64 (9 : Int), .int .i64 (5 : Int), .string (⟨#[114,97,105,110]⟩), .int .i64 (0 : Int), .int .i64 (0 : Int), .int .i64 (0 : Int), .slice none 0 0, .int .i64 (0 : Int), .int .i64 (0 : Int)] 26) :: (B4, .cells #[.int .i64 (1 : Int), .int .i64 (1 : Int), .string (⟨#[82,97,105,110]⟩), .int .i64 (0 : Int), .int .i64 (0 : Int), .int .i64 (0 : Int), .slice none 0 0, .int .i64 (0 : Int), .int .i64 (0 : Int), .int .i64 (1 : Int), .int .i64 (1 : Int), .string (⟨#[82,97,105,110]⟩), .int .i64 (0 : Int), .int .i64 (0 : Int), .int .i64 (0 : Int), .slice none 0 0, .int .i64 (0 : Int), .int .i64 (0 : Int)] 26) :: F2) ∧
            ((r121 = true) →
             Fin R ((B, .cells #[.int .i64 (7 : Int), .int .i64 (5 : Int), .string EngB15b0, .int .i64 (0 : Int), .int .i64 (0 : Int), .int .i64 (0 : Int), .slice none 0 0, .int .i64 (0 : Int), .int .i64 (0 : Int)] 26) :: (B1, .cells #[.int .i64 (7 : Int), .int .i64 (5 : Int), .string (⟨#[67,105,116,121]⟩), .int .i64 (0 : Int), .int .i64 (0 : Int), .int .i64 (0 : Int), .slice none 0 0, .int .i64 (0 : Int), .int .i64 (0 : Int)] 26) :: (B2, .cells #[.int .i64 (7 : Int), .int .i64 (3 : Int), .string (⟨#[]⟩), .int .i64 (3 : Int), .int .i64 (0 : Int), .int .i64 (0 : Int), .slice none 0 0, .int .i64 (0 : Int), .int .i64 (0 : Int)] 26) :: (B3, .cells #[.int .i64 (1 : Int), .int .i64 (1 : Int), .string (⟨#[82,97,105,110]⟩), .int .i64 (0 : Int), .int .i64 (0 : Int), .int .i64 (0 : Int), .slice none 0 0, .int .i64 (0 : Int), .int .i64 (0 : Int), .int .i64 (2 : Int), .int .i64 (2 : Int), .string EngB15b1, .int .i64 (0 : Int), .int .i64 (0 : Int), .int .i64 (0 : Int), .slice none 0 0, .int .i64 (0 : Int), .int .i64 (0 : Int), .int .i64 (9 : Int), .int .i64 (5 : Int), .string (⟨#[114,97,105,110]⟩), .int .i64 (0 : Int), .int .i64 (0 : Int), .int .i64 (0 : Int), .slice none 0 0, .int .i64 (0 : Int), .int .i64 (0 : Int)] 26) :: (B4, .cells #[.int .i64 (1 : Int), .int .i64 (1 : Int), .string (⟨#[82,97,105,110]⟩), .int .i64 (0 : Int), .int .i64 (0 : Int), .int .i64 (0 : Int), .slice none 0 0, .int .i64 (0 : Int), .int .i64 (0 : Int), .int .i64 (1 : Int), .int .i64 (1 : Int), .string (⟨#[82,97,105,110]⟩), .int .i64 (0 : Int), .int .i64 (0 : Int), .int .i64 (0 : Int), .slice none 0 0, .int .i64 (0 : Int), .int .i64 (0 : Int)] 26) :: F2) [] w0 (.bool false)) ∧
             ((r121 = false) →
             ((r21 = (0 : Int)) →
              ((r41 = (30 : Int)) →
               ((r61 = (0 : Int)) →
                CallH Tryd.prog 25 ⟨[.slice (some ⟨B3, 0, none⟩) 3 3, .slice r51_p r51_l r51_c]⟩ ((B, .cells #[.int .i64 (7 : Int), .int .i64 (5 : Int), .string EngB15b0, .int .i64 (0 : Int), .int .i64 (0 : Int), .int .i64 (0 : Int), .slice none 0 0, .int .i64 (0 : Int), .int .i64 (0 : Int)] 26) :: (B1, .cells #[.int .i64 (7 : Int), .int .i64 (5 : Int), .string (⟨#[67,105,116,121]⟩), .int .i64 (0 : Int), .int .i64 (0 : Int), .int .i64 (0 : Int), .slice none 0 0, .int .i64 (0 : Int), .int .i64 (0 : Int)] 26) :: (B2, .cells #[.int .i64 (7 : Int), .int .i64 (3 : Int), .string (⟨#[]⟩), .int .i64 (3 : Int), .int .i64 (0 : Int), .int .i64 (0 : Int), .slice none 0 0, .int .i64 (0 : Int), .int .i64 (0 : Int)] 26) :: (B3, .cells #[.int .i64 (1 : Int), .int .i64 (1 : Int), .string (⟨#[82,97,105,110]⟩), .int .i64 (0 : Int), .int .i64 (0 : Int), .int .i64 (0 : Int), .slice none 0 0, .int .i64 (0 : Int), .int .i64 (0 : Int), .int .i64 (2 : Int), .int .i64 (2 : Int), .string EngB15b1, .int .i64 (0 : Int), .int .i64 (0 : Int), .int .i64 (0 : Int), .slice none 0 0, .int .i64 (0 : Int), .int .i64 (0 : Int), .int .i64 (9 : Int), .int .i64 (5 : Int), .string (⟨#[114,97,105,110]⟩), .int .i64 (0 : Int), .int .i64 (0 : Int), .int .i64 (0 : Int), .slice none 0 0, .int .i64 (0 : Int), .int .i64 (0 : Int)] 26) :: (B4, .cells #[.int .i64 (1 : Int), .int .i64 (1 : Int), .string (⟨#[82,97,105,110]⟩), .int .i64 (0 : Int), .int .i64 (0 : Int), .int .i64 (0 : Int), .slice none 0 0, .int .i64 (0 : Int), .int .i64 (0 : Int), .int .i64 (1 : Int), .int .i64 (1 : Int), .string (⟨#[82,97,105,110]⟩), .int .i64 (0 : Int), .int .i64 (0 : Int), .int .i64 (0 : Int), .slice none 0 0, .int .i64 (0 : Int), .int .i64 (0 : Int)] 26) :: F2) [] w0 (fun v L' => ∃ (r131 : Bool), v = (.bool r131) ∧ L' = ((B, .cells #[.int .i64 (7 : Int), .int .i64 (5 : Int), .string EngB15b0, .int .i64 (0 : Int), .int .i64 (0 : Int), .int .i64 (0 : Int), .slice none 0 0, .int .i64 (0 : Int), .int .i64 (0 : Int)] 26) :: (B1, .cells #[.int .i64 (7 : Int), .int .i64 (5 : Int), .string (⟨#[67,105,116,121]⟩), .int .i64 (0 : Int), .int .i64 (0 : Int), .int .i64 (0 : Int), .slice none 0 0, .int .i64 (0 : Int), .int .i64 (0 : Int)] 26) :: (B2, .cells #[.int .i64 (7 : Int), .int .i64 (3 : Int), .string (⟨#[]⟩), .int .i64 (3 : Int), .int .i64 (0 : Int), .int .i64 (0 : Int), .slice none 0 0, .int .i64 (0 : Int), .int .i64 (0 : Int)] 26) :: (B3, .cells #[.int .i64 (1 : Int), .int .i64 (1 : Int), .string (⟨#[82,97,105,110]⟩), .int .i64 (0 : Int), .int .i64 (0 : Int), .int .i64 (0 : Int), .slice none 0 0, .int .i64 (0 : Int), .int .i64 (0 : Int), .int .i64 (2 : Int), .int .i64 (2 : Int), .string EngB15b1, .int .i64 (0 : Int), .int .i64 (0 : Int), .int .i64 (0 : Int), .slice none 0 0, .int .i64 (0 : Int), .int .i64 (0 : Int), .int .i64 (9 : Int), .int .i64 (5 : Int), .string (⟨#[114,97,105,110]⟩), .int .i64 (0 : Int), .int .i64 (0 : Int), .int .i64 (0 : Int), .slice none 0 0, .int .i64 (0 : Int), .int .i64 (0 : Int)] 26) :: (B4, .cells #[.int .i64 (1 : Int), .int .i64 (1 : Int), .string (⟨#[82,97,105,110]⟩), .int .i64 (0 : Int), .int .i64 (0 : Int), .int .i64 (0 : Int), .slice none 0 0, .int .i64 (0 : Int), .int .i64 (0 : Int), .int .i64 (1 : Int), .int .i64 (1 : Int), .string (⟨#[82,97,105,110]⟩), .int .i64 (0 : Int), .int .i64 (0 : Int), .int .i64 (0 : Int), .slice none 0 0, .int .i64 (0 : Int), .int .i64 (0 : Int)] 26) :: F2) ∧
                 ((r131 = true) →
                  ((r81 = (10 : Int)) →
                   (((r91_l : Int) = (4 : Int)) →
                    ∃ r91_pb r91_po : Nat, r91_p = some ⟨r91_pb, r91_po, none⟩ ∧
                    (0 ≤ (0 : Int) ∧ (0 : Int) < r91_l) ∧
                    ∃ (cw : List Value) (m1 : ByteArray), held ((B, .cells #[.int .i64 (7 : Int), .int .i64 (5 : Int), .string EngB15b0, .int .i64 (0 : Int), .int .i64 (0 : Int), .int .i64 (0 : Int), .slice none 0 0, .int .i64 (0 : Int), .int .i64 (0 : Int)] 26) :: (B1, .cells #[.int .i64 (7 : Int), .int .i64 (5 : Int), .string (⟨#[67,105,116,121]⟩), .int .i64 (0 : Int), .int .i64 (0 : Int), .int .i64 (0 : Int), .slice none 0 0, .int .i64 (0 : Int), .int .i64 (0 : Int)] 26) :: (B2, .cells #[.int .i64 (7 : Int), .int .i64 (3 : Int), .string (⟨#[]⟩), .int .i64 (3 : Int), .int .i64 (0 : Int), .int .i64 (0 : Int), .slice none 0 0, .int .i64 (0 : Int), .int .i64 (0 : Int)] 26) :: (B3, .cells #[.int .i64 (1 : Int), .int .i64 (1 : Int), .string (⟨#[82,97,105,110]⟩), .int .i64 (0 : Int), .int .i64 (0 : Int), .int .i64 (0 : Int), .slice none 0 0, .int .i64 (0 : Int), .int .i64 (0 : Int), .int .i64 (2 : Int), .int .i64 (2 : Int), .string EngB15b1, .int .i64 (0 : Int), .int .i64 (0 : Int), .int .i64 (0 : Int), .slice none 0 0, .int .i64 (0 : Int), .int .i64 (0 : Int), .int .i64 (9 : Int), .int .i64 (5 : Int), .string (⟨#[114,97,105,110]⟩), .int .i64 (0 : Int), .int .i64 (0 : Int), .int .i64 (0 : Int), .slice none 0 0, .int .i64 (0 : Int), .int .i64 (0 : Int)] 26) :: (B4, .cells #[.int .i64 (1 : Int), .int .i64 (1 : Int), .string (⟨#[82,97,105,110]⟩), .int .i64 (0 : Int), .int .i64 (0 : Int), .int .i64 (0 : Int), .slice none 0 0, .int .i64 (0 : Int), .int .i64 (0 : Int), .int .i64 (1 : Int), .int .i64 (1 : Int), .string (⟨#[82,97,105,110]⟩), .int .i64 (0 : Int), .int .i64 (0 : Int), .int .i64 (0 : Int), .slice none 0 0, .int .i64 (0 : Int), .int .i64 (0 : Int)] 26) :: F2) w0 r91_pb cw ∧ cw[(r91_po + (0))]? = some (.string m1) ∧
                    ((m1 = (⟨#[68,114,46]⟩ : ByteArray)) →
                     (0 ≤ (1 : Int) ∧ (1 : Int) < r91_l) ∧
                     ∃ (cw1 : List Value) (m21 : ByteArray), held ((B, .cells #[.int .i64 (7 : Int), .int .i64 (5 : Int), .string EngB15b0, .int .i64 (0 : Int), .int .i64 (0 : Int), .int .i64 (0 : Int), .slice none 0 0, .int .i64 (0 : Int), .int .i64 (0 : Int)] 26) :: (B1, .cells #[.int .i64 (7 : Int), .int .i64 (5 : Int), .string (⟨#[67,105,116,121]⟩), .int .i64 (0 : Int), .int .i64 (0 : Int), .int .i64 (0 : Int), .slice none 0 0, .int .i64 (0 : Int), .int .i64 (0 : Int)] 26) :: (B2, .cells #[.int .i64 (7 : Int), .int .i64 (3 : Int), .string (⟨#[]⟩), .int .i64 (3 : Int), .int .i64 (0 : Int), .int .i64 (0 : Int), .slice none 0 0, .int .i64 (0 : Int), .int .i64 (0 : Int)] 26) :: (B3, .cells #[.int .i64 (1 : Int), .int .i64 (1 : Int), .string (⟨#[82,97,105,110]⟩), .int .i64 (0 : Int), .int .i64 (0 : Int), .int .i64 (0 : Int), .slice none 0 0, .int .i64 (0 : Int), .int .i64 (0 : Int), .int .i64 (2 : Int), .int .i64 (2 : Int), .string EngB15b1, .int .i64 (0 : Int), .int .i64 (0 : Int), .int .i64 (0 : Int), .slice none 0 0, .int .i64 (0 : Int), .int .i64 (0 : Int), .int .i64 (9 : Int), .int .i64 (5 : Int), .string (⟨#[114,97,105,110]⟩), .int .i64 (0 : Int), .int .i64 (0 : Int), .int .i64 (0 : Int), .slice none 0 0, .int .i64 (0 : Int), .int .i64 (0 : Int)] 26) :: (B4, .cells #[.int .i64 (1 : Int), .int .i64 (1 : Int), .string (⟨#[82,97,105,110]⟩), .int .i64 (0 : Int), .int .i64 (0 : Int), .int .i64 (0 : Int), .slice none 0 0, .int .i64 (0 : Int), .int .i64 (0 : Int), .int .i64 (1 : Int), .int .i64 (1 : Int), .string (⟨#[82,97,105,110]⟩), .int .i64 (0 : Int), .int .i64 (0 : Int), .int .i64 (0 : Int), .slice none 0 0, .int .i64 (0 : Int), .int .i64 (0 : Int)] 26) :: F2) w0 r91_pb cw1 ∧ cw1[(r91_po + (1))]? = some (.string m21) ∧
                     ((m21 = (⟨#[74,46,32,83,109,105,116,104,32,32,119,111,110,46]⟩ : ByteArray)) →
                      (0 ≤ (2 : Int) ∧ (2 : Int) < r91_l) ∧
                      ∃ (cw2 : List Value) (m31 : ByteArray), held ((B, .cells #[.int .i64 (7 : Int), .int .i64 (5 : Int), .string EngB15b0, .int .i64 (0 : Int), .int .i64 (0 : Int), .int .i64 (0 : Int), .slice none 0 0, .int .i64 (0 : Int), .int .i64 (0 : Int)] 26) :: (B1, .cells #[.int .i64 (7 : Int), .int .i64 (5 : Int), .string (⟨#[67,105,116,121]⟩), .int .i64 (0 : Int), .int .i64 (0 : Int), .int .i64 (0 : Int), .slice none 0 0, .int .i64 (0 : Int), .int .i64 (0 : Int)] 26) :: (B2, .cells #[.int .i64 (7 : Int), .int .i64 (3 : Int), .string (⟨#[]⟩), .int .i64 (3 : Int), .int .i64 (0 : Int), .int .i64 (0 : Int), .slice none 0 0, .int .i64 (0 : Int), .int .i64 (0 : Int)] 26) :: (B3, .cells #[.int .i64 (1 : Int), .int .i64 (1 : Int), .string (⟨#[82,97,105,110]⟩), .int .i64 (0 : Int), .int .i64 (0 : Int), .int .i64 (0 : Int), .slice none 0 0, .int .i64 (0 : Int), .int .i64 (0 : Int), .int .i64 (2 : Int), .int .i64 (2 : Int), .string EngB15b1, .int .i64 (0 : Int), .int .i64 (0 : Int), .int .i64 (0 : Int), .slice none 0 0, .int .i64 (0 : Int), .int .i64 (0 : Int), .int .i64 (9 : Int), .int .i64 (5 : Int), .string (⟨#[114,97,105,110]⟩), .int .i64 (0 : Int), .int .i64 (0 : Int), .int .i64 (0 : Int), .slice none 0 0, .int .i64 (0 : Int), .int .i64 (0 : Int)] 26) :: (B4, .cells #[.int .i64 (1 : Int), .int .i64 (1 : Int), .string (⟨#[82,97,105,110]⟩), .int .i64 (0 : Int), .int .i64 (0 : Int), .int .i64 (0 : Int), .slice none 0 0, .int .i64 (0 : Int), .int .i64 (0 : Int), .int .i64 (1 : Int), .int .i64 (1 : Int), .string (⟨#[82,97,105,110]⟩), .int .i64 (0 : Int), .int .i64 (0 : Int), .int .i64 (0 : Int), .slice none 0 0, .int .i64 (0 : Int), .int .i64 (0 : Int)] 26) :: F2) w0 r91_pb cw2 ∧ cw2[(r91_po + (2))]? = some (.string m31) ∧
                      ((m31 = (⟨#[82,101,97,108,108,121,63,33]⟩ : ByteArray)) →
                       (0 ≤ (3 : Int) ∧ (3 : Int) < r91_l) ∧
                       ∃ (cw3 : List Value) (m41 : ByteArray), held ((B, .cells #[.int .i64 (7 : Int), .int .i64 (5 : Int), .string EngB15b0, .int .i64 (0 : Int), .int .i64 (0 : Int), .int .i64 (0 : Int), .slice none 0 0, .int .i64 (0 : Int), .int .i64 (0 : Int)] 26) :: (B1, .cells #[.int .i64 (7 : Int), .int .i64 (5 : Int), .string (⟨#[67,105,116,121]⟩), .int .i64 (0 : Int), .int .i64 (0 : Int), .int .i64 (0 : Int), .slice none 0 0, .int .i64 (0 : Int), .int .i64 (0 : Int)] 26) :: (B2, .cells #[.int .i64 (7 : Int), .int .i64 (3 : Int), .string (⟨#[]⟩), .int .i64 (3 : Int), .int .i64 (0 : Int), .int .i64 (0 : Int), .slice none 0 0, .int .i64 (0 : Int), .int .i64 (0 : Int)] 26) :: (B3, .cells #[.int .i64 (1 : Int), .int .i64 (1 : Int), .string (⟨#[82,97,105,110]⟩), .int .i64 (0 : Int), .int .i64 (0 : Int), .int .i64 (0 : Int), .slice none 0 0, .int .i64 (0 : Int), .int .i64 (0 : Int), .int .i64 (2 : Int), .int .i64 (2 : Int), .string EngB15b1, .int .i64 (0 : Int), .int .i64 (0 : Int), .int .i64 (0 : Int), .slice none 0 0, .int .i64 (0 : Int), .int .i64 (0 : Int), .int .i64 (9 : Int), .int .i64 (5 : Int), .string (⟨#[114,97,105,110]⟩), .int .i64 (0 : Int), .int .i64 (0 : Int), .int .i64 (0 : Int), .slice none 0 0, .int .i64 (0 : Int), .int .i64 (0 : Int)] 26) :: (B4, .cells #[.int .i64 (1 : Int), .int .i64 (1 : Int), .string (⟨#[82,97,105,110]⟩), .int .i64 (0 : Int), .int .i64 (0 : Int), .int .i64 (0 : Int), .slice none 0 0, .int .i64 (0 : Int), .int .i64 (0 : Int), .int .i64 (1 : Int), .int .i64 (1 : Int), .string (⟨#[82,97,105,110]⟩), .int .i64 (0 : Int), .int .i64 (0 : Int), .int .i64 (0 : Int), .slice none 0 0, .int .i64 (0 : Int), .int .i64 (0 : Int)] 26) :: F2) w0 r91_pb cw3 ∧ cw3[(r91_po + (3))]? = some (.string m41) ∧
                       ((m41 = (⟨#[65,116,32,51,46,53,32,116,111,32,49]⟩ : ByteArray)) →
                        CallH Tryd.prog 34 ⟨[.slice (some ⟨B3, 0, none⟩) 3 3]⟩ ((B, .cells #[.int .i64 (7 : Int), .int .i64 (5 : Int), .string EngB15b0, .int .i64 (0 : Int), .int .i64 (0 : Int), .int .i64 (0 : Int), .slice none 0 0, .int .i64 (0 : Int), .int .i64 (0 : Int)] 26) :: (B1, .cells #[.int .i64 (7 : Int), .int .i64 (5 : Int), .string (⟨#[67,105,116,121]⟩), .int .i64 (0 : Int), .int .i64 (0 : Int), .int .i64 (0 : Int), .slice none 0 0, .int .i64 (0 : Int), .int .i64 (0 : Int)] 26) :: (B2, .cells #[.int .i64 (7 : Int), .int .i64 (3 : Int), .string (⟨#[]⟩), .int .i64 (3 : Int), .int .i64 (0 : Int), .int .i64 (0 : Int), .slice none 0 0, .int .i64 (0 : Int), .int .i64 (0 : Int)] 26) :: (B3, .cells #[.int .i64 (1 : Int), .int .i64 (1 : Int), .string (⟨#[82,97,105,110]⟩), .int .i64 (0 : Int), .int .i64 (0 : Int), .int .i64 (0 : Int), .slice none 0 0, .int .i64 (0 : Int), .int .i64 (0 : Int), .int .i64 (2 : Int), .int .i64 (2 : Int), .string EngB15b1, .int .i64 (0 : Int), .int .i64 (0 : Int), .int .i64 (0 : Int), .slice none 0 0, .int .i64 (0 : Int), .int .i64 (0 : Int), .int .i64 (9 : Int), .int .i64 (5 : Int), .string (⟨#[114,97,105,110]⟩), .int .i64 (0 : Int), .int .i64 (0 : Int), .int .i64 (0 : Int), .slice none 0 0, .int .i64 (0 : Int), .int .i64 (0 : Int)] 26) :: (B4, .cells #[.int .i64 (1 : Int), .int .i64 (1 : Int), .string (⟨#[82,97,105,110]⟩), .int .i64 (0 : Int), .int .i64 (0 : Int), .int .i64 (0 : Int), .slice none 0 0, .int .i64 (0 : Int), .int .i64 (0 : Int), .int .i64 (1 : Int), .int .i64 (1 : Int), .string (⟨#[82,97,105,110]⟩), .int .i64 (0 : Int), .int .i64 (0 : Int), .int .i64 (0 : Int), .slice none 0 0, .int .i64 (0 : Int), .int .i64 (0 : Int)] 26) :: F2) [] w0 (fun v L' => ∃ (r141 : ByteArray), v = (.string r141) ∧ L' = ((B, .cells #[.int .i64 (7 : Int), .int .i64 (5 : Int), .string EngB15b0, .int .i64 (0 : Int), .int .i64 (0 : Int), .int .i64 (0 : Int), .slice none 0 0, .int .i64 (0 : Int), .int .i64 (0 : Int)] 26) :: (B1, .cells #[.int .i64 (7 : Int), .int .i64 (5 : Int), .string (⟨#[67,105,116,121]⟩), .int .i64 (0 : Int), .int .i64 (0 : Int), .int .i64 (0 : Int), .slice none 0 0, .int .i64 (0 : Int), .int .i64 (0 : Int)] 26) :: (B2, .cells #[.int .i64 (7 : Int), .int .i64 (3 : Int), .string (⟨#[]⟩), .int .i64 (3 : Int), .int .i64 (0 : Int), .int .i64 (0 : Int), .slice none 0 0, .int .i64 (0 : Int), .int .i64 (0 : Int)] 26) :: (B3, .cells #[.int .i64 (1 : Int), .int .i64 (1 : Int), .string (⟨#[82,97,105,110]⟩), .int .i64 (0 : Int), .int .i64 (0 : Int), .int .i64 (0 : Int), .slice none 0 0, .int .i64 (0 : Int), .int .i64 (0 : Int), .int .i64 (2 : Int), .int .i64 (2 : Int), .string EngB15b1, .int .i64 (0 : Int), .int .i64 (0 : Int), .int .i64 (0 : Int), .slice none 0 0, .int .i64 (0 : Int), .int .i64 (0 : Int), .int .i64 (9 : Int), .int .i64 (5 : Int), .string (⟨#[114,97,105,110]⟩), .int .i64 (0 : Int), .int .i64 (0 : Int), .int .i64 (0 : Int), .slice none 0 0, .int .i64 (0 : Int), .int .i64 (0 : Int)] 26) :: (B4, .cells #[.int .i64 (1 : Int), .int .i64 (1 : Int), .string (⟨#[82,97,105,110]⟩), .int .i64 (0 : Int), .int .i64 (0 : Int), .int .i64 (0 : Int), .slice none 0 0, .int .i64 (0 : Int), .int .i64 (0 : Int), .int .i64 (1 : Int), .int .i64 (1 : Int), .string (⟨#[82,97,105,110]⟩), .int .i64 (0 : Int), .int .i64 (0 : Int), .int .i64 (0 : Int), .slice none 0 0, .int .i64 (0 : Int), .int .i64 (0 : Int)] 26) :: F2) ∧
                         Fin R ((B, .cells #[.int .i64 (7 : Int), .int .i64 (5 : Int), .string EngB15b0, .int .i64 (0 : Int), .int .i64 (0 : Int), .int .i64 (0 : Int), .slice none 0 0, .int .i64 (0 : Int), .int .i64 (0 : Int)] 26) :: (B1, .cells #[.int .i64 (7 : Int), .int .i64 (5 : Int), .string (⟨#[67,105,116,121]⟩), .int .i64 (0 : Int), .int .i64 (0 : Int), .int .i64 (0 : Int), .slice none 0 0, .int .i64 (0 : Int), .int .i64 (0 : Int)] 26) :: (B2, .cells #[.int .i64 (7 : Int), .int .i64 (3 : Int), .string (⟨#[]⟩), .int .i64 (3 : Int), .int .i64 (0 : Int), .int .i64 (0 : Int), .slice none 0 0, .int .i64 (0 : Int), .int .i64 (0 : Int)] 26) :: (B3, .cells #[.int .i64 (1 : Int), .int .i64 (1 : Int), .string (⟨#[82,97,105,110]⟩), .int .i64 (0 : Int), .int .i64 (0 : Int), .int .i64 (0 : Int), .slice none 0 0, .int .i64 (0 : Int), .int .i64 (0 : Int), .int .i64 (2 : Int), .int .i64 (2 : Int), .string EngB15b1, .int .i64 (0 : Int), .int .i64 (0 : Int), .int .i64 (0 : Int), .slice none 0 0, .int .i64 (0 : Int), .int .i64 (0 : Int), .int .i64 (9 : Int), .int .i64 (5 : Int), .string (⟨#[114,97,105,110]⟩), .int .i64 (0 : Int), .int .i64 (0 : Int), .int .i64 (0 : Int), .slice none 0 0, .int .i64 (0 : Int), .int .i64 (0 : Int)] 26) :: (B4, .cells #[.int .i64 (1 : Int), .int .i64 (1 : Int), .string (⟨#[82,97,105,110]⟩), .int .i64 (0 : Int), .int .i64 (0 : Int), .int .i64 (0 : Int), .slice none 0 0, .int .i64 (0 : Int), .int .i64 (0 : Int), .int .i64 (1 : Int), .int .i64 (1 : Int), .string (⟨#[82,97,105,110]⟩), .int .i64 (0 : Int), .int .i64 (0 : Int), .int .i64 (0 : Int), .slice none 0 0, .int .i64 (0 : Int), .int .i64 (0 : Int)] 26) :: F2) [] w0 (.bool (r141.toList == (⟨#[82,97,105,110,10,73,116,32,114,97,105,110,101,100,46,32,73,116,32,115,116,111,112,112,101,100,46,10,35,114,97,105,110,10]⟩ : ByteArray).toList)))) ∧
                        ((¬ m41 = (⟨#[65,116,32,51,46,53,32,116,111,32,49]⟩ : ByteArray)) →
                        Fin R ((B, .cells #[.int .i64 (7 : Int), .int .i64 (5 : Int), .string EngB15b0, .int .i64 (0 : Int), .int .i64 (0 : Int), .int .i64 (0 : Int), .slice none 0 0, .int .i64 (0 : Int), .int .i64 (0 : Int)] 26) :: (B1, .cells #[.int .i64 (7 : Int), .int .i64 (5 : Int), .string (⟨#[67,105,116,121]⟩), .int .i64 (0 : Int), .int .i64 (0 : Int), .int .i64 (0 : Int), .slice none 0 0, .int .i64 (0 : Int), .int .i64 (0 : Int)] 26) :: (B2, .cells #[.int .i64 (7 : Int), .int .i64 (3 : Int), .string (⟨#[]⟩), .int .i64 (3 : Int), .int .i64 (0 : Int), .int .i64 (0 : Int), .slice none 0 0, .int .i64 (0 : Int), .int .i64 (0 : Int)] 26) :: (B3, .cells #[.int .i64 (1 : Int), .int .i64 (1 : Int), .string (⟨#[82,97,105,110]⟩), .int .i64 (0 : Int), .int .i64 (0 : Int), .int .i64 (0 : Int), .slice none 0 0, .int .i64 (0 : Int), .int .i64 (0 : Int), .int .i64 (2 : Int), .int .i64 (2 : Int), .string EngB15b1, .int .i64 (0 : Int), .int .i64 (0 : Int), .int .i64 (0 : Int), .slice none 0 0, .int .i64 (0 : Int), .int .i64 (0 : Int), .int .i64 (9 : Int), .int .i64 (5 : Int), .string (⟨#[114,97,105,110]⟩), .int .i64 (0 : Int), .int .i64 (0 : Int), .int .i64 (0 : Int), .slice none 0 0, .int .i64 (0 : Int), .int .i64 (0 : Int)] 26) :: (B4, .cells #[.int .i64 (1 : Int), .int .i64 (1 : Int), .string (⟨#[82,97,105,110]⟩), .int .i64 (0 : Int), .int .i64 (0 : Int), .int .i64 (0 : Int), .slice none 0 0, .int .i64 (0 : Int), .int .i64 (0 : Int), .int .i64 (1 : Int), .int .i64 (1 : Int), .string (⟨#[82,97,105,110]⟩), .int .i64 (0 : Int), .int .i64 (0 : Int), .int .i64 (0 : Int), .slice none 0 0, .int .i64 (0 : Int), .int .i64 (0 : Int)] 26) :: F2) [] w0 (.bool false))) ∧
                       ((¬ m31 = (⟨#[82,101,97,108,108,121,63,33]⟩ : ByteArray)) →
                       Fin R ((B, .cells #[.int .i64 (7 : Int), .int .i64 (5 : Int), .string EngB15b0, .int .i64 (0 : Int), .int .i64 (0 : Int), .int .i64 (0 : Int), .slice none 0 0, .int .i64 (0 : Int), .int .i64 (0 : Int)] 26) :: (B1, .cells #[.int .i64 (7 : Int), .int .i64 (5 : Int), .string (⟨#[67,105,116,121]⟩), .int .i64 (0 : Int), .int .i64 (0 : Int), .int .i64 (0 : Int), .slice none 0 0, .int .i64 (0 : Int), .int .i64 (0 : Int)] 26) :: (B2, .cells #[.int .i64 (7 : Int), .int .i64 (3 : Int), .string (⟨#[]⟩), .int .i64 (3 : Int), .int .i64 (0 : Int), .int .i64 (0 : Int), .slice none 0 0, .int .i64 (0 : Int), .int .i64 (0 : Int)] 26) :: (B3, .cells #[.int .i64 (1 : Int), .int .i64 (1 : Int), .string (⟨#[82,97,105,110]⟩), .int .i64 (0 : Int), .int .i64 (0 : Int), .int .i64 (0 : Int), .slice none 0 0, .int .i64 (0 : Int), .int .i64 (0 : Int), .int .i64 (2 : Int), .int .i64 (2 : Int), .string EngB15b1, .int .i64 (0 : Int), .int .i64 (0 : Int), .int .i64 (0 : Int), .slice none 0 0, .int .i64 (0 : Int), .int .i64 (0 : Int), .int .i64 (9 : Int), .int .i64 (5 : Int), .string (⟨#[114,97,105,110]⟩), .int .i64 (0 : Int), .int .i64 (0 : Int), .int .i64 (0 : Int), .slice none 0 0, .int .i64 (0 : Int), .int .i64 (0 : Int)] 26) :: (B4, .cells #[.int .i64 (1 : Int), .int .i64 (1 : Int), .string (⟨#[82,97,105,110]⟩), .int .i64 (0 : Int), .int .i64 (0 : Int), .int .i64 (0 : Int), .slice none 0 0, .int .i64 (0 : Int), .int .i64 (0 : Int), .int .i64 (1 : Int), .int .i64 (1 : Int), .string (⟨#[82,97,105,110]⟩), .int .i64 (0 : Int), .int .i64 (0 : Int), .int .i64 (0 : Int), .slice none 0 0, .int .i64 (0 : Int), .int .i64 (0 : Int)] 26) :: F2) [] w0 (.bool false))) ∧
                      ((¬ m21 = (⟨#[74,46,32,83,109,105,116,104,32,32,119,111,110,46]⟩ : ByteArray)) →
                      Fin R ((B, .cells #[.int .i64 (7 : Int), .int .i64 (5 : Int), .string EngB15b0, .int .i64 (0 : Int), .int .i64 (0 : Int), .int .i64 (0 : Int), .slice none 0 0, .int .i64 (0 : Int), .int .i64 (0 : Int)] 26) :: (B1, .cells #[.int .i64 (7 : Int), .int .i64 (5 : Int), .string (⟨#[67,105,116,121]⟩), .int .i64 (0 : Int), .int .i64 (0 : Int), .int .i64 (0 : Int), .slice none 0 0, .int .i64 (0 : Int), .int .i64 (0 : Int)] 26) :: (B2, .cells #[.int .i64 (7 : Int), .int .i64 (3 : Int), .string (⟨#[]⟩), .int .i64 (3 : Int), .int .i64 (0 : Int), .int .i64 (0 : Int), .slice none 0 0, .int .i64 (0 : Int), .int .i64 (0 : Int)] 26) :: (B3, .cells #[.int .i64 (1 : Int), .int .i64 (1 : Int), .string (⟨#[82,97,105,110]⟩), .int .i64 (0 : Int), .int .i64 (0 : Int), .int .i64 (0 : Int), .slice none 0 0, .int .i64 (0 : Int), .int .i64 (0 : Int), .int .i64 (2 : Int), .int .i64 (2 : Int), .string EngB15b1, .int .i64 (0 : Int), .int .i64 (0 : Int), .int .i64 (0 : Int), .slice none 0 0, .int .i64 (0 : Int), .int .i64 (0 : Int), .int .i64 (9 : Int), .int .i64 (5 : Int), .string (⟨#[114,97,105,110]⟩), .int .i64 (0 : Int), .int .i64 (0 : Int), .int .i64 (0 : Int), .slice none 0 0, .int .i64 (0 : Int), .int .i64 (0 : Int)] 26) :: (B4, .cells #[.int .i64 (1 : Int), .int .i64 (1 : Int), .string (⟨#[82,97,105,110]⟩), .int .i64 (0 : Int), .int .i64 (0 : Int), .int .i64 (0 : Int), .slice none 0 0, .int .i64 (0 : Int), .int .i64 (0 : Int), .int .i64 (1 : Int), .int .i64 (1 : Int), .string (⟨#[82,97,105,110]⟩), .int .i64 (0 : Int), .int .i64 (0 : Int), .int .i64 (0 : Int), .slice none 0 0, .int .i64 (0 : Int), .int .i64 (0 : Int)] 26) :: F2) [] w0 (.bool false))) ∧
                     ((¬ m1 = (⟨#[68,114,46]⟩ : ByteArray)) →
                     Fin R ((B, .cells #[.int .i64 (7 : Int), .int .i64 (5 : Int), .string EngB15b0, .int .i64 (0 : Int), .int .i64 (0 : Int), .int .i64 (0 : Int), .slice none 0 0, .int .i64 (0 : Int), .int .i64 (0 : Int)] 26) :: (B1, .cells #[.int .i64 (7 : Int), .int .i64 (5 : Int), .string (⟨#[67,105,116,121]⟩), .int .i64 (0 : Int), .int .i64 (0 : Int), .int .i64 (0 : Int), .slice none 0 0, .int .i64 (0 : Int), .int .i64 (0 : Int)] 26) :: (B2, .cells #[.int .i64 (7 : Int), .int .i64 (3 : Int), .string (⟨#[]⟩), .int .i64 (3 : Int), .int .i64 (0 : Int), .int .i64 (0 : Int), .slice none 0 0, .int .i64 (0 : Int), .int .i64 (0 : Int)] 26) :: (B3, .cells #[.int .i64 (1 : Int), .int .i64 (1 : Int), .string (⟨#[82,97,105,110]⟩), .int .i64 (0 : Int), .int .i64 (0 : Int), .int .i64 (0 : Int), .slice none 0 0, .int .i64 (0 : Int), .int .i64 (0 : Int), .int .i64 (2 : Int), .int .i64 (2 : Int), .string EngB15b1, .int .i64 (0 : Int), .int .i64 (0 : Int), .int .i64 (0 : Int), .slice none 0 0, .int .i64 (0 : Int), .int .i64 (0 : Int), .int .i64 (9 : Int), .int .i64 (5 : Int), .string (⟨#[114,97,105,110]⟩), .int .i64 (0 : Int), .int .i64 (0 : Int), .int .i64 (0 : Int), .slice none 0 0, .int .i64 (0 : Int), .int .i64 (0 : Int)] 26) :: (B4, .cells #[.int .i64 (1 : Int), .int .i64 (1 : Int), .string (⟨#[82,97,105,110]⟩), .int .i64 (0 : Int), .int .i64 (0 : Int), .int .i64 (0 : Int), .slice none 0 0, .int .i64 (0 : Int), .int .i64 (0 : Int), .int .i64 (1 : Int), .int .i64 (1 : Int), .string (⟨#[82,97,105,110]⟩), .int .i64 (0 : Int), .int .i64 (0 : Int), .int .i64 (0 : Int), .slice none 0 0, .int .i64 (0 : Int), .int .i64 (0 : Int)] 26) :: F2) [] w0 (.bool false))) ∧
                    ((¬ ((r91_l : Int) = (4 : Int))) →
                    Fin R ((B, .cells #[.int .i64 (7 : Int), .int .i64 (5 : Int), .string EngB15b0, .int .i64 (0 : Int), .int .i64 (0 : Int), .int .i64 (0 : Int), .slice none 0 0, .int .i64 (0 : Int), .int .i64 (0 : Int)] 26) :: (B1, .cells #[.int .i64 (7 : Int), .int .i64 (5 : Int), .string (⟨#[67,105,116,121]⟩), .int .i64 (0 : Int), .int .i64 (0 : Int), .int .i64 (0 : Int), .slice none 0 0, .int .i64 (0 : Int), .int .i64 (0 : Int)] 26) :: (B2, .cells #[.int .i64 (7 : Int), .int .i64 (3 : Int), .string (⟨#[]⟩), .int .i64 (3 : Int), .int .i64 (0 : Int), .int .i64 (0 : Int), .slice none 0 0, .int .i64 (0 : Int), .int .i64 (0 : Int)] 26) :: (B3, .cells #[.int .i64 (1 : Int), .int .i64 (1 : Int), .string (⟨#[82,97,105,110]⟩), .int .i64 (0 : Int), .int .i64 (0 : Int), .int .i64 (0 : Int), .slice none 0 0, .int .i64 (0 : Int), .int .i64 (0 : Int), .int .i64 (2 : Int), .int .i64 (2 : Int), .string EngB15b1, .int .i64 (0 : Int), .int .i64 (0 : Int), .int .i64 (0 : Int), .slice none 0 0, .int .i64 (0 : Int), .int .i64 (0 : Int), .int .i64 (9 : Int), .int .i64 (5 : Int), .string (⟨#[114,97,105,110]⟩), .int .i64 (0 : Int), .int .i64 (0 : Int), .int .i64 (0 : Int), .slice none 0 0, .int .i64 (0 : Int), .int .i64 (0 : Int)] 26) :: (B4, .cells #[.int .i64 (1 : Int), .int .i64 (1 : Int), .string (⟨#[82,97,105,110]⟩), .int .i64 (0 : Int), .int .i64 (0 : Int), .int .i64 (0 : Int), .slice none 0 0, .int .i64 (0 : Int), .int .i64 (0 : Int), .int .i64 (1 : Int), .int .i64 (1 : Int), .string (⟨#[82,97,105,110]⟩), .int .i64 (0 : Int), .int .i64 (0 : Int), .int .i64 (0 : Int), .slice none 0 0, .int .i64 (0 : Int), .int .i64 (0 : Int)] 26) :: F2) [] w0 (.bool false))) ∧
                   ((¬ (r81 = (10 : Int))) →
                   Fin R ((B, .cells #[.int .i64 (7 : Int), .int .i64 (5 : Int), .string EngB15b0, .int .i64 (0 : Int), .int .i64 (0 : Int), .int .i64 (0 : Int), .slice none 0 0, .int .i64 (0 : Int), .int .i64 (0 : Int)] 26) :: (B1, .cells #[.int .i64 (7 : Int), .int .i64 (5 : Int), .string (⟨#[67,105,116,121]⟩), .int .i64 (0 : Int), .int .i64 (0 : Int), .int .i64 (0 : Int), .slice none 0 0, .int .i64 (0 : Int), .int .i64 (0 : Int)] 26) :: (B2, .cells #[.int .i64 (7 : Int), .int .i64 (3 : Int), .string (⟨#[]⟩), .int .i64 (3 : Int), .int .i64 (0 : Int), .int .i64 (0 : Int), .slice none 0 0, .int .i64 (0 : Int), .int .i64 (0 : Int)] 26) :: (B3, .cells #[.int .i64 (1 : Int), .int .i64 (1 : Int), .string (⟨#[82,97,105,110]⟩), .int .i64 (0 : Int), .int .i64 (0 : Int), .int .i64 (0 : Int), .slice none 0 0, .int .i64 (0 : Int), .int .i64 (0 : Int), .int .i64 (2 : Int), .int .i64 (2 : Int), .string EngB15b1, .int .i64 (0 : Int), .int .i64 (0 : Int), .int .i64 (0 : Int), .slice none 0 0, .int .i64 (0 : Int), .int .i64 (0 : Int), .int .i64 (9 : Int), .int .i64 (5 : Int), .string (⟨#[114,97,105,110]⟩), .int .i64 (0 : Int), .int .i64 (0 : Int), .int .i64 (0 : Int), .slice none 0 0, .int .i64 (0 : Int), .int .i64 (0 : Int)] 26) :: (B4, .cells #[.int .i64 (1 : Int), .int .i64 (1 : Int), .string (⟨#[82,97,105,110]⟩), .int .i64 (0 : Int), .int .i64 (0 : Int), .int .i64 (0 : Int), .slice none 0 0, .int .i64 (0 : Int), .int .i64 (0 : Int), .int .i64 (1 : Int), .int .i64 (1 : Int), .string (⟨#[82,97,105,110]⟩), .int .i64 (0 : Int), .int .i64 (0 : Int), .int .i64 (0 : Int), .slice none 0 0, .int .i64 (0 : Int), .int .i64 (0 : Int)] 26) :: F2) [] w0 (.bool false))) ∧
                  ((r131 = false) →
                  Fin R ((B, .cells #[.int .i64 (7 : Int), .int .i64 (5 : Int), .string EngB15b0, .int .i64 (0 : Int), .int .i64 (0 : Int), .int .i64 (0 : Int), .slice none 0 0, .int .i64 (0 : Int), .int .i64 (0 : Int)] 26) :: (B1, .cells #[.int .i64 (7 : Int), .int .i64 (5 : Int), .string (⟨#[67,105,116,121]⟩), .int .i64 (0 : Int), .int .i64 (0 : Int), .int .i64 (0 : Int), .slice none 0 0, .int .i64 (0 : Int), .int .i64 (0 : Int)] 26) :: (B2, .cells #[.int .i64 (7 : Int), .int .i64 (3 : Int), .string (⟨#[]⟩), .int .i64 (3 : Int), .int .i64 (0 : Int), .int .i64 (0 : Int), .slice none 0 0, .int .i64 (0 : Int), .int .i64 (0 : Int)] 26) :: (B3, .cells #[.int .i64 (1 : Int), .int .i64 (1 : Int), .string (⟨#[82,97,105,110]⟩), .int .i64 (0 : Int), .int .i64 (0 : Int), .int .i64 (0 : Int), .slice none 0 0, .int .i64 (0 : Int), .int .i64 (0 : Int), .int .i64 (2 : Int), .int .i64 (2 : Int), .string EngB15b1, .int .i64 (0 : Int), .int .i64 (0 : Int), .int .i64 (0 : Int), .slice none 0 0, .int .i64 (0 : Int), .int .i64 (0 : Int), .int .i64 (9 : Int), .int .i64 (5 : Int), .string (⟨#[114,97,105,110]⟩), .int .i64 (0 : Int), .int .i64 (0 : Int), .int .i64 (0 : Int), .slice none 0 0, .int .i64 (0 : Int), .int .i64 (0 : Int)] 26) :: (B4, .cells #[.int .i64 (1 : Int), .int .i64 (1 : Int), .string (⟨#[82,97,105,110]⟩), .int .i64 (0 : Int), .int .i64 (0 : Int), .int .i64 (0 : Int), .slice none 0 0, .int .i64 (0 : Int), .int .i64 (0 : Int), .int .i64 (1 : Int), .int .i64 (1 : Int), .string (⟨#[82,97,105,110]⟩), .int .i64 (0 : Int), .int .i64 (0 : Int), .int .i64 (0 : Int), .slice none 0 0, .int .i64 (0 : Int), .int .i64 (0 : Int)] 26) :: F2) [] w0 (.bool false)))) ∧
                ((¬ (r61 = (0 : Int))) →
                Fin R ((B, .cells #[.int .i64 (7 : Int), .int .i64 (5 : Int), .string EngB15b0, .int .i64 (0 : Int), .int .i64 (0 : Int), .int .i64 (0 : Int), .slice none 0 0, .int .i64 (0 : Int), .int .i64 (0 : Int)] 26) :: (B1, .cells #[.int .i64 (7 : Int), .int .i64 (5 : Int), .string (⟨#[67,105,116,121]⟩), .int .i64 (0 : Int), .int .i64 (0 : Int), .int .i64 (0 : Int), .slice none 0 0, .int .i64 (0 : Int), .int .i64 (0 : Int)] 26) :: (B2, .cells #[.int .i64 (7 : Int), .int .i64 (3 : Int), .string (⟨#[]⟩), .int .i64 (3 : Int), .int .i64 (0 : Int), .int .i64 (0 : Int), .slice none 0 0, .int .i64 (0 : Int), .int .i64 (0 : Int)] 26) :: (B3, .cells #[.int .i64 (1 : Int), .int .i64 (1 : Int), .string (⟨#[82,97,105,110]⟩), .int .i64 (0 : Int), .int .i64 (0 : Int), .int .i64 (0 : Int), .slice none 0 0, .int .i64 (0 : Int), .int .i64 (0 : Int), .int .i64 (2 : Int), .int .i64 (2 : Int), .string EngB15b1, .int .i64 (0 : Int), .int .i64 (0 : Int), .int .i64 (0 : Int), .slice none 0 0, .int .i64 (0 : Int), .int .i64 (0 : Int), .int .i64 (9 : Int), .int .i64 (5 : Int), .string (⟨#[114,97,105,110]⟩), .int .i64 (0 : Int), .int .i64 (0 : Int), .int .i64 (0 : Int), .slice none 0 0, .int .i64 (0 : Int), .int .i64 (0 : Int)] 26) :: (B4, .cells #[.int .i64 (1 : Int), .int .i64 (1 : Int), .string (⟨#[82,97,105,110]⟩), .int .i64 (0 : Int), .int .i64 (0 : Int), .int .i64 (0 : Int), .slice none 0 0, .int .i64 (0 : Int), .int .i64 (0 : Int), .int .i64 (1 : Int), .int .i64 (1 : Int), .string (⟨#[82,97,105,110]⟩), .int .i64 (0 : Int), .int .i64 (0 : Int), .int .i64 (0 : Int), .slice none 0 0, .int .i64 (0 : Int), .int .i64 (0 : Int)] 26) :: F2) [] w0 (.bool false))) ∧
               ((¬ (r41 = (30 : Int))) →
               Fin R ((B, .cells #[.int .i64 (7 : Int), .int .i64 (5 : Int), .string EngB15b0, .int .i64 (0 : Int), .int .i64 (0 : Int), .int .i64 (0 : Int), .slice none 0 0, .int .i64 (0 : Int), .int .i64 (0 : Int)] 26) :: (B1, .cells #[.int .i64 (7 : Int), .int .i64 (5 : Int), .string (⟨#[67,105,116,121]⟩), .int .i64 (0 : Int), .int .i64 (0 : Int), .int .i64 (0 : Int), .slice none 0 0, .int .i64 (0 : Int), .int .i64 (0 : Int)] 26) :: (B2, .cells #[.int .i64 (7 : Int), .int .i64 (3 : Int), .string (⟨#[]⟩), .int .i64 (3 : Int), .int .i64 (0 : Int), .int .i64 (0 : Int), .slice none 0 0, .int .i64 (0 : Int), .int .i64 (0 : Int)] 26) :: (B3, .cells #[.int .i64 (1 : Int), .int .i64 (1 : Int), .string (⟨#[82,97,105,110]⟩), .int .i64 (0 : Int), .int .i64 (0 : Int), .int .i64 (0 : Int), .slice none 0 0, .int .i64 (0 : Int), .int .i64 (0 : Int), .int .i64 (2 : Int), .int .i64 (2 : Int), .string EngB15b1, .int .i64 (0 : Int), .int .i64 (0 : Int), .int .i64 (0 : Int), .slice none 0 0, .int .i64 (0 : Int), .int .i64 (0 : Int), .int .i64 (9 : Int), .int .i64 (5 : Int), .string (⟨#[114,97,105,110]⟩), .int .i64 (0 : Int), .int .i64 (0 : Int), .int .i64 (0 : Int), .slice none 0 0, .int .i64 (0 : Int), .int .i64 (0 : Int)] 26) :: (B4, .cells #[.int .i64 (1 : Int), .int .i64 (1 : Int), .string (⟨#[82,97,105,110]⟩), .int .i64 (0 : Int), .int .i64 (0 : Int), .int .i64 (0 : Int), .slice none 0 0, .int .i64 (0 : Int), .int .i64 (0 : Int), .int .i64 (1 : Int), .int .i64 (1 : Int), .string (⟨#[82,97,105,110]⟩), .int .i64 (0 : Int), .int .i64 (0 : Int), .int .i64 (0 : Int), .slice none 0 0, .int .i64 (0 : Int), .int .i64 (0 : Int)] 26) :: F2) [] w0 (.bool false))) ∧
              ((¬ (r21 = (0 : Int))) →
              Fin R ((B, .cells #[.int .i64 (7 : Int), .int .i64 (5 : Int), .string EngB15b0, .int .i64 (0 : Int), .int .i64 (0 : Int), .int .i64 (0 : Int), .slice none 0 0, .int .i64 (0 : Int), .int .i64 (0 : Int)] 26) :: (B1, .cells #[.int .i64 (7 : Int), .int .i64 (5 : Int), .string (⟨#[67,105,116,121]⟩), .int .i64 (0 : Int), .int .i64 (0 : Int), .int .i64 (0 : Int), .slice none 0 0, .int .i64 (0 : Int), .int .i64 (0 : Int)] 26) :: (B2, .cells #[.int .i64 (7 : Int), .int .i64 (3 : Int), .string (⟨#[]⟩), .int .i64 (3 : Int), .int .i64 (0 : Int), .int .i64 (0 : Int), .slice none 0 0, .int .i64 (0 : Int), .int .i64 (0 : Int)] 26) :: (B3, .cells #[.int .i64 (1 : Int), .int .i64 (1 : Int), .string (⟨#[82,97,105,110]⟩), .int .i64 (0 : Int), .int .i64 (0 : Int), .int .i64 (0 : Int), .slice none 0 0, .int .i64 (0 : Int), .int .i64 (0 : Int), .int .i64 (2 : Int), .int .i64 (2 : Int), .string EngB15b1, .int .i64 (0 : Int), .int .i64 (0 : Int), .int .i64 (0 : Int), .slice none 0 0, .int .i64 (0 : Int), .int .i64 (0 : Int), .int .i64 (9 : Int), .int .i64 (5 : Int), .string (⟨#[114,97,105,110]⟩), .int .i64 (0 : Int), .int .i64 (0 : Int), .int .i64 (0 : Int), .slice none 0 0, .int .i64 (0 : Int), .int .i64 (0 : Int)] 26) :: (B4, .cells #[.int .i64 (1 : Int), .int .i64 (1 : Int), .string (⟨#[82,97,105,110]⟩), .int .i64 (0 : Int), .int .i64 (0 : Int), .int .i64 (0 : Int), .slice none 0 0, .int .i64 (0 : Int), .int .i64 (0 : Int), .int .i64 (1 : Int), .int .i64 (1 : Int), .string (⟨#[82,97,105,110]⟩), .int .i64 (0 : Int), .int .i64 (0 : Int), .int .i64 (0 : Int), .slice none 0 0, .int .i64 (0 : Int), .int .i64 (0 : Int)] 26) :: F2) [] w0 (.bool false))))))) ∧
         ((r101 = false) →
         Fin R ((B, .cells #[.int .i64 (7 : Int), .int .i64 (5 : Int), .string EngB15b0, .int .i64 (0 : Int), .int .i64 (0 : Int), .int .i64 (0 : Int), .slice none 0 0, .int .i64 (0 : Int), .int .i64 (0 : Int)] 26) :: (B1, .cells #[.int .i64 (7 : Int), .int .i64 (5 : Int), .string (⟨#[67,105,116,121]⟩), .int .i64 (0 : Int), .int .i64 (0 : Int), .int .i64 (0 : Int), .slice none 0 0, .int .i64 (0 : Int), .int .i64 (0 : Int)] 26) :: (B2, .cells #[.int .i64 (7 : Int), .int .i64 (3 : Int), .string (⟨#[]⟩), .int .i64 (3 : Int), .int .i64 (0 : Int), .int .i64 (0 : Int), .slice none 0 0, .int .i64 (0 : Int), .int .i64 (0 : Int)] 26) :: (B3, .cells #[.int .i64 (1 : Int), .int .i64 (1 : Int), .string (⟨#[82,97,105,110]⟩), .int .i64 (0 : Int), .int .i64 (0 : Int), .int .i64 (0 : Int), .slice none 0 0, .int .i64 (0 : Int), .int .i64 (0 : Int), .int .i64 (2 : Int), .int .i64 (2 : Int), .string EngB15b1, .int .i64 (0 : Int), .int .i64 (0 : Int), .int .i64 (0 : Int), .slice none 0 0, .int .i64 (0 : Int), .int .i64 (0 : Int), .int .i64 (9 : Int), .int .i64 (5 : Int), .string (⟨#[114,97,105,110]⟩), .int .i64 (0 : Int), .int .i64 (0 : Int), .int .i64 (0 : Int), .slice none 0 0, .int .i64 (0 : Int), .int .i64 (0 : Int)] 26) :: (B4, .cells #[.int .i64 (1 : Int), .int .i64 (1 : Int), .string (⟨#[82,97,105,110]⟩), .int .i64 (0 : Int), .int .i64 (0 : Int), .int .i64 (0 : Int), .slice none 0 0, .int .i64 (0 : Int), .int .i64 (0 : Int), .int .i64 (1 : Int), .int .i64 (1 : Int), .string (⟨#[82,97,105,110]⟩), .int .i64 (0 : Int), .int .i64 (0 : Int), .int .i64 (0 : Int), .slice none 0 0, .int .i64 (0 : Int), .int .i64 (0 : Int)] 26) :: F2) [] w0 (.bool false)))))))) :
  Calls Tryd.prog 17 ⟨[]⟩ W R := by
 refine AtE.calls (nt := 116) Tryd.func17 (by kernel_rfl) hm ?_
 refine AtE.run 7 (fun W => by kernel_rfl) ?_
 refine AtE.new (fun B => .pointer (some ⟨B, 0, none⟩)) (.cells #[.int .i64 (0 : Int), .int .i64 (0 : Int), .string (⟨#[]⟩), .int .i64 (0 : Int), .int .i64 (0 : Int), .int .i64 (0 : Int), .slice none 0 0, .int .i64 (0 : Int), .int .i64 (0 : Int)] 26) (fun W => by kernel_rfl) (by kernel_rfl) (fun B => ?_)
 replace H := H B
 refine AtE.store 0 0 (T := 26) (v := .agg #[.int .i64 (7 : Int), .int .i64 (5 : Int), .string EngB15b0, .int .i64 (0 : Int), .int .i64 (0 : Int), .int .i64 (0 : Int), .slice none 0 0, .int .i64 (0 : Int), .int .i64 (0 : Int)]) (by kernel_rfl) ?_
 refine AtE.run 4 (fun W => by kernel_rfl) ?_
 refine AtE.new (fun B => .pointer (some ⟨B, 0, none⟩)) (.cells #[.int .i64 (0 : Int), .int .i64 (0 : Int), .string (⟨#[]⟩), .int .i64 (0 : Int), .int .i64 (0 : Int), .int .i64 (0 : Int), .slice none 0 0, .int .i64 (0 : Int), .int .i64 (0 : Int)] 26) (fun W => by kernel_rfl) (by kernel_rfl) (fun B1 => ?_)
 replace H := H B1
 refine AtE.store 1 0 (T := 26) (v := .agg #[.int .i64 (7 : Int), .int .i64 (5 : Int), .string (⟨#[67,105,116,121]⟩), .int .i64 (0 : Int), .int .i64 (0 : Int), .int .i64 (0 : Int), .slice none 0 0, .int .i64 (0 : Int), .int .i64 (0 : Int)]) (by kernel_rfl) ?_
 refine AtE.run 4 (fun W => by kernel_rfl) ?_
 refine AtE.new (fun B => .pointer (some ⟨B, 0, none⟩)) (.cells #[.int .i64 (0 : Int), .int .i64 (0 : Int), .string (⟨#[]⟩), .int .i64 (0 : Int), .int .i64 (0 : Int), .int .i64 (0 : Int), .slice none 0 0, .int .i64 (0 : Int), .int .i64 (0 : Int)] 26) (fun W => by kernel_rfl) (by kernel_rfl) (fun B2 => ?_)
 replace H := H B2
 refine AtE.store 2 0 (T := 26) (v := .agg #[.int .i64 (7 : Int), .int .i64 (3 : Int), .string (⟨#[]⟩), .int .i64 (3 : Int), .int .i64 (0 : Int), .int .i64 (0 : Int), .slice none 0 0, .int .i64 (0 : Int), .int .i64 (0 : Int)]) (by kernel_rfl) ?_
 refine AtE.run 6 (fun W => by kernel_rfl) ?_
 refine AtE.new (fun B => .slice (some ⟨B, 0, none⟩) 3 3) (.cells #[.int .i64 (1 : Int), .int .i64 (1 : Int), .string (⟨#[82,97,105,110]⟩), .int .i64 (0 : Int), .int .i64 (0 : Int), .int .i64 (0 : Int), .slice none 0 0, .int .i64 (0 : Int), .int .i64 (0 : Int), .int .i64 (2 : Int), .int .i64 (2 : Int), .string EngB15b1, .int .i64 (0 : Int), .int .i64 (0 : Int), .int .i64 (0 : Int), .slice none 0 0, .int .i64 (0 : Int), .int .i64 (0 : Int), .int .i64 (9 : Int), .int .i64 (5 : Int), .string (⟨#[114,97,105,110]⟩), .int .i64 (0 : Int), .int .i64 (0 : Int), .int .i64 (0 : Int), .slice none 0 0, .int .i64 (0 : Int), .int .i64 (0 : Int)] 26) (fun W => by kernel_rfl) (by kernel_rfl) (fun B3 => ?_)
 replace H := H B3
 refine AtE.norm (k' := [.inRegion (regOps [.code (EngB15s17 [1,1,1,1,0])]) [4], .code (EngB15s17 [1,1,1,1,1])]) (e' := [(1, .pointer (some ⟨B, 0, none⟩)), (2, .pointer (some ⟨B1, 0, none⟩)), (3, .pointer (some ⟨B2, 0, none⟩)), (20, .slice (some ⟨B3, 0, none⟩) 3 3)]) (L' := [(B, .cells #[.int .i64 (7 : Int), .int .i64 (5 : Int), .string EngB15b0, .int .i64 (0 : Int), .int .i64 (0 : Int), .int .i64 (0 : Int), .slice none 0 0, .int .i64 (0 : Int), .int .i64 (0 : Int)] 26), (B1, .cells #[.int .i64 (7 : Int), .int .i64 (5 : Int), .string (⟨#[67,105,116,121]⟩), .int .i64 (0 : Int), .int .i64 (0 : Int), .int .i64 (0 : Int), .slice none 0 0, .int .i64 (0 : Int), .int .i64 (0 : Int)] 26), (B2, .cells #[.int .i64 (7 : Int), .int .i64 (3 : Int), .string (⟨#[]⟩), .int .i64 (3 : Int), .int .i64 (0 : Int), .int .i64 (0 : Int), .slice none 0 0, .int .i64 (0 : Int), .int .i64 (0 : Int)] 26), (B3, .cells #[.int .i64 (1 : Int), .int .i64 (1 : Int), .string (⟨#[82,97,105,110]⟩), .int .i64 (0 : Int), .int .i64 (0 : Int), .int .i64 (0 : Int), .slice none 0 0, .int .i64 (0 : Int), .int .i64 (0 : Int), .int .i64 (2 : Int), .int .i64 (2 : Int), .string EngB15b1, .int .i64 (0 : Int), .int .i64 (0 : Int), .int .i64 (0 : Int), .slice none 0 0, .int .i64 (0 : Int), .int .i64 (0 : Int), .int .i64 (9 : Int), .int .i64 (5 : Int), .string (⟨#[114,97,105,110]⟩), .int .i64 (0 : Int), .int .i64 (0 : Int), .int .i64 (0 : Int), .slice none 0 0, .int .i64 (0 : Int), .int .i64 (0 : Int)] 26)]) ?_ (by kernel_rfl)
 refine AtE.run 5 (fun W => by kernel_rfl) ?_
 refine AtE.call 27 ⟨[.slice (some ⟨B3, 0, none⟩) 3 3]⟩ (fun W => by kernel_rfl) (by kernel_rfl) H ?_
 clear H
 rintro _ _ ⟨r1, r21, rfl, rfl, H⟩
 refine AtE.run 7 (fun W => by kernel_rfl) ?_
 refine AtE.norm (k' := [.code (EngB15s17 [1,1,1,1,1,1,0]), .code (EngB15s17 [1,1,1,1,1,1,1])]) (e' := [(1, .pointer (some ⟨B, 0, none⟩)), (2, .pointer (some ⟨B1, 0, none⟩)), (3, .pointer (some ⟨B2, 0, none⟩)), (4, .slice (some ⟨B3, 0, none⟩) 3 3), (5, .string r1), (6, .int .i64 r21)]) (L' := [(B, .cells #[.int .i64 (7 : Int), .int .i64 (5 : Int), .string EngB15b0, .int .i64 (0 : Int), .int .i64 (0 : Int), .int .i64 (0 : Int), .slice none 0 0, .int .i64 (0 : Int), .int .i64 (0 : Int)] 26), (B1, .cells #[.int .i64 (7 : Int), .int .i64 (5 : Int), .string (⟨#[67,105,116,121]⟩), .int .i64 (0 : Int), .int .i64 (0 : Int), .int .i64 (0 : Int), .slice none 0 0, .int .i64 (0 : Int), .int .i64 (0 : Int)] 26), (B2, .cells #[.int .i64 (7 : Int), .int .i64 (3 : Int), .string (⟨#[]⟩), .int .i64 (3 : Int), .int .i64 (0 : Int), .int .i64 (0 : Int), .slice none 0 0, .int .i64 (0 : Int), .int .i64 (0 : Int)] 26), (B3, .cells #[.int .i64 (1 : Int), .int .i64 (1 : Int), .string (⟨#[82,97,105,110]⟩), .int .i64 (0 : Int), .int .i64 (0 : Int), .int .i64 (0 : Int), .slice none 0 0, .int .i64 (0 : Int), .int .i64 (0 : Int), .int .i64 (2 : Int), .int .i64 (2 : Int), .string EngB15b1, .int .i64 (0 : Int), .int .i64 (0 : Int), .int .i64 (0 : Int), .slice none 0 0, .int .i64 (0 : Int), .int .i64 (0 : Int), .int .i64 (9 : Int), .int .i64 (5 : Int), .string (⟨#[114,97,105,110]⟩), .int .i64 (0 : Int), .int .i64 (0 : Int), .int .i64 (0 : Int), .slice none 0 0, .int .i64 (0 : Int), .int .i64 (0 : Int)] 26)]) ?_ (by kernel_rfl)
 refine AtE.drawD (by kernel_rfl) ?_
 refine AtD.norm (e' := [(1, .pointer (some ⟨B, 0, none⟩)), (2, .pointer (some ⟨B1, 0, none⟩)), (3, .pointer (some ⟨B2, 0, none⟩)), (4, .slice (some ⟨B3, 0, none⟩) 3 3), (5, .string r1), (6, .int .i64 r21)]) (L' := [(B, .cells #[.int .i64 (7 : Int), .int .i64 (5 : Int), .string EngB15b0, .int .i64 (0 : Int), .int .i64 (0 : Int), .int .i64 (0 : Int), .slice none 0 0, .int .i64 (0 : Int), .int .i64 (0 : Int)] 26), (B1, .cells #[.int .i64 (7 : Int), .int .i64 (5 : Int), .string (⟨#[67,105,116,121]⟩), .int .i64 (0 : Int), .int .i64 (0 : Int), .int .i64 (0 : Int), .slice none 0 0, .int .i64 (0 : Int), .int .i64 (0 : Int)] 26), (B2, .cells #[.int .i64 (7 : Int), .int .i64 (3 : Int), .string (⟨#[]⟩), .int .i64 (3 : Int), .int .i64 (0 : Int), .int .i64 (0 : Int), .slice none 0 0, .int .i64 (0 : Int), .int .i64 (0 : Int)] 26), (B3, .cells #[.int .i64 (1 : Int), .int .i64 (1 : Int), .string (⟨#[82,97,105,110]⟩), .int .i64 (0 : Int), .int .i64 (0 : Int), .int .i64 (0 : Int), .slice none 0 0, .int .i64 (0 : Int), .int .i64 (0 : Int), .int .i64 (2 : Int), .int .i64 (2 : Int), .string EngB15b1, .int .i64 (0 : Int), .int .i64 (0 : Int), .int .i64 (0 : Int), .slice none 0 0, .int .i64 (0 : Int), .int .i64 (0 : Int), .int .i64 (9 : Int), .int .i64 (5 : Int), .string (⟨#[114,97,105,110]⟩), .int .i64 (0 : Int), .int .i64 (0 : Int), .int .i64 (0 : Int), .slice none 0 0, .int .i64 (0 : Int), .int .i64 (0 : Int)] 26)]) ?_ (by kernel_rfl)
 refine AtD.phase 7 [0,1,2,3,4,5] [6] [(B, .cells #[.int .i64 (7 : Int), .int .i64 (5 : Int), .string EngB15b0, .int .i64 (0 : Int), .int .i64 (0 : Int), .int .i64 (0 : Int), .slice none 0 0, .int .i64 (0 : Int), .int .i64 (0 : Int)] 26), (B1, .cells #[.int .i64 (7 : Int), .int .i64 (5 : Int), .string (⟨#[67,105,116,121]⟩), .int .i64 (0 : Int), .int .i64 (0 : Int), .int .i64 (0 : Int), .slice none 0 0, .int .i64 (0 : Int), .int .i64 (0 : Int)] 26), (B2, .cells #[.int .i64 (7 : Int), .int .i64 (3 : Int), .string (⟨#[]⟩), .int .i64 (3 : Int), .int .i64 (0 : Int), .int .i64 (0 : Int), .slice none 0 0, .int .i64 (0 : Int), .int .i64 (0 : Int)] 26), (B3, .cells #[.int .i64 (1 : Int), .int .i64 (1 : Int), .string (⟨#[82,97,105,110]⟩), .int .i64 (0 : Int), .int .i64 (0 : Int), .int .i64 (0 : Int), .slice none 0 0, .int .i64 (0 : Int), .int .i64 (0 : Int), .int .i64 (2 : Int), .int .i64 (2 : Int), .string EngB15b1, .int .i64 (0 : Int), .int .i64 (0 : Int), .int .i64 (0 : Int), .slice none 0 0, .int .i64 (0 : Int), .int .i64 (0 : Int), .int .i64 (9 : Int), .int .i64 (5 : Int), .string (⟨#[114,97,105,110]⟩), .int .i64 (0 : Int), .int .i64 (0 : Int), .int .i64 (0 : Int), .slice none 0 0, .int .i64 (0 : Int), .int .i64 (0 : Int)] 26)] (by kernel_rfl) rfl ?_
 refine AtF.pure (by kernel_rfl) (fun W => by kernel_rfl) ?_
 refine AtF.pure (by kernel_rfl) (fun W => by kernel_rfl) ?_
 refine AtF.load 3 0 (T := 26) (v := .agg #[.int .i64 (1 : Int), .int .i64 (1 : Int), .string (⟨#[82,97,105,110]⟩), .int .i64 (0 : Int), .int .i64 (0 : Int), .int .i64 (0 : Int), .slice none 0 0, .int .i64 (0 : Int), .int .i64 (0 : Int)]) (by kernel_rfl) ?_
 refine AtF.pure (by kernel_rfl) (fun W => by kernel_rfl) ?_
 refine AtF.pure (by kernel_rfl) (fun W => by kernel_rfl) ?_
 refine AtF.load 3 0 (T := 26) (v := .agg #[.int .i64 (1 : Int), .int .i64 (1 : Int), .string (⟨#[82,97,105,110]⟩), .int .i64 (0 : Int), .int .i64 (0 : Int), .int .i64 (0 : Int), .slice none 0 0, .int .i64 (0 : Int), .int .i64 (0 : Int)]) (by kernel_rfl) ?_
 refine AtF.done (by kernel_rfl) ?_
 refine AtM.new _ (fun B => .slice (some ⟨B, 0, none⟩) 2 2) (.cells #[.int .i64 (1 : Int), .int .i64 (1 : Int), .string (⟨#[82,97,105,110]⟩), .int .i64 (0 : Int), .int .i64 (0 : Int), .int .i64 (0 : Int), .slice none 0 0, .int .i64 (0 : Int), .int .i64 (0 : Int), .int .i64 (1 : Int), .int .i64 (1 : Int), .string (⟨#[82,97,105,110]⟩), .int .i64 (0 : Int), .int .i64 (0 : Int), .int .i64 (0 : Int), .slice none 0 0, .int .i64 (0 : Int), .int .i64 (0 : Int)] 26) rfl (fun W => by kernel_rfl) (by kernel_rfl) (fun B4 => ?_)
 replace H := H B4
 refine AtM.done _ (by kernel_rfl) rfl ?_
 refine AtD.norm (e' := [(1, .pointer (some ⟨B, 0, none⟩)), (2, .pointer (some ⟨B1, 0, none⟩)), (3, .pointer (some ⟨B2, 0, none⟩)), (4, .slice (some ⟨B3, 0, none⟩) 3 3), (5, .string r1), (6, .int .i64 r21), (33, .slice (some ⟨B4, 0, none⟩) 2 2)]) (L' := [(B, .cells #[.int .i64 (7 : Int), .int .i64 (5 : Int), .string EngB15b0, .int .i64 (0 : Int), .int .i64 (0 : Int), .int .i64 (0 : Int), .slice none 0 0, .int .i64 (0 : Int), .int .i64 (0 : Int)] 26), (B1, .cells #[.int .i64 (7 : Int), .int .i64 (5 : Int), .string (⟨#[67,105,116,121]⟩), .int .i64 (0 : Int), .int .i64 (0 : Int), .int .i64 (0 : Int), .slice none 0 0, .int .i64 (0 : Int), .int .i64 (0 : Int)] 26), (B2, .cells #[.int .i64 (7 : Int), .int .i64 (3 : Int), .string (⟨#[]⟩), .int .i64 (3 : Int), .int .i64 (0 : Int), .int .i64 (0 : Int), .slice none 0 0, .int .i64 (0 : Int), .int .i64 (0 : Int)] 26), (B3, .cells #[.int .i64 (1 : Int), .int .i64 (1 : Int), .string (⟨#[82,97,105,110]⟩), .int .i64 (0 : Int), .int .i64 (0 : Int), .int .i64 (0 : Int), .slice none 0 0, .int .i64 (0 : Int), .int .i64 (0 : Int), .int .i64 (2 : Int), .int .i64 (2 : Int), .string EngB15b1, .int .i64 (0 : Int), .int .i64 (0 : Int), .int .i64 (0 : Int), .slice none 0 0, .int .i64 (0 : Int), .int .i64 (0 : Int), .int .i64 (9 : Int), .int .i64 (5 : Int), .string (⟨#[114,97,105,110]⟩), .int .i64 (0 : Int), .int .i64 (0 : Int), .int .i64 (0 : Int), .slice none 0 0, .int .i64 (0 : Int), .int .i64 (0 : Int)] 26), (B4, .cells #[.int .i64 (1 : Int), .int .i64 (1 : Int), .string (⟨#[82,97,105,110]⟩), .int .i64 (0 : Int), .int .i64 (0 : Int), .int .i64 (0 : Int), .slice none 0 0, .int .i64 (0 : Int), .int .i64 (0 : Int), .int .i64 (1 : Int), .int .i64 (1 : Int), .string (⟨#[82,97,105,110]⟩), .int .i64 (0 : Int), .int .i64 (0 : Int), .int .i64 (0 : Int), .slice none 0 0, .int .i64 (0 : Int), .int .i64 (0 : Int)] 26)]) ?_ (by kernel_rfl)
 refine AtD.phase 13 [7,8,9,10,11,12] [] [(B, .cells #[.int .i64 (7 : Int), .int .i64 (5 : Int), .string EngB15b0, .int .i64 (0 : Int), .int .i64 (0 : Int), .int .i64 (0 : Int), .slice none 0 0, .int .i64 (0 : Int), .int .i64 (0 : Int)] 26), (B1, .cells #[.int .i64 (7 : Int), .int .i64 (5 : Int), .string (⟨#[67,105,116,121]⟩), .int .i64 (0 : Int), .int .i64 (0 : Int), .int .i64 (0 : Int), .slice none 0 0, .int .i64 (0 : Int), .int .i64 (0 : Int)] 26), (B2, .cells #[.int .i64 (7 : Int), .int .i64 (3 : Int), .string (⟨#[]⟩), .int .i64 (3 : Int), .int .i64 (0 : Int), .int .i64 (0 : Int), .slice none 0 0, .int .i64 (0 : Int), .int .i64 (0 : Int)] 26), (B3, .cells #[.int .i64 (1 : Int), .int .i64 (1 : Int), .string (⟨#[82,97,105,110]⟩), .int .i64 (0 : Int), .int .i64 (0 : Int), .int .i64 (0 : Int), .slice none 0 0, .int .i64 (0 : Int), .int .i64 (0 : Int), .int .i64 (2 : Int), .int .i64 (2 : Int), .string EngB15b1, .int .i64 (0 : Int), .int .i64 (0 : Int), .int .i64 (0 : Int), .slice none 0 0, .int .i64 (0 : Int), .int .i64 (0 : Int), .int .i64 (9 : Int), .int .i64 (5 : Int), .string (⟨#[114,97,105,110]⟩), .int .i64 (0 : Int), .int .i64 (0 : Int), .int .i64 (0 : Int), .slice none 0 0, .int .i64 (0 : Int), .int .i64 (0 : Int)] 26), (B4, .cells #[.int .i64 (1 : Int), .int .i64 (1 : Int), .string (⟨#[82,97,105,110]⟩), .int .i64 (0 : Int), .int .i64 (0 : Int), .int .i64 (0 : Int), .slice none 0 0, .int .i64 (0 : Int), .int .i64 (0 : Int), .int .i64 (1 : Int), .int .i64 (1 : Int), .string (⟨#[82,97,105,110]⟩), .int .i64 (0 : Int), .int .i64 (0 : Int), .int .i64 (0 : Int), .slice none 0 0, .int .i64 (0 : Int), .int .i64 (0 : Int)] 26)] (by kernel_rfl) rfl ?_
 obtain ⟨r31, r41, hq, H⟩ := H
 refine AtF.call 27 ⟨[.slice (some ⟨B4, 0, none⟩) 2 2]⟩ (fun W => by kernel_rfl) (by kernel_rfl) hq ?_
 refine AtF.pure (by kernel_rfl) (fun W => by kernel_rfl) ?_
 refine AtF.pure (by kernel_rfl) (fun W => by kernel_rfl) ?_
 refine AtF.pure (by kernel_rfl) (fun W => by kernel_rfl) ?_
 refine AtF.pure (by kernel_rfl) (fun W => by kernel_rfl) ?_
 refine AtF.pure (by kernel_rfl) (fun W => by kernel_rfl) ?_
 refine AtF.done (by kernel_rfl) ?_
 refine AtM.done _ (by kernel_rfl) rfl ?_
 refine AtD.norm (e' := [(1, .pointer (some ⟨B, 0, none⟩)), (2, .pointer (some ⟨B1, 0, none⟩)), (3, .pointer (some ⟨B2, 0, none⟩)), (4, .slice (some ⟨B3, 0, none⟩) 3 3), (5, .string r1), (6, .int .i64 r21), (8, .int .i64 r41)]) (L' := [(B, .cells #[.int .i64 (7 : Int), .int .i64 (5 : Int), .string EngB15b0, .int .i64 (0 : Int), .int .i64 (0 : Int), .int .i64 (0 : Int), .slice none 0 0, .int .i64 (0 : Int), .int .i64 (0 : Int)] 26), (B1, .cells #[.int .i64 (7 : Int), .int .i64 (5 : Int), .string (⟨#[67,105,116,121]⟩), .int .i64 (0 : Int), .int .i64 (0 : Int), .int .i64 (0 : Int), .slice none 0 0, .int .i64 (0 : Int), .int .i64 (0 : Int)] 26), (B2, .cells #[.int .i64 (7 : Int), .int .i64 (3 : Int), .string (⟨#[]⟩), .int .i64 (3 : Int), .int .i64 (0 : Int), .int .i64 (0 : Int), .slice none 0 0, .int .i64 (0 : Int), .int .i64 (0 : Int)] 26), (B3, .cells #[.int .i64 (1 : Int), .int .i64 (1 : Int), .string (⟨#[82,97,105,110]⟩), .int .i64 (0 : Int), .int .i64 (0 : Int), .int .i64 (0 : Int), .slice none 0 0, .int .i64 (0 : Int), .int .i64 (0 : Int), .int .i64 (2 : Int), .int .i64 (2 : Int), .string EngB15b1, .int .i64 (0 : Int), .int .i64 (0 : Int), .int .i64 (0 : Int), .slice none 0 0, .int .i64 (0 : Int), .int .i64 (0 : Int), .int .i64 (9 : Int), .int .i64 (5 : Int), .string (⟨#[114,97,105,110]⟩), .int .i64 (0 : Int), .int .i64 (0 : Int), .int .i64 (0 : Int), .slice none 0 0, .int .i64 (0 : Int), .int .i64 (0 : Int)] 26), (B4, .cells #[.int .i64 (1 : Int), .int .i64 (1 : Int), .string (⟨#[82,97,105,110]⟩), .int .i64 (0 : Int), .int .i64 (0 : Int), .int .i64 (0 : Int), .slice none 0 0, .int .i64 (0 : Int), .int .i64 (0 : Int), .int .i64 (1 : Int), .int .i64 (1 : Int), .string (⟨#[82,97,105,110]⟩), .int .i64 (0 : Int), .int .i64 (0 : Int), .int .i64 (0 : Int), .slice none 0 0, .int .i64 (0 : Int), .int .i64 (0 : Int)] 26)]) ?_ (by kernel_rfl)
 refine AtD.tail (by kernel_rfl) ?_
 refine AtE.run 4 (fun W => by kernel_rfl) ?_
 refine AtE.call 29 ⟨[.string r1]⟩ (fun W => by kernel_rfl) (by kernel_rfl) H ?_
 clear H
 rintro _ _ ⟨r51_p, r51_l, r51_c, r61, F, rfl, rfl, H⟩
 refine AtE.run 9 (fun W => by kernel_rfl) ?_
 refine AtE.concat (x := r1) (y := ⟨#[120]⟩) (by kernel_rfl) H.1 ?_
 replace H := H.2
 refine AtE.call 29 ⟨[.string (r1 ++ (⟨#[120]⟩ : ByteArray))]⟩ (fun W => by kernel_rfl) (by kernel_rfl) H ?_
 clear H
 rintro _ _ ⟨r71_p, r71_l, r71_c, r81, F1, rfl, rfl, H⟩
 refine AtE.run 8 (fun W => by kernel_rfl) ?_
 refine AtE.call 32 ⟨[.string (⟨#[68,114,46,32,74,46,32,83,109,105,116,104,32,32,119,111,110,46,32,32,82,101,97,108,108,121,63,33,32,65,116,32,51,46,53,32,116,111,32,49]⟩)]⟩ (fun W => by kernel_rfl) (by kernel_rfl) H ?_
 clear H
 rintro _ _ ⟨r91_p, r91_l, r91_c, F2, rfl, rfl, H⟩
 refine AtE.run 4 (fun W => by kernel_rfl) ?_
 refine AtE.load 0 0 (T := 26) (v := .agg #[.int .i64 (7 : Int), .int .i64 (5 : Int), .string EngB15b0, .int .i64 (0 : Int), .int .i64 (0 : Int), .int .i64 (0 : Int), .slice none 0 0, .int .i64 (0 : Int), .int .i64 (0 : Int)]) (by kernel_rfl) ?_
 refine AtE.call 19 ⟨[.agg #[.int .i64 (7 : Int), .int .i64 (5 : Int), .string EngB15b0, .int .i64 (0 : Int), .int .i64 (0 : Int), .int .i64 (0 : Int), .slice none 0 0, .int .i64 (0 : Int), .int .i64 (0 : Int)]]⟩ (fun W => by kernel_rfl) (by kernel_rfl) H ?_
 clear H
 rintro _ _ ⟨r101, rfl, rfl, H⟩
 refine AtE.run 1 (fun W => by kernel_rfl) ?_
 refine AtE.split 51 (b := r101) (by kernel_rfl) (fun h1' => ?_) (fun h1' => ?_)
 ·replace H := H.1 h1'
  refine AtE.norm (k' := [.inRegion (regOps [.code (EngB15s17 [1,1,1,1,1,1,1,1,1,1,0])]) [3,4,5,6,7,8,9,10,11,12,13,14,15,16,17,18,19,20,21,22,23,24,25,26,27,28,29,30,31,32,33,34,35,36,37,38,39,40,41,42,43,44,45,46,47,48,49,50,51,52,53,54,55,56,57,58,59,60,61,62,63,64,65,66,67], .code (EngB15s17 [1,1,1,1,1,1,1,1,1,1,1])]) (e' := [(2, .pointer (some ⟨B1, 0, none⟩)), (3, .pointer (some ⟨B2, 0, none⟩)), (4, .slice (some ⟨B3, 0, none⟩) 3 3), (6, .int .i64 r21), (8, .int .i64 r41), (9, .slice r51_p r51_l r51_c), (10, .int .i64 r61), (12, .int .i64 r81), (13, .slice r91_p r91_l r91_c), (51, .bool true)]) (L' := ((B, .cells #[.int .i64 (7 : Int), .int .i64 (5 : Int), .string EngB15b0, .int .i64 (0 : Int), .int .i64 (0 : Int), .int .i64 (0 : Int), .slice none 0 0, .int .i64 (0 : Int), .int .i64 (0 : Int)] 26) :: (B1, .cells #[.int .i64 (7 : Int), .int .i64 (5 : Int), .string (⟨#[67,105,116,121]⟩), .int .i64 (0 : Int), .int .i64 (0 : Int), .int .i64 (0 : Int), .slice none 0 0, .int .i64 (0 : Int), .int .i64 (0 : Int)] 26) :: (B2, .cells #[.int .i64 (7 : Int), .int .i64 (3 : Int), .string (⟨#[]⟩), .int .i64 (3 : Int), .int .i64 (0 : Int), .int .i64 (0 : Int), .slice none 0 0, .int .i64 (0 : Int), .int .i64 (0 : Int)] 26) :: (B3, .cells #[.int .i64 (1 : Int), .int .i64 (1 : Int), .string (⟨#[82,97,105,110]⟩), .int .i64 (0 : Int), .int .i64 (0 : Int), .int .i64 (0 : Int), .slice none 0 0, .int .i64 (0 : Int), .int .i64 (0 : Int), .int .i64 (2 : Int), .int .i64 (2 : Int), .string EngB15b1, .int .i64 (0 : Int), .int .i64 (0 : Int), .int .i64 (0 : Int), .slice none 0 0, .int .i64 (0 : Int), .int .i64 (0 : Int), .int .i64 (9 : Int), .int .i64 (5 : Int), .string (⟨#[114,97,105,110]⟩), .int .i64 (0 : Int), .int .i64 (0 : Int), .int .i64 (0 : Int), .slice none 0 0, .int .i64 (0 : Int), .int .i64 (0 : Int)] 26) :: (B4, .cells #[.int .i64 (1 : Int), .int .i64 (1 : Int), .string (⟨#[82,97,105,110]⟩), .int .i64 (0 : Int), .int .i64 (0 : Int), .int .i64 (0 : Int), .slice none 0 0, .int .i64 (0 : Int), .int .i64 (0 : Int), .int .i64 (1 : Int), .int .i64 (1 : Int), .string (⟨#[82,97,105,110]⟩), .int .i64 (0 : Int), .int .i64 (0 : Int), .int .i64 (0 : Int), .slice none 0 0, .int .i64 (0 : Int), .int .i64 (0 : Int)] 26) :: F2)) ?_ (by kernel_rfl)
  refine AtE.load 1 0 (T := 26) (v := .agg #[.int .i64 (7 : Int), .int .i64 (5 : Int), .string (⟨#[67,105,116,121]⟩), .int .i64 (0 : Int), .int .i64 (0 : Int), .int .i64 (0 : Int), .slice none 0 0, .int .i64 (0 : Int), .int .i64 (0 : Int)]) (by kernel_rfl) ?_
  refine AtE.call 19 ⟨[.agg #[.int .i64 (7 : Int), .int .i64 (5 : Int), .string (⟨#[67,105,116,121]⟩), .int .i64 (0 : Int), .int .i64 (0 : Int), .int .i64 (0 : Int), .slice none 0 0, .int .i64 (0 : Int), .int .i64 (0 : Int)]]⟩ (fun W => by kernel_rfl) (by kernel_rfl) H ?_
  clear H
  rintro _ _ ⟨r111, rfl, rfl, H⟩
  refine AtE.split 53 (b := r111) (by kernel_rfl) (fun h2' => ?_) (fun h2' => ?_)
  ·replace H := H.1 h2'
   refine AtE.run 64 (fun W => by kernel_rfl) ?_
   exact AtE.ret Tryd.func17 (by kernel_rfl) H
  ·replace H := H.2 h2'
   refine AtE.run 3 (fun W => by kernel_rfl) ?_
   refine AtE.load 2 0 (T := 26) (v := .agg #[.int .i64 (7 : Int), .int .i64 (3 : Int), .string (⟨#[]⟩), .int .i64 (3 : Int), .int .i64 (0 : Int), .int .i64 (0 : Int), .slice none 0 0, .int .i64 (0 : Int), .int .i64 (0 : Int)]) (by kernel_rfl) ?_
   refine AtE.call 19 ⟨[.agg #[.int .i64 (7 : Int), .int .i64 (3 : Int), .string (⟨#[]⟩), .int .i64 (3 : Int), .int .i64 (0 : Int), .int .i64 (0 : Int), .slice none 0 0, .int .i64 (0 : Int), .int .i64 (0 : Int)]]⟩ (fun W => by kernel_rfl) (by kernel_rfl) H ?_
   clear H
   rintro _ _ ⟨r121, rfl, rfl, H⟩
   refine AtE.split 58 (b := r121) (by kernel_rfl) (fun h3' => ?_) (fun h3' => ?_)
   ·replace H := H.1 h3'
    refine AtE.run 59 (fun W => by kernel_rfl) ?_
    exact AtE.ret Tryd.func17 (by kernel_rfl) H
   ·replace H := H.2 h3'
    refine AtE.run 7 (fun W => by kernel_rfl) ?_
    refine AtE.splitP 65 (p := r21 = (0 : Int)) (by kernel_rfl) (fun h4' => ?_) (fun h4' => ?_)
    ·replace H := H.1 h4'
     refine AtE.norm (k' := [.inRegion (regOps [.code (EngB15s17 [1,1,1,1,1,1,1,1,1,1,0])]) [17,18,19,20,21,22,23,24,25,26,27,28,29,30,31,32,33,34,35,36,37,38,39,40,41,42,43,44,45,46,47,48,49,50,51,52,53,54,55,56,57,58,59,60,61,62,63,64,65,66,67], .code (EngB15s17 [1,1,1,1,1,1,1,1,1,1,1])]) (e' := [(4, .slice (some ⟨B3, 0, none⟩) 3 3), (8, .int .i64 r41), (9, .slice r51_p r51_l r51_c), (10, .int .i64 r61), (12, .int .i64 r81), (13, .slice r91_p r91_l r91_c), (65, .bool true)]) (L' := ((B, .cells #[.int .i64 (7 : Int), .int .i64 (5 : Int), .string EngB15b0, .int .i64 (0 : Int), .int .i64 (0 : Int), .int .i64 (0 : Int), .slice none 0 0, .int .i64 (0 : Int), .int .i64 (0 : Int)] 26) :: (B1, .cells #[.int .i64 (7 : Int), .int .i64 (5 : Int), .string (⟨#[67,105,116,121]⟩), .int .i64 (0 : Int), .int .i64 (0 : Int), .int .i64 (0 : Int), .slice none 0 0, .int .i64 (0 : Int), .int .i64 (0 : Int)] 26) :: (B2, .cells #[.int .i64 (7 : Int), .int .i64 (3 : Int), .string (⟨#[]⟩), .int .i64 (3 : Int), .int .i64 (0 : Int), .int .i64 (0 : Int), .slice none 0 0, .int .i64 (0 : Int), .int .i64 (0 : Int)] 26) :: (B3, .cells #[.int .i64 (1 : Int), .int .i64 (1 : Int), .string (⟨#[82,97,105,110]⟩), .int .i64 (0 : Int), .int .i64 (0 : Int), .int .i64 (0 : Int), .slice none 0 0, .int .i64 (0 : Int), .int .i64 (0 : Int), .int .i64 (2 : Int), .int .i64 (2 : Int), .string EngB15b1, .int .i64 (0 : Int), .int .i64 (0 : Int), .int .i64 (0 : Int), .slice none 0 0, .int .i64 (0 : Int), .int .i64 (0 : Int), .int .i64 (9 : Int), .int .i64 (5 : Int), .string (⟨#[114,97,105,110]⟩), .int .i64 (0 : Int), .int .i64 (0 : Int), .int .i64 (0 : Int), .slice none 0 0, .int .i64 (0 : Int), .int .i64 (0 : Int)] 26) :: (B4, .cells #[.int .i64 (1 : Int), .int .i64 (1 : Int), .string (⟨#[82,97,105,110]⟩), .int .i64 (0 : Int), .int .i64 (0 : Int), .int .i64 (0 : Int), .slice none 0 0, .int .i64 (0 : Int), .int .i64 (0 : Int), .int .i64 (1 : Int), .int .i64 (1 : Int), .string (⟨#[82,97,105,110]⟩), .int .i64 (0 : Int), .int .i64 (0 : Int), .int .i64 (0 : Int), .slice none 0 0, .int .i64 (0 : Int), .int .i64 (0 : Int)] 26) :: F2)) ?_ (by kernel_rfl)
     refine AtE.run 4 (fun W => by kernel_rfl) ?_
     refine AtE.splitP 69 (p := r41 = (30 : Int)) (by kernel_rfl) (fun h5' => ?_) (fun h5' => ?_)
     ·replace H := H.1 h5'
      refine AtE.run 4 (fun W => by kernel_rfl) ?_
      refine AtE.splitP 73 (p := r61 = (0 : Int)) (by kernel_rfl) (fun h6' => ?_) (fun h6' => ?_)
      ·replace H := H.1 h6'
       refine AtE.run 2 (fun W => by kernel_rfl) ?_
       refine AtE.call 25 ⟨[.slice (some ⟨B3, 0, none⟩) 3 3, .slice r51_p r51_l r51_c]⟩ (fun W => by kernel_rfl) (by kernel_rfl) H ?_
       clear H
       rintro _ _ ⟨r131, rfl, rfl, H⟩
       refine AtE.run 2 (fun W => by kernel_rfl) ?_
       refine AtE.split 78 (b := r131) (by kernel_rfl) (fun h7' => ?_) (fun h7' => ?_)
       ·replace H := H.1 h7'
        refine AtE.run 4 (fun W => by kernel_rfl) ?_
        refine AtE.splitP 82 (p := r81 = (10 : Int)) (by kernel_rfl) (fun h8' => ?_) (fun h8' => ?_)
        ·replace H := H.1 h8'
         refine AtE.run 5 (fun W => by kernel_rfl) ?_
         refine AtE.splitP 87 (p := (r91_l : Int) = (4 : Int)) (by kernel_rfl) (fun h9' => ?_) (fun h9' => ?_)
         ·replace H := H.1 h9'
          refine AtE.run 1 (fun W => by kernel_rfl) ?_
          obtain ⟨r91_pb, r91_po, rfl, H⟩ := H
          refine AtE.norm (k' := [.inRegion (regOps [.code (EngB15s17 [1,1,1,1,1,1,1,1,1,1,0])]) [40,41,42,43,44,45,46,47,48,49,50,51,52,53,54,55,56,57,58,59,60,61,62,63,64,65,66,67], .code (EngB15s17 [1,1,1,1,1,1,1,1,1,1,1])]) (e' := [(4, .slice (some ⟨B3, 0, none⟩) 3 3), (13, .slice (some ⟨r91_pb, r91_po, none⟩) r91_l r91_c), (87, .bool true), (88, .slice (some ⟨r91_pb, r91_po, none⟩) r91_l r91_c)]) (L' := ((B, .cells #[.int .i64 (7 : Int), .int .i64 (5 : Int), .string EngB15b0, .int .i64 (0 : Int), .int .i64 (0 : Int), .int .i64 (0 : Int), .slice none 0 0, .int .i64 (0 : Int), .int .i64 (0 : Int)] 26) :: (B1, .cells #[.int .i64 (7 : Int), .int .i64 (5 : Int), .string (⟨#[67,105,116,121]⟩), .int .i64 (0 : Int), .int .i64 (0 : Int), .int .i64 (0 : Int), .slice none 0 0, .int .i64 (0 : Int), .int .i64 (0 : Int)] 26) :: (B2, .cells #[.int .i64 (7 : Int), .int .i64 (3 : Int), .string (⟨#[]⟩), .int .i64 (3 : Int), .int .i64 (0 : Int), .int .i64 (0 : Int), .slice none 0 0, .int .i64 (0 : Int), .int .i64 (0 : Int)] 26) :: (B3, .cells #[.int .i64 (1 : Int), .int .i64 (1 : Int), .string (⟨#[82,97,105,110]⟩), .int .i64 (0 : Int), .int .i64 (0 : Int), .int .i64 (0 : Int), .slice none 0 0, .int .i64 (0 : Int), .int .i64 (0 : Int), .int .i64 (2 : Int), .int .i64 (2 : Int), .string EngB15b1, .int .i64 (0 : Int), .int .i64 (0 : Int), .int .i64 (0 : Int), .slice none 0 0, .int .i64 (0 : Int), .int .i64 (0 : Int), .int .i64 (9 : Int), .int .i64 (5 : Int), .string (⟨#[114,97,105,110]⟩), .int .i64 (0 : Int), .int .i64 (0 : Int), .int .i64 (0 : Int), .slice none 0 0, .int .i64 (0 : Int), .int .i64 (0 : Int)] 26) :: (B4, .cells #[.int .i64 (1 : Int), .int .i64 (1 : Int), .string (⟨#[82,97,105,110]⟩), .int .i64 (0 : Int), .int .i64 (0 : Int), .int .i64 (0 : Int), .slice none 0 0, .int .i64 (0 : Int), .int .i64 (0 : Int), .int .i64 (1 : Int), .int .i64 (1 : Int), .string (⟨#[82,97,105,110]⟩), .int .i64 (0 : Int), .int .i64 (0 : Int), .int .i64 (0 : Int), .slice none 0 0, .int .i64 (0 : Int), .int .i64 (0 : Int)] 26) :: F2)) ?_ (by kernel_rfl)
          refine AtE.indexAddrL (E := 9) (b := r91_pb) (o := r91_po) (len := r91_l) (cap := r91_c) (sz := 1) (o' := (r91_po + (0))) (kd := .i64) (i := (0 : Int)) (by kernel_rfl) H.1 (by omega) ?_
          replace H := H.2
          obtain ⟨cw, m1, hw, hx, H⟩ := H
          refine AtE.loadM (b := r91_pb) (off := (r91_po + (0))) (T := 9) (v := .string m1) (by kernel_rfl) List.not_mem_nil hw (valAt_one hx (by kernel_rfl)) ?_
          refine AtE.run 3 (fun W => by kernel_rfl) ?_
          refine AtE.splitS 93 (x := m1) (y := (⟨#[68,114,46]⟩ : ByteArray)) (by kernel_rfl) (fun h10' => ?_) (fun h10' => ?_)
          ·replace H := H.1 h10'
           refine AtE.run 1 (fun W => by kernel_rfl) ?_
           refine AtE.indexAddrL (E := 9) (b := r91_pb) (o := r91_po) (len := r91_l) (cap := r91_c) (sz := 1) (o' := (r91_po + (1))) (kd := .i64) (i := (1 : Int)) (by kernel_rfl) H.1 (by omega) ?_
           replace H := H.2
           obtain ⟨cw1, m21, hw, hx, H⟩ := H
           refine AtE.loadM (b := r91_pb) (off := (r91_po + (1))) (T := 9) (v := .string m21) (by kernel_rfl) List.not_mem_nil hw (valAt_one hx (by kernel_rfl)) ?_
           refine AtE.run 3 (fun W => by kernel_rfl) ?_
           refine AtE.splitS 99 (x := m21) (y := (⟨#[74,46,32,83,109,105,116,104,32,32,119,111,110,46]⟩ : ByteArray)) (by kernel_rfl) (fun h11' => ?_) (fun h11' => ?_)
           ·replace H := H.1 h11'
            refine AtE.run 1 (fun W => by kernel_rfl) ?_
            refine AtE.indexAddrL (E := 9) (b := r91_pb) (o := r91_po) (len := r91_l) (cap := r91_c) (sz := 1) (o' := (r91_po + (2))) (kd := .i64) (i := (2 : Int)) (by kernel_rfl) H.1 (by omega) ?_
            replace H := H.2
            refine AtE.norm (k' := [.inRegion (regOps [.code (EngB15s17 [1,1,1,1,1,1,1,1,1,1,0])]) [53,54,55,56,57,58,59,60,61,62,63,64,65,66,67], .code (EngB15s17 [1,1,1,1,1,1,1,1,1,1,1])]) (e' := [(4, .slice (some ⟨B3, 0, none⟩) 3 3), (13, .slice (some ⟨r91_pb, r91_po, none⟩) r91_l r91_c), (99, .bool true), (101, .pointer (some ⟨r91_pb, (r91_po + (2)), none⟩))]) (L' := ((B, .cells #[.int .i64 (7 : Int), .int .i64 (5 : Int), .string EngB15b0, .int .i64 (0 : Int), .int .i64 (0 : Int), .int .i64 (0 : Int), .slice none 0 0, .int .i64 (0 : Int), .int .i64 (0 : Int)] 26) :: (B1, .cells #[.int .i64 (7 : Int), .int .i64 (5 : Int), .string (⟨#[67,105,116,121]⟩), .int .i64 (0 : Int), .int .i64 (0 : Int), .int .i64 (0 : Int), .slice none 0 0, .int .i64 (0 : Int), .int .i64 (0 : Int)] 26) :: (B2, .cells #[.int .i64 (7 : Int), .int .i64 (3 : Int), .string (⟨#[]⟩), .int .i64 (3 : Int), .int .i64 (0 : Int), .int .i64 (0 : Int), .slice none 0 0, .int .i64 (0 : Int), .int .i64 (0 : Int)] 26) :: (B3, .cells #[.int .i64 (1 : Int), .int .i64 (1 : Int), .string (⟨#[82,97,105,110]⟩), .int .i64 (0 : Int), .int .i64 (0 : Int), .int .i64 (0 : Int), .slice none 0 0, .int .i64 (0 : Int), .int .i64 (0 : Int), .int .i64 (2 : Int), .int .i64 (2 : Int), .string EngB15b1, .int .i64 (0 : Int), .int .i64 (0 : Int), .int .i64 (0 : Int), .slice none 0 0, .int .i64 (0 : Int), .int .i64 (0 : Int), .int .i64 (9 : Int), .int .i64 (5 : Int), .string (⟨#[114,97,105,110]⟩), .int .i64 (0 : Int), .int .i64 (0 : Int), .int .i64 (0 : Int), .slice none 0 0, .int .i64 (0 : Int), .int .i64 (0 : Int)] 26) :: (B4, .cells #[.int .i64 (1 : Int), .int .i64 (1 : Int), .string (⟨#[82,97,105,110]⟩), .int .i64 (0 : Int), .int .i64 (0 : Int), .int .i64 (0 : Int), .slice none 0 0, .int .i64 (0 : Int), .int .i64 (0 : Int), .int .i64 (1 : Int), .int .i64 (1 : Int), .string (⟨#[82,97,105,110]⟩), .int .i64 (0 : Int), .int .i64 (0 : Int), .int .i64 (0 : Int), .slice none 0 0, .int .i64 (0 : Int), .int .i64 (0 : Int)] 26) :: F2)) ?_ (by kernel_rfl)
            obtain ⟨cw2, m31, hw, hx, H⟩ := H
            refine AtE.loadM (b := r91_pb) (off := (r91_po + (2))) (T := 9) (v := .string m31) (by kernel_rfl) List.not_mem_nil hw (valAt_one hx (by kernel_rfl)) ?_
            refine AtE.run 3 (fun W => by kernel_rfl) ?_
            refine AtE.splitS 105 (x := m31) (y := (⟨#[82,101,97,108,108,121,63,33]⟩ : ByteArray)) (by kernel_rfl) (fun h12' => ?_) (fun h12' => ?_)
            ·replace H := H.1 h12'
             refine AtE.run 1 (fun W => by kernel_rfl) ?_
             refine AtE.indexAddrL (E := 9) (b := r91_pb) (o := r91_po) (len := r91_l) (cap := r91_c) (sz := 1) (o' := (r91_po + (3))) (kd := .i64) (i := (3 : Int)) (by kernel_rfl) H.1 (by omega) ?_
             replace H := H.2
             obtain ⟨cw3, m41, hw, hx, H⟩ := H
             refine AtE.loadM (b := r91_pb) (off := (r91_po + (3))) (T := 9) (v := .string m41) (by kernel_rfl) List.not_mem_nil hw (valAt_one hx (by kernel_rfl)) ?_
             refine AtE.run 3 (fun W => by kernel_rfl) ?_
             refine AtE.splitS 111 (x := m41) (y := (⟨#[65,116,32,51,46,53,32,116,111,32,49]⟩ : ByteArray)) (by kernel_rfl) (fun h13' => ?_) (fun h13' => ?_)
             ·replace H := H.1 h13'
              refine AtE.run 1 (fun W => by kernel_rfl) ?_
              refine AtE.call 34 ⟨[.slice (some ⟨B3, 0, none⟩) 3 3]⟩ (fun W => by kernel_rfl) (by kernel_rfl) H ?_
              clear H
              rintro _ _ ⟨r141, rfl, rfl, H⟩
              refine AtE.run 4 (fun W => by kernel_rfl) ?_
              exact AtE.ret Tryd.func17 (by kernel_rfl) H
             ·replace H := H.2 h13'
              refine AtE.run 6 (fun W => by kernel_rfl) ?_
              exact AtE.ret Tryd.func17 (by kernel_rfl) H
            ·replace H := H.2 h12'
             refine AtE.run 12 (fun W => by kernel_rfl) ?_
             exact AtE.ret Tryd.func17 (by kernel_rfl) H
           ·replace H := H.2 h11'
            refine AtE.run 18 (fun W => by kernel_rfl) ?_
            exact AtE.ret Tryd.func17 (by kernel_rfl) H
          ·replace H := H.2 h10'
           refine AtE.run 24 (fun W => by kernel_rfl) ?_
           exact AtE.ret Tryd.func17 (by kernel_rfl) H
         ·replace H := H.2 h9'
          refine AtE.run 30 (fun W => by kernel_rfl) ?_
          exact AtE.ret Tryd.func17 (by kernel_rfl) H
        ·replace H := H.2 h8'
         refine AtE.run 35 (fun W => by kernel_rfl) ?_
         exact AtE.ret Tryd.func17 (by kernel_rfl) H
       ·replace H := H.2 h7'
        refine AtE.run 39 (fun W => by kernel_rfl) ?_
        exact AtE.ret Tryd.func17 (by kernel_rfl) H
      ·replace H := H.2 h6'
       refine AtE.run 44 (fun W => by kernel_rfl) ?_
       exact AtE.ret Tryd.func17 (by kernel_rfl) H
     ·replace H := H.2 h5'
      refine AtE.run 48 (fun W => by kernel_rfl) ?_
      exact AtE.ret Tryd.func17 (by kernel_rfl) H
    ·replace H := H.2 h4'
     refine AtE.norm (k' := [.inRegion (regOps [.code (EngB15s17 [1,1,1,1,1,1,1,1,1,1,0])]) [17,18,19,20,21,22,23,24,25,26,27,28,29,30,31,32,33,34,35,36,37,38,39,40,41,42,43,44,45,46,47,48,49,50,51,52,53,54,55,56,57,58,59,60,61,62,63,64,65,66,67], .code (EngB15s17 [1,1,1,1,1,1,1,1,1,1,1])]) (e' := [(4, .slice (some ⟨B3, 0, none⟩) 3 3), (8, .int .i64 r41), (9, .slice r51_p r51_l r51_c), (10, .int .i64 r61), (12, .int .i64 r81), (13, .slice r91_p r91_l r91_c), (65, .bool false)]) (L' := ((B, .cells #[.int .i64 (7 : Int), .int .i64 (5 : Int), .string EngB15b0, .int .i64 (0 : Int), .int .i64 (0 : Int), .int .i64 (0 : Int), .slice none 0 0, .int .i64 (0 : Int), .int .i64 (0 : Int)] 26) :: (B1, .cells #[.int .i64 (7 : Int), .int .i64 (5 : Int), .string (⟨#[67,105,116,121]⟩), .int .i64 (0 : Int), .int .i64 (0 : Int), .int .i64 (0 : Int), .slice none 0 0, .int .i64 (0 : Int), .int .i64 (0 : Int)] 26) :: (B2, .cells #[.int .i64 (7 : Int), .int .i64 (3 : Int), .string (⟨#[]⟩), .int .i64 (3 : Int), .int .i64 (0 : Int), .int .i64 (0 : Int), .slice none 0 0, .int .i64 (0 : Int), .int .i64 (0 : Int)] 26) :: (B3, .cells #[.int .i64 (1 : Int), .int .i64 (1 : Int), .string (⟨#[82,97,105,110]⟩), .int .i64 (0 : Int), .int .i64 (0 : Int), .int .i64 (0 : Int), .slice none 0 0, .int .i64 (0 : Int), .int .i64 (0 : Int), .int .i64 (2 : Int), .int .i64 (2 : Int), .string EngB15b1, .int .i64 (0 : Int), .int .i64 (0 : Int), .int .i64 (0 : Int), .slice none 0 0, .int .i64 (0 : Int), .int .i64 (0 : Int), .int .i64 (9 : Int), .int .i64 (5 : Int), .string (⟨#[114,97,105,110]⟩), .int .i64 (0 : Int), .int .i64 (0 : Int), .int .i64 (0 : Int), .slice none 0 0, .int .i64 (0 : Int), .int .i64 (0 : Int)] 26) :: (B4, .cells #[.int .i64 (1 : Int), .int .i64 (1 : Int), .string (⟨#[82,97,105,110]⟩), .int .i64 (0 : Int), .int .i64 (0 : Int), .int .i64 (0 : Int), .slice none 0 0, .int .i64 (0 : Int), .int .i64 (0 : Int), .int .i64 (1 : Int), .int .i64 (1 : Int), .string (⟨#[82,97,105,110]⟩), .int .i64 (0 : Int), .int .i64 (0 : Int), .int .i64 (0 : Int), .slice none 0 0, .int .i64 (0 : Int), .int .i64 (0 : Int)] 26) :: F2)) ?_ (by kernel_rfl)
     refine AtE.run 52 (fun W => by kernel_rfl) ?_
     exact AtE.ret Tryd.func17 (by kernel_rfl) H
 ·replace H := H.2 h1'
  refine AtE.norm (k' := [.inRegion (regOps [.code (EngB15s17 [1,1,1,1,1,1,1,1,1,1,0])]) [3,4,5,6,7,8,9,10,11,12,13,14,15,16,17,18,19,20,21,22,23,24,25,26,27,28,29,30,31,32,33,34,35,36,37,38,39,40,41,42,43,44,45,46,47,48,49,50,51,52,53,54,55,56,57,58,59,60,61,62,63,64,65,66,67], .code (EngB15s17 [1,1,1,1,1,1,1,1,1,1,1])]) (e' := [(2, .pointer (some ⟨B1, 0, none⟩)), (3, .pointer (some ⟨B2, 0, none⟩)), (4, .slice (some ⟨B3, 0, none⟩) 3 3), (6, .int .i64 r21), (8, .int .i64 r41), (9, .slice r51_p r51_l r51_c), (10, .int .i64 r61), (12, .int .i64 r81), (13, .slice r91_p r91_l r91_c), (51, .bool false)]) (L' := ((B, .cells #[.int .i64 (7 : Int), .int .i64 (5 : Int), .string EngB15b0, .int .i64 (0 : Int), .int .i64 (0 : Int), .int .i64 (0 : Int), .slice none 0 0, .int .i64 (0 : Int), .int .i64 (0 : Int)] 26) :: (B1, .cells #[.int .i64 (7 : Int), .int .i64 (5 : Int), .string (⟨#[67,105,116,121]⟩), .int .i64 (0 : Int), .int .i64 (0 : Int), .int .i64 (0 : Int), .slice none 0 0, .int .i64 (0 : Int), .int .i64 (0 : Int)] 26) :: (B2, .cells #[.int .i64 (7 : Int), .int .i64 (3 : Int), .string (⟨#[]⟩), .int .i64 (3 : Int), .int .i64 (0 : Int), .int .i64 (0 : Int), .slice none 0 0, .int .i64 (0 : Int), .int .i64 (0 : Int)] 26) :: (B3, .cells #[.int .i64 (1 : Int), .int .i64 (1 : Int), .string (⟨#[82,97,105,110]⟩), .int .i64 (0 : Int), .int .i64 (0 : Int), .int .i64 (0 : Int), .slice none 0 0, .int .i64 (0 : Int), .int .i64 (0 : Int), .int .i64 (2 : Int), .int .i64 (2 : Int), .string EngB15b1, .int .i64 (0 : Int), .int .i64 (0 : Int), .int .i64 (0 : Int), .slice none 0 0, .int .i64 (0 : Int), .int .i64 (0 : Int), .int .i64 (9 : Int), .int .i64 (5 : Int), .string (⟨#[114,97,105,110]⟩), .int .i64 (0 : Int), .int .i64 (0 : Int), .int .i64 (0 : Int), .slice none 0 0, .int .i64 (0 : Int), .int .i64 (0 : Int)] 26) :: (B4, .cells #[.int .i64 (1 : Int), .int .i64 (1 : Int), .string (⟨#[82,97,105,110]⟩), .int .i64 (0 : Int), .int .i64 (0 : Int), .int .i64 (0 : Int), .slice none 0 0, .int .i64 (0 : Int), .int .i64 (0 : Int), .int .i64 (1 : Int), .int .i64 (1 : Int), .string (⟨#[82,97,105,110]⟩), .int .i64 (0 : Int), .int .i64 (0 : Int), .int .i64 (0 : Int), .slice none 0 0, .int .i64 (0 : Int), .int .i64 (0 : Int)] 26) :: F2)) ?_ (by kernel_rfl)
  refine AtE.run 66 (fun W => by kernel_rfl) ?_
  exact AtE.ret Tryd.func17 (by kernel_rfl) H
end Go.Eng
namespace Go.Eng
open Go Go.RowKit Go.Proofs Wire
set_option linter.unusedVariables false
theorem CallH.addF {P : Program} {g : FuncId} {args : Array Value} {S : List Nat} {w0 : World} {K K' : Value → SHeap → Prop} (told : SHeap) {F : SHeap} (h : EffC P g args [] K) (hK : ∀ v F', K v F' → K' v (told ++ (F' ++ F))) : CallH P g args (told ++ F) S w0 K' :=
  CallH.eff (L1 := told ++ F) h (List.Perm.refl _) fun v L' hk => ⟨told ++ (L' ++ F), List.perm_append_comm_assoc _ _ _, hK v L' hk⟩
theorem CallH.addN {P : Program} {g : FuncId} {args : Array Value} {S : List Nat} {w0 : World} {K K' : Value → SHeap → Prop} {told : SHeap} (h : EffC P g args [] K) (hK : ∀ v F', K v F' → K' v (told ++ F')) : CallH P g args told S w0 K' :=
  CallH.eff (L1 := told) h (List.Perm.refl _) fun v L' hk => ⟨told ++ L', List.perm_append_comm, hK v L' hk⟩
theorem IntsL.nil {lk : Lk} {p : Option Addr} : IntsL lk p [] := fun h => absurd h (by simp)
theorem held_told {L : SHeap} {w0 : World} {B t : Nat} {c : List Value} (h : (B, Obj.cells ⟨c⟩ t) ∈ L) : held L w0 B c := .inl ⟨t, _, h⟩
def mkB (i k : Int) (t : List UInt8) (s : Int) : Blk := ⟨i, k, ba t, s, 0, ⟨0, [], 0, 0⟩⟩
theorem mkB_fits {i k s : Int} {t : List UInt8} (h : t.length ≤ 1000) : (mkB i k t s).Fits := ⟨by show (ba t).size ≤ _; rw [ba_size t]; omega, by show 0 ≤ _; omega⟩
def sb1 : Blk := mkB 1 1 [82, 97, 105, 110] 0
def sb2 : Blk := mkB 2 2 [73, 116, 32, 114, 97, 105, 110, 101, 100, 46, 32, 32, 73, 116, 32, 115, 116, 111, 112, 112, 101, 100, 46] 0
def sb3 : Blk := mkB 9 5 [114, 97, 105, 110] 0
def saneL : List Blk := [sb1, sb2, sb3]
theorem sane_ok : listOk saneL = true := by decide
theorem sane_dup : listOk [sb1, sb1] = false := by decide
def saneS : ByteArray := ⟨#[68, 114, 46, 32, 74, 46, 32, 83, 109, 105, 116, 104, 32, 32, 119, 111, 110, 46, 32, 32, 82, 101, 97, 108, 108, 121, 63, 33, 32, 65, 116, 32, 51, 46, 53, 32, 116, 111, 32, 49]⟩
theorem sane_sen : senB saneS = [ba [68, 114, 46], ba [74, 46, 32, 83, 109, 105, 116, 104, 32, 32, 119, 111, 110, 46], ba [82, 101, 97, 108, 108, 121, 63, 33], ba [65, 116, 32, 51, 46, 53, 32, 116, 111, 32, 49]] := by kernel_rfl
theorem sane_plain : plainL saneL = [82, 97, 105, 110, 10, 73, 116, 32, 114, 97, 105, 110, 101, 100, 46, 32, 73, 116, 32, 115, 116, 111, 112, 112, 101, 100, 46, 10, 35, 114, 97, 105, 110, 10] := by kernel_rfl
theorem sane_blks {lk : Lk} {B : Nat} (h : lk B (sb1.cells none 0 ++ sb2.cells none 0 ++ sb3.cells none 0)) : BlksL lk (some ⟨B, 0, none⟩) saneL :=
  fun _ => ⟨B, 0, _, rfl, h, fun i hi => by
    match i, hi with
    | 0, _ => exact ⟨by decide, none, 0, rfl, IntsL.nil, mkB_fits (by decide)⟩
    | 1, _ => exact ⟨by decide, none, 0, rfl, IntsL.nil, mkB_fits (by decide)⟩
    | 2, _ => exact ⟨by decide, none, 0, rfl, IntsL.nil, mkB_fits (by decide)⟩⟩
theorem dup_blks {lk : Lk} {B : Nat} (h : lk B (sb1.cells none 0 ++ sb1.cells none 0)) : BlksL lk (some ⟨B, 0, none⟩) [sb1, sb1] :=
  fun _ => ⟨B, 0, _, rfl, h, fun i hi => by
    match i, hi with
    | 0, _ => exact ⟨by decide, none, 0, rfl, IntsL.nil, mkB_fits (by decide)⟩
    | 1, _ => exact ⟨by decide, none, 0, rfl, IntsL.nil, mkB_fits (by decide)⟩⟩
theorem one_valid {W : World} (i k : Int) (t : List UInt8) (s : Int) (hf : (mkB i k t s).Fits) {v : Bool} (hv : (mkB i k t s).ok = v) : PW Tryd.prog 19 ⟨[.agg #[.int .i64 i, .int .i64 k, .string (ba t), .int .i64 s, .int .i64 0, .int .i64 0, .slice none 0 0, .int .i64 0, .int .i64 0]]⟩ W (.bool v) := by
  have := valid_c (W := W) (p := none) (c := 0) (b := mkB i k t s) IntsL.nil hf
  rw [hv] at this
  exact this
theorem sane_c : PureC Tryd.prog 17 ⟨[]⟩ (.bool true) := by
  intro W
  refine sane_vc (Mem.start [] W) fun B B1 B2 B3 => ?_
  have hb3 : ∀ {L : SHeap} {W' : World}, (B3, Obj.cells ⟨sb1.cells none 0 ++ sb2.cells none 0 ++ sb3.cells none 0⟩ 26) ∈ L → Mem L [] W W' → BlksL (lkW W') (some ⟨B3, 0, none⟩) saneL := fun hL hm => sane_blks (held_W hm _ _ (held_told hL))
  have he : encAns saneL = .tuple #[.string (ba (encL saneL)), .int .i64 0] := by rw [encAns, if_pos sane_ok]
  have hsz := encBs_len saneL (listOk_all sane_ok).2
  have hsz2 := enc_len (saneL.length : Int)
  have hlen : (encL saneL).length ≤ 4000 := by
    rw [encL, List.length_append]
    simp only [show saneL.length = 3 from rfl] at *; omega
  refine CallH.pw (v := encAns saneL) (fun W' hm' => encode_c (l := saneL) (c := 3) (hb3 (by simp [sb1, sb2, sb3, mkB]) hm') (Nat.le_refl _)) ⟨_, _, he, rfl, fun B4 => ?_⟩
  refine ⟨⟨#[]⟩, 30, QCallB.pw fun W' hm' => ?_, ?_⟩
  · have := encode_c (W := W') (p := some ⟨B4, 0, none⟩) (l := [sb1, sb1]) (c := 2) (dup_blks (held_W hm' _ _ (held_told (t := 26) (by simp [sb1, mkB])))) (Nat.le_refl _)
    rw [encAns, if_neg (by rw [sane_dup]; decide)] at this
    exact this
  refine CallH.addN (decode_e _ (by rw [ba_size (encL saneL)]; omega)) ?_
  rintro v F ⟨p, c, rfl, hc, hb⟩
  rw [bts_mk, dec_enc sane_ok] at hc hb ⊢
  refine ⟨p, _, c, _, F, rfl, rfl, ?_, ?_⟩
  · rw [ba_size (encL saneL)]; show _ + 1 ≤ _; omega
  have hx : ba (encL saneL) ++ (⟨#[120]⟩ : ByteArray) = ba (encL saneL ++ [120]) := ba_append _ [120]
  rw [hx]
  refine CallH.addF [_, _, _, _, _] (decode_e _ (by rw [ba_size (encL saneL ++ [120]), List.length_append]; show _ + 1 < _; omega)) ?_
  rintro v F1 ⟨p1, c1, rfl, hc1, hb1⟩
  rw [bts_mk, dec_more sane_ok (by decide)] at hc1 hb1 ⊢
  refine ⟨p1, _, c1, _, _, rfl, rfl, ?_⟩
  refine CallH.addF [_, _, _, _, _] (sentences_e (s := saneS) (by decide)) ?_
  rintro v F2 ⟨q, d, rfl, hd, hq⟩
  refine ⟨q, _, d, _, rfl, rfl, ?_⟩
  refine CallH.pw (fun W' _ => one_valid 7 5 [99, 105, 116, 121, 45, 104, 97, 108, 108] 0 (mkB_fits (by decide)) (v := true) (by decide)) ⟨_, rfl, rfl, fun _ => ?_, fun h => Bool.noConfusion h⟩
  refine CallH.pw (fun W' _ => one_valid 7 5 [67, 105, 116, 121] 0 (mkB_fits (by decide)) (v := false) (by decide)) ⟨_, rfl, rfl, fun h => Bool.noConfusion h, fun _ => ?_⟩
  refine CallH.pw (fun W' _ => one_valid 7 3 [] 3 (mkB_fits (by decide)) (v := false) (by decide)) ⟨_, rfl, rfl, fun h => Bool.noConfusion h, fun _ => ?_⟩
  refine yes rfl (yes rfl (yes rfl ?_))
  refine CallH.pw (fun W' hm' => sameL_c (a := saneL) (b := saneL) (hb3 (by simp [sb1, sb2, sb3, mkB]) hm') (hb.mono fun b c h => held_W hm' b c (held_F (fun x hx => by simp [hx]) b c h)) (by decide)) ⟨_, rfl, rfl, fun _ => ?_, fun h => absurd h (by simp)⟩
  refine yes rfl ?_
  have hn : (senB saneS).length = 4 := by rw [sane_sen]; rfl
  refine yes (by rw [hn]; rfl) ?_
  obtain ⟨b, o, cs, rfl, e2, e3⟩ := hq (by rw [hn]; decide)
  have hg : ∀ i x, (senB saneS)[i]? = some x → cs[o + i]? = some (.string x) := fun i x hx => by
    obtain ⟨h1, h2⟩ := List.getElem?_eq_some_iff.1 hx
    rw [e3 i h1, h2]
  have hw := fun (L : SHeap) (h : ∀ x ∈ F2, x ∈ L) => held_F (w0 := W) (L := L) h b cs e2
  rw [hn]
  refine ⟨b, o, rfl, by decide, cs, _, hw _ (fun x hx => by simp [hx]), hg 0 _ (by rw [sane_sen]; rfl), yes rfl ⟨by decide, cs, _, hw _ (fun x hx => by simp [hx]), hg 1 _ (by rw [sane_sen]; rfl), yes rfl ⟨by decide, cs, _, hw _ (fun x hx => by simp [hx]), hg 2 _ (by rw [sane_sen]; rfl), yes rfl ⟨by decide, cs, _, hw _ (fun x hx => by simp [hx]), hg 3 _ (by rw [sane_sen]; rfl), yes rfl ?_⟩⟩⟩⟩
  refine CallH.pw (fun W' hm' => plain_c (l := saneL) (c := 3) (hb3 (by simp [sb1, sb2, sb3, mkB]) hm') (by decide) (by decide)) ⟨_, rfl, rfl, finPure ?_⟩
  rw [sane_plain]
  exact congrArg Value.bool (beq_iff_eq.2 (congrArg ByteArray.toList rfl))
end Go.Eng
namespace Go.Eng
open Go Go.RowKit Go.Proofs Wire
set_option linter.unusedVariables false
theorem held_nil {w0 : World} : ∀ b c, lkW w0 b c → held [] w0 b c := fun b c h => .inr h
theorem BlksL.W {L : SHeap} {w0 W : World} {p : Option Addr} {l : List Blk} (h : BlksL (held L w0) p l) (hm : Mem L [] w0 W) : BlksL (lkW W) p l := h.mono (held_W hm)
theorem shortL_le (l : List Blk) : (shortL l).length ≤ 30 := by rw [shortL_len]; omega
end Go.Eng
namespace Go.Eng
open Go Go.RowKit Wire
set_option linter.unusedVariables false
def allSp (l : List UInt8) : Prop := ∀ c ∈ l, c = 32
theorem sp32 {c : UInt8} (h : isSp c = true) : c = 32 := UInt8.toNat_inj.1 (of_decide_eq_true h)
theorem dropL_split : ∀ l : List UInt8, ∃ s, allSp s ∧ l = s ++ dropL l
  | [] => ⟨[], fun c h => absurd h (by simp), rfl⟩
  | c :: r => by
    by_cases hc : isSp c = true
    · obtain ⟨s, h1, h2⟩ := dropL_split r
      refine ⟨c :: s, fun d hd => ?_, by rw [dropL, if_pos hc, List.cons_append, ← h2]⟩
      rcases List.mem_cons.1 hd with rfl | hd
      · exact sp32 hc
      · exact h1 d hd
    · exact ⟨[], fun c h => absurd h (by simp), by rw [dropL, if_neg hc]; rfl⟩
theorem dropR_split : ∀ l : List UInt8, ∃ s, allSp s ∧ l = dropR l ++ s
  | [] => ⟨[], fun c h => absurd h (by simp), rfl⟩
  | c :: r => by
    obtain ⟨s, h1, h2⟩ := dropR_split r
    by_cases h : isSp c = true ∧ dropR r = []
    · refine ⟨c :: s, fun d hd => ?_, ?_⟩
      · rcases List.mem_cons.1 hd with rfl | hd
        · exact sp32 h.1
        · exact h1 d hd
      · rw [dropR, if_pos h, List.nil_append, h2, h.2]; rfl
    · exact ⟨s, h1, by rw [dropR, if_neg h, List.cons_append, ← h2]⟩
def tidy (x : List UInt8) : Prop := x ≠ [] ∧ trimS x = x
def ctx : UInt8 → UInt8 → List UInt8 → UInt8 × UInt8
  | p, q, [] => (p, q)
  | p, q, c :: r => ctx q c r
def noEnd : UInt8 → UInt8 → List UInt8 → List UInt8 → Bool
  | p, q, [], k => true
  | p, q, c :: r, k => !endB p q c (nxt (r ++ k)) && noEnd q c r k
def One (x : List UInt8) : Prop := ∃ y c, x = y ++ [c] ∧ noEnd 32 32 y [c] = true ∧ endB (ctx 32 32 y).1 (ctx 32 32 y).2 c true = true
def good : List (List UInt8) → Prop
  | [] => True
  | x :: r => tidy x ∧ (One x ∨ (r = [] ∧ noEnd 32 32 x [] = true)) ∧ good r
end Go.Eng
namespace Go.Eng
open Go Go.RowKit Go.Proofs
set_option linter.unusedVariables false
set_option maxRecDepth 100000
noncomputable abbrev EngBL13s16 := sub (Eng.body Tryd.f16)
def LPlainLines_c0 (l1_p : Option Addr) (l1_l : Nat) (l1_c : Nat) (up : Bool) (s : ByteArray) (n : Int) (i : Int) (F1 : SHeap) (w0 : World) (R : Ending → World → Prop) : Prop :=
 AtE Tryd.prog 16 47 [.code (EngBL13s16 [1,1,1,1,1,0,1,0,0]), .inLoop (EngBL13s16 [1,1,1,1,1,0,1,0,0]), .inBlock 0, .code (EngBL13s16 [1,1,1,1,1,1])] [(0, .slice l1_p l1_l l1_c), (3, .bool up), (4, .string s), (5, .int .i64 n), (6, .int .i64 i)] (F1) [] w0 (nrm R)
theorem LPlainLines_c0_vc (l1_p : Option Addr) (l1_l : Nat) (l1_c : Nat) (up : Bool) (s : ByteArray) (n : Int) (i : Int) (F1 : SHeap) {R : Ending → World → Prop} {w0 : World}
  (H :
   ((i < (s.size : Int)) →
    (0 ≤ i ∧ i < s.size) ∧
    (((bat s i) = (10 : Int)) →
     ∀ n1 : Int, n1 = (IntKind.i64.wrap (n + (1 : Int))) →
     ∀ i1 : Int, i1 = (IntKind.i64.wrap (i + (1 : Int))) →
     LPlainLines_c0 l1_p l1_l l1_c up s n1 i1 F1 w0 R) ∧
     ((¬ ((bat s i) = (10 : Int))) →
     ∀ i2 : Int, i2 = (IntKind.i64.wrap (i + (1 : Int))) →
     LPlainLines_c0 l1_p l1_l l1_c up s n i2 F1 w0 R)) ∧
    ((¬ (i < (s.size : Int))) →
    CallH Tryd.prog 21 ⟨[.slice l1_p l1_l l1_c]⟩ (F1) [] w0 (fun v L' => ∃ (r41 : Bool), v = (.bool r41) ∧ L' = (F1) ∧
     ((r41 = true) →
      ((up = true) →
       ((n = (l1_l : Int)) →
        ((s = (⟨#[]⟩ : ByteArray)) →
         Fin R (F1) [] w0 (.bool true)) ∧
         ((¬ s = (⟨#[]⟩ : ByteArray)) →
         (0 ≤ (IntKind.i64.wrap ((s.size : Int) - (1 : Int))) ∧ (IntKind.i64.wrap ((s.size : Int) - (1 : Int))) < s.size) ∧
         Fin R (F1) [] w0 (.bool (decide ((bat s (IntKind.i64.wrap ((s.size : Int) - (1 : Int)))) = (10 : Int)))))) ∧
        ((¬ (n = (l1_l : Int))) →
        Fin R (F1) [] w0 (.bool false))) ∧
       ((up = false) →
       Fin R (F1) [] w0 (.bool false))) ∧
      ((r41 = false) →
      Fin R (F1) [] w0 (.bool up))))) :
  LPlainLines_c0 l1_p l1_l l1_c up s n i F1 w0 R := by
 unfold LPlainLines_c0
 refine AtE.run 8 (fun W => by kernel_rfl) ?_
 refine AtE.splitP 15 (p := i < (s.size : Int)) (by kernel_rfl) (fun h1' => ?_) (fun h1' => ?_)
 ·replace H := H.1 h1'
  refine AtE.run 8 (fun W => by kernel_rfl) ?_
  refine AtE.indexS (s := s) (kd := .i64) (i := i) (by kernel_rfl) H.1 ?_
  replace H := H.2
  refine AtE.run 2 (fun W => by kernel_rfl) ?_
  refine AtE.splitP 21 (p := (bat s i) = (10 : Int)) (by kernel_rfl) (fun h2' => ?_) (fun h2' => ?_)
  ·replace H := H.1 h2'
   refine AtE.run 5 (fun W => by kernel_rfl) ?_
   refine AtE.letI 5 (kd := .i64) (n := (IntKind.i64.wrap (n + (1 : Int)))) (by kernel_rfl) (fun n1 hn1 => ?_)
   replace H := H n1 hn1
   refine AtE.run 6 (fun W => by kernel_rfl) ?_
   refine AtE.letI 6 (kd := .i64) (n := (IntKind.i64.wrap (i + (1 : Int)))) (by kernel_rfl) (fun i1 hi1 => ?_)
   replace H := H i1 hi1
   refine AtE.run 2 (fun W => by kernel_rfl) ?_
   exact AtE.cutT [] 0 H (by kernel_rfl)
  ·replace H := H.2 h2'
   refine AtE.run 7 (fun W => by kernel_rfl) ?_
   refine AtE.letI 6 (kd := .i64) (n := (IntKind.i64.wrap (i + (1 : Int)))) (by kernel_rfl) (fun i2 hi2 => ?_)
   replace H := H i2 hi2
   refine AtE.run 2 (fun W => by kernel_rfl) ?_
   exact AtE.cutT [] 0 H (by kernel_rfl)
 ·replace H := H.2 h1'
  refine AtE.run 6 (fun W => by kernel_rfl) ?_
  refine AtE.call 21 ⟨[.slice l1_p l1_l l1_c]⟩ (fun W => by kernel_rfl) (by kernel_rfl) H ?_
  clear H
  rintro _ F1 ⟨r41, rfl, rfl, H⟩
  refine AtE.split 25 (b := r41) (by kernel_rfl) (fun h3' => ?_) (fun h3' => ?_)
  ·replace H := H.1 h3'
   refine AtE.run 8 (fun W => by kernel_rfl) ?_
   refine AtE.split 29 (b := up) (by kernel_rfl) (fun h4' => ?_) (fun h4' => ?_)
   ·replace H := H.1 h4'
    refine AtE.run 6 (fun W => by kernel_rfl) ?_
    refine AtE.splitP 35 (p := n = (l1_l : Int)) (by kernel_rfl) (fun h5' => ?_) (fun h5' => ?_)
    ·replace H := H.1 h5'
     refine AtE.run 3 (fun W => by kernel_rfl) ?_
     refine AtE.splitS 38 (x := s) (y := (⟨#[]⟩ : ByteArray)) (by kernel_rfl) (fun h6' => ?_) (fun h6' => ?_)
     ·replace H := H.1 h6'
      refine AtE.run 10 (fun W => by kernel_rfl) ?_
      exact AtE.ret Tryd.func16 (by kernel_rfl) H
     ·replace H := H.2 h6'
      refine AtE.run 4 (fun W => by kernel_rfl) ?_
      refine AtE.indexS (s := s) (kd := .i64) (i := (IntKind.i64.wrap ((s.size : Int) - (1 : Int)))) (by kernel_rfl) H.1 ?_
      replace H := H.2
      refine AtE.norm (k' := [.inRegion (regOps [.code (EngBL13s16 [1,1,1,1,1,1,1,0])]) [16,17,18,19], .code (EngBL13s16 [1,1,1,1,1,1,1,1])]) (e' := [(35, .bool true), (38, .bool false), (43, .int .u8 (bat s (IntKind.i64.wrap ((s.size : Int) - (1 : Int)))))]) (L' := (F1)) ?_ (by kernel_rfl)
      refine AtE.run 5 (fun W => by kernel_rfl) ?_
      exact AtE.ret Tryd.func16 (by kernel_rfl) H
    ·replace H := H.2 h5'
     refine AtE.run 13 (fun W => by kernel_rfl) ?_
     exact AtE.ret Tryd.func16 (by kernel_rfl) H
   ·replace H := H.2 h4'
    refine AtE.run 19 (fun W => by kernel_rfl) ?_
    exact AtE.ret Tryd.func16 (by kernel_rfl) H
  ·replace H := H.2 h3'
   refine AtE.run 8 (fun W => by kernel_rfl) ?_
   exact AtE.ret Tryd.func16 (by kernel_rfl) H
theorem LPlainLines_vc (l_p : Option Addr) (l_l : Nat) (l_c : Nat) {R : Ending → World → Prop} {w0 W : World} (hm : Mem [] [] w0 W)
  (H :
   CallH Tryd.prog 17 ⟨[]⟩ [] [] w0 (fun v L' => ∃ (r1 : Bool), v = (.bool r1) ∧ L' = [] ∧
    CallH Tryd.prog 18 ⟨[.slice l_p l_l l_c]⟩ [] [] w0 (fun v L' => ∃ (r21_p : Option Addr) (r21_l : Nat) (r21_c : Nat) (F : SHeap), v = (.slice r21_p r21_l r21_c) ∧ L' = (F) ∧
     CallH Tryd.prog 34 ⟨[.slice r21_p r21_l r21_c]⟩ (F) [] w0 (fun v L' => ∃ (r31 : ByteArray), v = (.string r31) ∧ L' = (F) ∧
      LPlainLines_c0 r21_p r21_l r21_c r1 r31 (0 : Int) (0 : Int) F w0 R)))) :
  Calls Tryd.prog 16 ⟨[.slice l_p l_l l_c]⟩ W R := by
 refine AtE.calls (nt := 47) Tryd.func16 (by kernel_rfl) hm ?_
 refine AtE.run 6 (fun W => by kernel_rfl) ?_
 refine AtE.call 17 ⟨[]⟩ (fun W => by kernel_rfl) (by kernel_rfl) H ?_
 clear H
 rintro _ _ ⟨r1, rfl, rfl, H⟩
 refine AtE.run 5 (fun W => by kernel_rfl) ?_
 refine AtE.call 18 ⟨[.slice l_p l_l l_c]⟩ (fun W => by kernel_rfl) (by kernel_rfl) H ?_
 clear H
 rintro _ F ⟨r21_p, r21_l, r21_c, _, rfl, rfl, H⟩
 refine AtE.run 5 (fun W => by kernel_rfl) ?_
 refine AtE.call 34 ⟨[.slice r21_p r21_l r21_c]⟩ (fun W => by kernel_rfl) (by kernel_rfl) H ?_
 clear H
 rintro _ F ⟨r31, rfl, rfl, H⟩
 refine AtE.run 13 (fun W => by kernel_rfl) ?_
 exact AtE.cutT [] 0 H (by kernel_rfl)
end Go.Eng
namespace Go.Eng
open Go Go.RowKit Go.Proofs Wire
set_option linter.unusedVariables false
theorem joinL_senB (s : ByteArray) : joinL (senB s) = joinS (senOf (bts s)) := by rw [joinL, senB_bts]
theorem BRowL.mono {lk lk' : Lk} {cs : List Value} {l : List Blk} (h : BRowL lk cs l) (hl : ∀ b c, lk b c → lk' b c) : BRowL lk' cs l := fun i hi => ⟨(h i hi).1, (h i hi).2.mono hl⟩
theorem trim_sub {x : UInt8} {l : List UInt8} (h : x ∈ trimS l) : x ∈ l := by
  obtain ⟨s, _, h1⟩ := dropR_split l
  obtain ⟨t, _, h2⟩ := dropL_split (dropR l)
  rw [h1, h2]
  exact List.mem_append_left _ (List.mem_append_right _ h)
theorem sen_sub {x : UInt8} : ∀ (l acc : List UInt8) (p q : UInt8), x ∈ (sen p q acc l).flatten → x ∈ acc ++ l
  | [], acc, p, q, h => by
    rw [sen] at h
    split at h
    · simp at h
    · rw [List.append_nil]; exact trim_sub (by simpa using h)
  | c :: r, acc, p, q, h => by
    rw [sen] at h
    split at h
    · rw [List.flatten_cons] at h
      rcases List.mem_append.1 h with h | h
      · have := trim_sub h
        rw [show acc ++ c :: r = acc ++ [c] ++ r by simp]
        exact List.mem_append_left _ this
      · have := sen_sub r [] q c h
        exact List.mem_append_right _ (List.mem_cons_of_mem _ (by simpa using this))
    · have := sen_sub r (acc ++ [c]) q c h
      simpa using this
theorem joinS_sub {x : UInt8} {L : List (List UInt8)} (h : x ∈ joinS L) : x = 32 ∨ x ∈ L.flatten := by
  cases L with
  | nil => exact absurd h (by simp [joinS])
  | cons y r =>
    rw [joinS] at h
    rcases List.mem_append.1 h with h | h
    · exact .inr (by rw [List.flatten_cons]; exact List.mem_append_left _ h)
    · obtain ⟨z, hz, hx⟩ := List.mem_flatMap.1 h
      rcases List.mem_cons.1 hx with rfl | hx
      · exact .inl rfl
      · exact .inr (by rw [List.flatten_cons]; exact List.mem_append_right _ (List.mem_flatten.2 ⟨z, hz, hx⟩))
theorem txt_no {s : ByteArray} (h : txtOk s = true) : (10 : UInt8) ∉ bts s := by
  intro hm
  rw [txtOk, Bool.and_eq_true] at h
  have := List.all_eq_true.1 h.2 10 (by rw [List.drop_zero]; exact hm)
  exact absurd this (by decide)
theorem kind_txt {b : Blk} (h : b.ok = true) : txtOk b.text = true := by
  simp only [Blk.ok, Bool.and_eq_true] at h
  have hk := h.2.2
  unfold Blk.kindOk at hk
  split at hk
  · simp only [fillOk, Bool.and_eq_true] at hk; exact hk.1.2
  · split at hk
    · simp only [fillOk, Bool.and_eq_true] at hk; exact hk.1.2
    · split at hk
      · rw [Bool.and_eq_true] at hk; exact hk.1
      · split at hk
        · simp only [fillOk, Bool.and_eq_true] at hk; exact hk.1.2
        · split at hk
          · rw [Bool.and_eq_true] at hk; exact name_txt hk.1
          · exact absurd hk (by decide)
theorem rule_no {b : Blk} (h : b.ok = true) : (10 : UInt8) ∉ ruleOf b := by
  have h1 := txt_no (kind_txt h)
  unfold ruleOf
  split
  · exact h1
  · split
    · intro hm
      rw [joinL_senB] at hm
      rcases joinS_sub hm with h | h
      · exact absurd h (by decide)
      · have := sen_sub _ [] 32 32 h
        rw [List.nil_append] at this
        exact h1 this
    · split
      · intro hm
        simp only [List.mem_append, List.mem_singleton] at hm
        rcases hm with (h | h) | h
        · exact absurd h (by decide)
        · exact h1 h
        · exact absurd h (by decide)
      · split
        · intro hm
          simp only [List.mem_append, List.mem_singleton] at hm
          rcases hm with (h | h) | h
          · exact absurd h (by decide)
          · exact h1 h
          · exact absurd h (by decide)
        · intro hm
          simp only [List.mem_append, List.mem_singleton] at hm
          rcases hm with h | h
          · exact absurd h (by decide)
          · exact h1 h
theorem plainB_ok {b : Blk} (h : b.ok = true) : plainB b = ruleOf b ++ [10] := by rw [plainB, if_pos (Blk.good h).kind]
theorem plainL_count : ∀ l : List Blk, (∀ b ∈ l, b.ok = true) → (plainL l).count 10 = l.length
  | [], _ => rfl
  | b :: r, h => by
    have hb := h b List.mem_cons_self
    rw [plainL_cons, List.count_append, plainL_count r (fun x hx => h x (List.mem_cons_of_mem _ hx)), plainB_ok hb, List.count_append, List.count_eq_zero.2 (rule_no hb), List.length_cons]
    show 0 + 1 + _ = _
    omega
theorem plainL_end : ∀ l : List Blk, (∀ b ∈ l, b.ok = true) → plainL l = [] ∨ ∃ r, plainL l = r ++ [10]
  | [], _ => .inl rfl
  | b :: r, h => by
    right
    have hb := h b List.mem_cons_self
    rw [plainL_cons, plainB_ok hb]
    rcases plainL_end r (fun x hx => h x (List.mem_cons_of_mem _ hx)) with h1 | ⟨t, h1⟩
    · exact ⟨ruleOf b, by rw [h1, List.append_nil]⟩
    · exact ⟨ruleOf b ++ [10] ++ t, by rw [h1]; simp⟩
theorem law13_loop {w0 : World} {F : SHeap} {p : Option Addr} {c : Nat} {l : List Blk} (hl : BlksL (held F w0) p l) (hc : l.length ≤ c) (hn : l.length ≤ 30) {s : ByteArray} (hs : bts s = plainL l) (hz : s.size ≤ 1000000000) : ∀ (g i n : Nat), g + i = s.size → n = ((bts s).take i).count 10 → n ≤ i →
    LPlainLines_c0 p l.length c true s (n : Int) (i : Int) F w0 (fun e W' => e = .returned (.bool true) ∧ Below w0.heap.size w0 W')
  | 0, i, n, hg, hi, hni => by
    apply LPlainLines_c0_vc
    have hlen := bts_len s
    refine no (by omega) (CallH.pw (fun W' hm' => validL_c (hl.W hm') hc) ⟨_, rfl, rfl, fun hok => tt rfl ?_, fun _ => finPW rfl⟩)
    have hall := (listOk_all hok).2
    rw [List.take_of_length_le (by omega), hs, plainL_count l hall] at hi
    refine yes (by omega) ⟨fun _ => finPW rfl, fun hne => ?_⟩
    have hpos : 0 < s.size := Nat.pos_of_ne_zero fun h => hne (ba_nil.2 h)
    rw [wi64 (by omega)]
    refine ⟨by omega, finPW ?_⟩
    obtain ⟨r, d, hr, hb, _, _⟩ := snoc_of (s := s) (g := s.size - 1) (by omega)
    rw [show (s.size : Int) - 1 = ((s.size - 1 : Nat) : Int) by omega, hb]
    rcases plainL_end l hall with h1 | ⟨t, h1⟩
    · rw [hs, h1] at hlen
      exact absurd hlen (by simp; omega)
    · rw [← hs, hr] at h1
      have := (List.append_inj' h1 rfl).2
      rw [List.cons.inj this |>.1]; rfl
  | g + 1, i, n, hg, hi, hni => by
    apply LPlainLines_c0_vc
    have hlen := bts_len s
    have hlt : i < (bts s).length := by omega
    have hb := bat_nat hlt
    have hcnt : ((bts s).take (i + 1)).count 10 = ((bts s).take i).count 10 + if (bts s)[i] = 10 then 1 else 0 := by
      rw [List.take_add_one, List.getElem?_eq_getElem hlt, List.count_append]
      congr 1
      show List.count 10 [(bts s)[i]] = _
      rw [List.count_singleton]
      by_cases h : (bts s)[i] = 10
      · rw [if_pos h, h]; rfl
      · rw [if_neg h, if_neg (by simpa using h)]
    have w1 : IntKind.i64.wrap ((i : Int) + 1) = ((i + 1 : Nat) : Int) := by rw [wi64 (by omega)]; omega
    have w2 : IntKind.i64.wrap ((n : Int) + 1) = ((n + 1 : Nat) : Int) := by rw [wi64 (by omega)]; omega
    rw [w1, w2]
    have iff10 : bat s (i : Int) = 10 ↔ (bts s)[i] = 10 := by
      rw [hb]
      constructor
      · intro h
        exact UInt8.toNat_inj.1 (by show _ = 10; omega)
      · intro h; rw [h]; rfl
    refine yes (by omega) ⟨by omega, fun h10 => ?_, fun h10 => ?_⟩
    · rintro _ rfl _ rfl
      exact law13_loop hl hc hn hs hz g (i + 1) (n + 1) (by omega) (by rw [hcnt, if_pos (iff10.1 h10), hi]) (by omega)
    · rintro _ rfl
      exact law13_loop hl hc hn hs hz g (i + 1) n (by omega) (by rw [hcnt, if_neg (fun h => h10 (iff10.2 h)), hi, Nat.add_zero]) (by omega)
theorem law13 {W : World} {p : Option Addr} {c : Nat} {l : List Blk} (hl : BlksL (lkW W) p l) : PW Tryd.prog 16 ⟨[.slice p l.length c]⟩ W (.bool true) := by
  refine LPlainLines_vc p l.length c (Mem.start [] W) (CallH.pure sane_c ⟨_, rfl, rfl, ?_⟩)
  refine CallH.short (hl.mono held_nil) fun p1 c1 F1 hF1 hc1 h1 => ⟨p1, _, c1, F1, rfl, rfl, ?_⟩
  have hn1 := shortL_le l
  have hz : ∀ x ∈ shortL l, x.text.size ≤ 1000000 := fun x hx => by have := shortL_text hx; omega
  have hlen := plainL_len (shortL l) hz
  refine CallH.pw (fun W' hm' => plain_c (h1.W hm') hz (by omega)) ⟨_, rfl, rfl, ?_⟩
  exact law13_loop h1 hc1 hn1 (bts_mk _) (by rw [ba_size (plainL (shortL l))]; omega) _ 0 0 rfl rfl (Nat.le_refl _)
end Go.Eng
