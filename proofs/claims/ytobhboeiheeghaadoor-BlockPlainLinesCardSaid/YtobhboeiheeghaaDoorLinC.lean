/- A part of the proof: the engine by which functions are walked, verification conditions that a program of the prover wrote, contracts and plain laws; no claim of its own. -/
import Derived.Test.YtobhboeiheeghaaDoorChecked
import Derived.Test.YtobhboeiheeghaaDoorLinB
namespace Go.Eng
open Go Go.RowKit Go.Proofs
set_option linter.unusedVariables false
set_option maxRecDepth 100000
noncomputable abbrev EngB6s23 := sub (Eng.body Tryd.f23)
noncomputable abbrev EngB6s47 := sub (Eng.body Tryd.f47)
theorem same_vc (xi : Int) (xk : Int) (xt : ByteArray) (xs : Int) (xr : Int) (xu : Int) (xp : Option Addr) (xl : Nat) (xc : Nat) (xa : Int) (xd : Int) (yi : Int) (yk : Int) (yt : ByteArray) (ys : Int) (yr : Int) (yu : Int) (yp : Option Addr) (yl : Nat) (yc : Nat) (ya : Int) (yd : Int) {R : Ending → World → Prop} {w0 W : World} (hm : Mem [] [] w0 W)
  (H :
   ∀ B : Nat,
   ∀ B1 : Nat,
   ((xi = yi) →
    ((xk = yk) →
     ((xt = yt) →
      ((xs = ys) →
       ((xr = yr) →
        CallH Tryd.prog 45 ⟨[.agg #[.int .i64 xu, .slice xp xl xc, .int .i64 xa, .int .i64 xd], .agg #[.int .i64 yu, .slice yp yl yc, .int .i64 ya, .int .i64 yd]]⟩ [(B, .cells #[.int .i64 xi, .int .i64 xk, .string xt, .int .i64 xs, .int .i64 xr, .int .i64 xu, .slice xp xl xc, .int .i64 xa, .int .i64 xd] 26), (B1, .cells #[.int .i64 yi, .int .i64 yk, .string yt, .int .i64 ys, .int .i64 yr, .int .i64 yu, .slice yp yl yc, .int .i64 ya, .int .i64 yd] 26)] [] w0 (fun v L' => ∃ (r1 : Bool), v = (.bool r1) ∧ L' = [(B, .cells #[.int .i64 xi, .int .i64 xk, .string xt, .int .i64 xs, .int .i64 xr, .int .i64 xu, .slice xp xl xc, .int .i64 xa, .int .i64 xd] 26), (B1, .cells #[.int .i64 yi, .int .i64 yk, .string yt, .int .i64 ys, .int .i64 yr, .int .i64 yu, .slice yp yl yc, .int .i64 ya, .int .i64 yd] 26)] ∧
         Fin R [(B, .cells #[.int .i64 xi, .int .i64 xk, .string xt, .int .i64 xs, .int .i64 xr, .int .i64 xu, .slice xp xl xc, .int .i64 xa, .int .i64 xd] 26), (B1, .cells #[.int .i64 yi, .int .i64 yk, .string yt, .int .i64 ys, .int .i64 yr, .int .i64 yu, .slice yp yl yc, .int .i64 ya, .int .i64 yd] 26)] [] w0 (.bool r1))) ∧
        ((¬ (xr = yr)) →
        Fin R [(B, .cells #[.int .i64 xi, .int .i64 xk, .string xt, .int .i64 xs, .int .i64 xr, .int .i64 xu, .slice xp xl xc, .int .i64 xa, .int .i64 xd] 26), (B1, .cells #[.int .i64 yi, .int .i64 yk, .string yt, .int .i64 ys, .int .i64 yr, .int .i64 yu, .slice yp yl yc, .int .i64 ya, .int .i64 yd] 26)] [] w0 (.bool false))) ∧
       ((¬ (xs = ys)) →
       Fin R [(B, .cells #[.int .i64 xi, .int .i64 xk, .string xt, .int .i64 xs, .int .i64 xr, .int .i64 xu, .slice xp xl xc, .int .i64 xa, .int .i64 xd] 26), (B1, .cells #[.int .i64 yi, .int .i64 yk, .string yt, .int .i64 ys, .int .i64 yr, .int .i64 yu, .slice yp yl yc, .int .i64 ya, .int .i64 yd] 26)] [] w0 (.bool false))) ∧
      ((¬ xt = yt) →
      Fin R [(B, .cells #[.int .i64 xi, .int .i64 xk, .string xt, .int .i64 xs, .int .i64 xr, .int .i64 xu, .slice xp xl xc, .int .i64 xa, .int .i64 xd] 26), (B1, .cells #[.int .i64 yi, .int .i64 yk, .string yt, .int .i64 ys, .int .i64 yr, .int .i64 yu, .slice yp yl yc, .int .i64 ya, .int .i64 yd] 26)] [] w0 (.bool false))) ∧
     ((¬ (xk = yk)) →
     Fin R [(B, .cells #[.int .i64 xi, .int .i64 xk, .string xt, .int .i64 xs, .int .i64 xr, .int .i64 xu, .slice xp xl xc, .int .i64 xa, .int .i64 xd] 26), (B1, .cells #[.int .i64 yi, .int .i64 yk, .string yt, .int .i64 ys, .int .i64 yr, .int .i64 yu, .slice yp yl yc, .int .i64 ya, .int .i64 yd] 26)] [] w0 (.bool false))) ∧
    ((¬ (xi = yi)) →
    Fin R [(B, .cells #[.int .i64 xi, .int .i64 xk, .string xt, .int .i64 xs, .int .i64 xr, .int .i64 xu, .slice xp xl xc, .int .i64 xa, .int .i64 xd] 26), (B1, .cells #[.int .i64 yi, .int .i64 yk, .string yt, .int .i64 ys, .int .i64 yr, .int .i64 yu, .slice yp yl yc, .int .i64 ya, .int .i64 yd] 26)] [] w0 (.bool false))) :
  Calls Tryd.prog 23 ⟨[.agg #[.int .i64 xi, .int .i64 xk, .string xt, .int .i64 xs, .int .i64 xr, .int .i64 xu, .slice xp xl xc, .int .i64 xa, .int .i64 xd], .agg #[.int .i64 yi, .int .i64 yk, .string yt, .int .i64 ys, .int .i64 yr, .int .i64 yu, .slice yp yl yc, .int .i64 ya, .int .i64 yd]]⟩ W R := by
 refine AtE.calls (nt := 45) Tryd.func23 (by kernel_rfl) hm ?_
 refine AtE.run 2 (fun W => by kernel_rfl) ?_
 refine AtE.new (fun B => .pointer (some ⟨B, 0, none⟩)) (.cells #[.int .i64 xi, .int .i64 xk, .string xt, .int .i64 xs, .int .i64 xr, .int .i64 xu, .slice xp xl xc, .int .i64 xa, .int .i64 xd] 26) (fun W => by kernel_rfl) (by kernel_rfl) (fun B => ?_)
 replace H := H B
 refine AtE.new (fun B => .pointer (some ⟨B, 0, none⟩)) (.cells #[.int .i64 yi, .int .i64 yk, .string yt, .int .i64 ys, .int .i64 yr, .int .i64 yu, .slice yp yl yc, .int .i64 ya, .int .i64 yd] 26) (fun W => by kernel_rfl) (by kernel_rfl) (fun B1 => ?_)
 replace H := H B1
 refine AtE.run 5 (fun W => by kernel_rfl) ?_
 refine AtE.load 0 0 (T := 3) (v := .int .i64 xi) (by kernel_rfl) ?_
 refine AtE.run 1 (fun W => by kernel_rfl) ?_
 refine AtE.load 1 0 (T := 3) (v := .int .i64 yi) (by kernel_rfl) ?_
 refine AtE.run 2 (fun W => by kernel_rfl) ?_
 refine AtE.splitP 10 (p := xi = yi) (by kernel_rfl) (fun h1' => ?_) (fun h1' => ?_)
 ·replace H := H.1 h1'
  refine AtE.run 1 (fun W => by kernel_rfl) ?_
  refine AtE.load 0 1 (T := 3) (v := .int .i64 xk) (by kernel_rfl) ?_
  refine AtE.run 1 (fun W => by kernel_rfl) ?_
  refine AtE.load 1 1 (T := 3) (v := .int .i64 yk) (by kernel_rfl) ?_
  refine AtE.norm (k' := [.inRegion (regOps [.code (EngB6s23 [1,0])]) [10,11,12,13,14,15,16,17,18,19,20,21,22,23,24,25,26,27,28,29,30,31,32,33,34,35,36,37,38,39,40], .code (EngB6s23 [1,1])]) (e' := [(2, .pointer (some ⟨B, 0, none⟩)), (3, .pointer (some ⟨B1, 0, none⟩)), (10, .bool true), (12, .int .i64 xk), (14, .int .i64 yk)]) (L' := [(B, .cells #[.int .i64 xi, .int .i64 xk, .string xt, .int .i64 xs, .int .i64 xr, .int .i64 xu, .slice xp xl xc, .int .i64 xa, .int .i64 xd] 26), (B1, .cells #[.int .i64 yi, .int .i64 yk, .string yt, .int .i64 ys, .int .i64 yr, .int .i64 yu, .slice yp yl yc, .int .i64 ya, .int .i64 yd] 26)]) ?_ (by kernel_rfl)
  refine AtE.run 3 (fun W => by kernel_rfl) ?_
  refine AtE.splitP 17 (p := xk = yk) (by kernel_rfl) (fun h2' => ?_) (fun h2' => ?_)
  ·replace H := H.1 h2'
   refine AtE.run 1 (fun W => by kernel_rfl) ?_
   refine AtE.load 0 2 (T := 9) (v := .string xt) (by kernel_rfl) ?_
   refine AtE.run 1 (fun W => by kernel_rfl) ?_
   refine AtE.load 1 2 (T := 9) (v := .string yt) (by kernel_rfl) ?_
   refine AtE.run 3 (fun W => by kernel_rfl) ?_
   refine AtE.splitS 24 (x := xt) (y := yt) (by kernel_rfl) (fun h3' => ?_) (fun h3' => ?_)
   ·replace H := H.1 h3'
    refine AtE.run 1 (fun W => by kernel_rfl) ?_
    refine AtE.load 0 3 (T := 3) (v := .int .i64 xs) (by kernel_rfl) ?_
    refine AtE.run 1 (fun W => by kernel_rfl) ?_
    refine AtE.load 1 3 (T := 3) (v := .int .i64 ys) (by kernel_rfl) ?_
    refine AtE.run 3 (fun W => by kernel_rfl) ?_
    refine AtE.splitP 31 (p := xs = ys) (by kernel_rfl) (fun h4' => ?_) (fun h4' => ?_)
    ·replace H := H.1 h4'
     refine AtE.norm (k' := [.inRegion (regOps [.code (EngB6s23 [1,0])]) [27,28,29,30,31,32,33,34,35,36,37,38,39,40], .code (EngB6s23 [1,1])]) (e' := [(2, .pointer (some ⟨B, 0, none⟩)), (3, .pointer (some ⟨B1, 0, none⟩)), (31, .bool true)]) (L' := [(B, .cells #[.int .i64 xi, .int .i64 xk, .string xt, .int .i64 xs, .int .i64 xr, .int .i64 xu, .slice xp xl xc, .int .i64 xa, .int .i64 xd] 26), (B1, .cells #[.int .i64 yi, .int .i64 yk, .string yt, .int .i64 ys, .int .i64 yr, .int .i64 yu, .slice yp yl yc, .int .i64 ya, .int .i64 yd] 26)]) ?_ (by kernel_rfl)
     refine AtE.run 1 (fun W => by kernel_rfl) ?_
     refine AtE.load 0 4 (T := 3) (v := .int .i64 xr) (by kernel_rfl) ?_
     refine AtE.run 1 (fun W => by kernel_rfl) ?_
     refine AtE.load 1 4 (T := 3) (v := .int .i64 yr) (by kernel_rfl) ?_
     refine AtE.run 3 (fun W => by kernel_rfl) ?_
     refine AtE.splitP 38 (p := xr = yr) (by kernel_rfl) (fun h5' => ?_) (fun h5' => ?_)
     ·replace H := H.1 h5'
      refine AtE.run 1 (fun W => by kernel_rfl) ?_
      refine AtE.load 0 5 (T := 24) (v := .agg #[.int .i64 xu, .slice xp xl xc, .int .i64 xa, .int .i64 xd]) (by kernel_rfl) ?_
      refine AtE.run 1 (fun W => by kernel_rfl) ?_
      refine AtE.load 1 5 (T := 24) (v := .agg #[.int .i64 yu, .slice yp yl yc, .int .i64 ya, .int .i64 yd]) (by kernel_rfl) ?_
      refine AtE.call 45 ⟨[.agg #[.int .i64 xu, .slice xp xl xc, .int .i64 xa, .int .i64 xd], .agg #[.int .i64 yu, .slice yp yl yc, .int .i64 ya, .int .i64 yd]]⟩ (fun W => by kernel_rfl) (by kernel_rfl) H ?_
      clear H
      rintro _ _ ⟨r1, rfl, rfl, H⟩
      refine AtE.run 3 (fun W => by kernel_rfl) ?_
      exact AtE.ret Tryd.func23 (by kernel_rfl) H
     ·replace H := H.2 h5'
      refine AtE.run 8 (fun W => by kernel_rfl) ?_
      exact AtE.ret Tryd.func23 (by kernel_rfl) H
    ·replace H := H.2 h4'
     refine AtE.norm (k' := [.inRegion (regOps [.code (EngB6s23 [1,0])]) [27,28,29,30,31,32,33,34,35,36,37,38,39,40], .code (EngB6s23 [1,1])]) (e' := [(2, .pointer (some ⟨B, 0, none⟩)), (3, .pointer (some ⟨B1, 0, none⟩)), (31, .bool false)]) (L' := [(B, .cells #[.int .i64 xi, .int .i64 xk, .string xt, .int .i64 xs, .int .i64 xr, .int .i64 xu, .slice xp xl xc, .int .i64 xa, .int .i64 xd] 26), (B1, .cells #[.int .i64 yi, .int .i64 yk, .string yt, .int .i64 ys, .int .i64 yr, .int .i64 yu, .slice yp yl yc, .int .i64 ya, .int .i64 yd] 26)]) ?_ (by kernel_rfl)
     refine AtE.run 15 (fun W => by kernel_rfl) ?_
     exact AtE.ret Tryd.func23 (by kernel_rfl) H
   ·replace H := H.2 h3'
    refine AtE.run 22 (fun W => by kernel_rfl) ?_
    exact AtE.ret Tryd.func23 (by kernel_rfl) H
  ·replace H := H.2 h2'
   refine AtE.run 29 (fun W => by kernel_rfl) ?_
   exact AtE.ret Tryd.func23 (by kernel_rfl) H
 ·replace H := H.2 h1'
  refine AtE.run 36 (fun W => by kernel_rfl) ?_
  exact AtE.ret Tryd.func23 (by kernel_rfl) H
def eqBlks_c0 (s21_p : Option Addr) (s21_l : Nat) (s21_c : Nat) (t15_p : Option Addr) (t15_l : Nat) (t15_c : Nat) (t16 : Int) (t17 : Int) (w0 : World) (R : Ending → World → Prop) : Prop :=
 AtE Tryd.prog 47 32 [.code (EngB6s47 [1,1,0,1,0,0]), .inLoop (EngB6s47 [1,1,0,1,0,0]), .inBlock 0, .code (EngB6s47 [1,1,1])] [(1, .slice s21_p s21_l s21_c), (2, .func (.func 23) #[] #[]), (15, .slice t15_p t15_l t15_c), (16, .int .i64 t16), (17, .int .i64 t17)] [] [] w0 (nrm R)
theorem eqBlks_c0_vc (s21_p : Option Addr) (s21_l : Nat) (s21_c : Nat) (t15_p : Option Addr) (t15_l : Nat) (t15_c : Nat) (t16 : Int) (t17 : Int) {R : Ending → World → Prop} {w0 : World}
  (H :
   ((t17 < t16) →
    ∃ t15_pb t15_po : Nat, t15_p = some ⟨t15_pb, t15_po, none⟩ ∧
    (0 ≤ t17 ∧ t17 < t15_l) ∧
    ∃ (cw : List Value) (m_0 : Int) (m_1 : Int) (m_2 : ByteArray) (m_3 : Int) (m_4 : Int) (m_5 : Int) (m_6_p : Option Addr) (m_6_l : Nat) (m_6_c : Nat) (m_7 : Int) (m_8 : Int), blkW w0 t15_pb = some cw ∧ ((cw.drop (t15_po + ((Int.toNat t17) * 9))).take 9 = [.int .i64 m_0, .int .i64 m_1, .string m_2, .int .i64 m_3, .int .i64 m_4, .int .i64 m_5, .slice m_6_p m_6_l m_6_c, .int .i64 m_7, .int .i64 m_8] ∧ (t15_po + ((Int.toNat t17) * 9)) + 9 ≤ cw.length) ∧
    ∀ B : Nat,
    ∃ s21_pb s21_po : Nat, s21_p = some ⟨s21_pb, s21_po, none⟩ ∧
    (0 ≤ t17 ∧ t17 < s21_l) ∧
    ∃ (cw1 : List Value) (m1_0 : Int) (m1_1 : Int) (m1_2 : ByteArray) (m1_3 : Int) (m1_4 : Int) (m1_5 : Int) (m1_6_p : Option Addr) (m1_6_l : Nat) (m1_6_c : Nat) (m1_7 : Int) (m1_8 : Int), blkW w0 s21_pb = some cw1 ∧ ((cw1.drop (s21_po + ((Int.toNat t17) * 9))).take 9 = [.int .i64 m1_0, .int .i64 m1_1, .string m1_2, .int .i64 m1_3, .int .i64 m1_4, .int .i64 m1_5, .slice m1_6_p m1_6_l m1_6_c, .int .i64 m1_7, .int .i64 m1_8] ∧ (s21_po + ((Int.toNat t17) * 9)) + 9 ≤ cw1.length) ∧
    ∀ B1 : Nat,
    CallH Tryd.prog 23 ⟨[.agg #[.int .i64 m_0, .int .i64 m_1, .string m_2, .int .i64 m_3, .int .i64 m_4, .int .i64 m_5, .slice m_6_p m_6_l m_6_c, .int .i64 m_7, .int .i64 m_8], .agg #[.int .i64 m1_0, .int .i64 m1_1, .string m1_2, .int .i64 m1_3, .int .i64 m1_4, .int .i64 m1_5, .slice m1_6_p m1_6_l m1_6_c, .int .i64 m1_7, .int .i64 m1_8]]⟩ [(B, .cells #[.int .i64 m_0, .int .i64 m_1, .string m_2, .int .i64 m_3, .int .i64 m_4, .int .i64 m_5, .slice m_6_p m_6_l m_6_c, .int .i64 m_7, .int .i64 m_8] 26), (B1, .cells #[.int .i64 m1_0, .int .i64 m1_1, .string m1_2, .int .i64 m1_3, .int .i64 m1_4, .int .i64 m1_5, .slice m1_6_p m1_6_l m1_6_c, .int .i64 m1_7, .int .i64 m1_8] 26)] [] w0 (fun v L' => ∃ (r1 : Bool), v = (.bool r1) ∧ L' = [(B, .cells #[.int .i64 m_0, .int .i64 m_1, .string m_2, .int .i64 m_3, .int .i64 m_4, .int .i64 m_5, .slice m_6_p m_6_l m_6_c, .int .i64 m_7, .int .i64 m_8] 26), (B1, .cells #[.int .i64 m1_0, .int .i64 m1_1, .string m1_2, .int .i64 m1_3, .int .i64 m1_4, .int .i64 m1_5, .slice m1_6_p m1_6_l m1_6_c, .int .i64 m1_7, .int .i64 m1_8] 26)] ∧
     ((r1 = true) →
      eqBlks_c0 (some ⟨s21_pb, s21_po, none⟩) s21_l s21_c (some ⟨t15_pb, t15_po, none⟩) t15_l t15_c t16 (IntKind.i64.wrap (t17 + (1 : Int))) w0 R) ∧
      ((r1 = false) →
      Fin R [(B, .cells #[.int .i64 m_0, .int .i64 m_1, .string m_2, .int .i64 m_3, .int .i64 m_4, .int .i64 m_5, .slice m_6_p m_6_l m_6_c, .int .i64 m_7, .int .i64 m_8] 26), (B1, .cells #[.int .i64 m1_0, .int .i64 m1_1, .string m1_2, .int .i64 m1_3, .int .i64 m1_4, .int .i64 m1_5, .slice m1_6_p m1_6_l m1_6_c, .int .i64 m1_7, .int .i64 m1_8] 26)] [] w0 (.bool false)))) ∧
    ((¬ (t17 < t16)) →
    Fin R [] [] w0 (.bool true))) :
  eqBlks_c0 s21_p s21_l s21_c t15_p t15_l t15_c t16 t17 w0 R := by
 unfold eqBlks_c0
 refine AtE.run 5 (fun W => by kernel_rfl) ?_
 refine AtE.splitP 18 (p := t17 < t16) (by kernel_rfl) (fun h2' => ?_) (fun h2' => ?_)
 ·replace H := H.1 h2'
  refine AtE.run 7 (fun W => by kernel_rfl) ?_
  obtain ⟨t15_pb, t15_po, rfl, H⟩ := H
  refine AtE.indexAddrL (E := 26) (b := t15_pb) (o := t15_po) (len := t15_l) (cap := t15_c) (sz := 9) (o' := (t15_po + ((Int.toNat t17) * 9))) (kd := .i64) (i := t17) (by kernel_rfl) H.1 (by omega) ?_
  replace H := H.2
  obtain ⟨cw, m_0, m_1, m_2, m_3, m_4, m_5, m_6_p, m_6_l, m_6_c, m_7, m_8, hw, hx, H⟩ := H
  refine AtE.loadW (b := t15_pb) (off := (t15_po + ((Int.toNat t17) * 9))) (T := 26) (v := .agg #[.int .i64 m_0, .int .i64 m_1, .string m_2, .int .i64 m_3, .int .i64 m_4, .int .i64 m_5, .slice m_6_p m_6_l m_6_c, .int .i64 m_7, .int .i64 m_8]) (by kernel_rfl) List.not_mem_nil hw (valAt_agg hx.1 hx.2 (by kernel_rfl) (by kernel_rfl)) ?_
  refine AtE.new (fun B => .pointer (some ⟨B, 0, none⟩)) (.cells #[.int .i64 (0 : Int), .int .i64 (0 : Int), .string (⟨#[]⟩), .int .i64 (0 : Int), .int .i64 (0 : Int), .int .i64 (0 : Int), .slice none 0 0, .int .i64 (0 : Int), .int .i64 (0 : Int)] 26) (fun W => by kernel_rfl) (by kernel_rfl) (fun B => ?_)
  replace H := H B
  refine AtE.run 1 (fun W => by kernel_rfl) ?_
  refine AtE.store 0 0 (T := 26) (v := .agg #[.int .i64 m_0, .int .i64 m_1, .string m_2, .int .i64 m_3, .int .i64 m_4, .int .i64 m_5, .slice m_6_p m_6_l m_6_c, .int .i64 m_7, .int .i64 m_8]) (by kernel_rfl) ?_
  refine AtE.run 5 (fun W => by kernel_rfl) ?_
  obtain ⟨s21_pb, s21_po, rfl, H⟩ := H
  refine AtE.norm (k' := [.inRegion (regOps [.code (EngB6s47 [1,1,0,1,0,0,1,1,0,0,1,0])]) [2,3,4,5], .code (EngB6s47 [1,1,0,1,0,0,1,1,0,0,1,1]), .inBlock 1, .code (EngB6s47 [1,1,0,1,0,0,1,1,1]), .inLoop (EngB6s47 [1,1,0,1,0,0]), .inBlock 0, .code (EngB6s47 [1,1,1])]) (e' := [(1, .slice (some ⟨s21_pb, s21_po, none⟩) s21_l s21_c), (2, .func (.func 23) #[] #[]), (8, .pointer (some ⟨B, 0, none⟩)), (15, .slice (some ⟨t15_pb, t15_po, none⟩) t15_l t15_c), (16, .int .i64 t16), (17, .int .i64 t17), (22, .slice (some ⟨s21_pb, s21_po, none⟩) s21_l s21_c), (23, .int .i64 t17)]) (L' := [(B, .cells #[.int .i64 m_0, .int .i64 m_1, .string m_2, .int .i64 m_3, .int .i64 m_4, .int .i64 m_5, .slice m_6_p m_6_l m_6_c, .int .i64 m_7, .int .i64 m_8] 26)]) ?_ (by kernel_rfl)
  refine AtE.indexAddrL (E := 26) (b := s21_pb) (o := s21_po) (len := s21_l) (cap := s21_c) (sz := 9) (o' := (s21_po + ((Int.toNat t17) * 9))) (kd := .i64) (i := t17) (by kernel_rfl) H.1 (by omega) ?_
  replace H := H.2
  obtain ⟨cw1, m1_0, m1_1, m1_2, m1_3, m1_4, m1_5, m1_6_p, m1_6_l, m1_6_c, m1_7, m1_8, hw, hx, H⟩ := H
  refine AtE.loadW (b := s21_pb) (off := (s21_po + ((Int.toNat t17) * 9))) (T := 26) (v := .agg #[.int .i64 m1_0, .int .i64 m1_1, .string m1_2, .int .i64 m1_3, .int .i64 m1_4, .int .i64 m1_5, .slice m1_6_p m1_6_l m1_6_c, .int .i64 m1_7, .int .i64 m1_8]) (by kernel_rfl) List.not_mem_nil hw (valAt_agg hx.1 hx.2 (by kernel_rfl) (by kernel_rfl)) ?_
  refine AtE.new (fun B => .pointer (some ⟨B, 0, none⟩)) (.cells #[.int .i64 (0 : Int), .int .i64 (0 : Int), .string (⟨#[]⟩), .int .i64 (0 : Int), .int .i64 (0 : Int), .int .i64 (0 : Int), .slice none 0 0, .int .i64 (0 : Int), .int .i64 (0 : Int)] 26) (fun W => by kernel_rfl) (by kernel_rfl) (fun B1 => ?_)
  replace H := H B1
  refine AtE.store 1 0 (T := 26) (v := .agg #[.int .i64 m1_0, .int .i64 m1_1, .string m1_2, .int .i64 m1_3, .int .i64 m1_4, .int .i64 m1_5, .slice m1_6_p m1_6_l m1_6_c, .int .i64 m1_7, .int .i64 m1_8]) (by kernel_rfl) ?_
  refine AtE.run 4 (fun W => by kernel_rfl) ?_
  refine AtE.load 0 0 (T := 26) (v := .agg #[.int .i64 m_0, .int .i64 m_1, .string m_2, .int .i64 m_3, .int .i64 m_4, .int .i64 m_5, .slice m_6_p m_6_l m_6_c, .int .i64 m_7, .int .i64 m_8]) (by kernel_rfl) ?_
  refine AtE.load 1 0 (T := 26) (v := .agg #[.int .i64 m1_0, .int .i64 m1_1, .string m1_2, .int .i64 m1_3, .int .i64 m1_4, .int .i64 m1_5, .slice m1_6_p m1_6_l m1_6_c, .int .i64 m1_7, .int .i64 m1_8]) (by kernel_rfl) ?_
  refine AtE.call 23 ⟨[.agg #[.int .i64 m_0, .int .i64 m_1, .string m_2, .int .i64 m_3, .int .i64 m_4, .int .i64 m_5, .slice m_6_p m_6_l m_6_c, .int .i64 m_7, .int .i64 m_8], .agg #[.int .i64 m1_0, .int .i64 m1_1, .string m1_2, .int .i64 m1_3, .int .i64 m1_4, .int .i64 m1_5, .slice m1_6_p m1_6_l m1_6_c, .int .i64 m1_7, .int .i64 m1_8]]⟩ (fun W => by kernel_rfl) (by kernel_rfl) H ?_
  clear H
  rintro _ _ ⟨r1, rfl, rfl, H⟩
  refine AtE.norm (k' := [.inRegion (regOps [.code (EngB6s47 [1,1,0,1,0,0,1,1,0,0,1,1,0])]) [4], .code (EngB6s47 [1,1,0,1,0,0,1,1,0,0,1,1,1]), .inBlock 1, .code (EngB6s47 [1,1,0,1,0,0,1,1,1]), .inLoop (EngB6s47 [1,1,0,1,0,0]), .inBlock 0, .code (EngB6s47 [1,1,1])]) (e' := [(1, .slice (some ⟨s21_pb, s21_po, none⟩) s21_l s21_c), (2, .func (.func 23) #[] #[]), (15, .slice (some ⟨t15_pb, t15_po, none⟩) t15_l t15_c), (16, .int .i64 t16), (17, .int .i64 t17), (29, .bool r1)]) (L' := [(B, .cells #[.int .i64 m_0, .int .i64 m_1, .string m_2, .int .i64 m_3, .int .i64 m_4, .int .i64 m_5, .slice m_6_p m_6_l m_6_c, .int .i64 m_7, .int .i64 m_8] 26), (B1, .cells #[.int .i64 m1_0, .int .i64 m1_1, .string m1_2, .int .i64 m1_3, .int .i64 m1_4, .int .i64 m1_5, .slice m1_6_p m1_6_l m1_6_c, .int .i64 m1_7, .int .i64 m1_8] 26)]) ?_ (by kernel_rfl)
  refine AtE.split 29 (b := r1) (by kernel_rfl) (fun h3' => ?_) (fun h3' => ?_)
  ·replace H := H.1 h3'
   refine AtE.run 10 (fun W => by kernel_rfl) ?_
   exact AtE.cut [] H (by kernel_rfl)
  ·replace H := H.2 h3'
   refine AtE.run 7 (fun W => by kernel_rfl) ?_
   exact AtE.ret Tryd.func47 (by kernel_rfl) H
 ·replace H := H.2 h2'
  refine AtE.run 6 (fun W => by kernel_rfl) ?_
  exact AtE.ret Tryd.func47 (by kernel_rfl) H
theorem eqBlks_vc (s1_p : Option Addr) (s1_l : Nat) (s1_c : Nat) (s2_p : Option Addr) (s2_l : Nat) (s2_c : Nat) {R : Ending → World → Prop} {w0 W : World} (hm : Mem [] [] w0 W)
  (H :
   ((¬ ((s1_l : Int) = (s2_l : Int))) →
    Fin R [] [] w0 (.bool false)) ∧
    (((s1_l : Int) = (s2_l : Int)) →
    eqBlks_c0 s2_p s2_l s2_c s1_p s1_l s1_c (s1_l : Int) (0 : Int) w0 R)) :
  Calls Tryd.prog 47 ⟨[.slice s1_p s1_l s1_c, .slice s2_p s2_l s2_c, .func (.func 23) #[] #[]]⟩ W R := by
 refine AtE.calls (nt := 32) Tryd.func47 (by kernel_rfl) hm ?_
 refine AtE.run 13 (fun W => by kernel_rfl) ?_
 refine AtE.splitN 14 (p := (s1_l : Int) = (s2_l : Int)) (by kernel_rfl) (fun h1' => ?_) (fun h1' => ?_)
 ·replace H := H.1 h1'
  refine AtE.run 5 (fun W => by kernel_rfl) ?_
  exact AtE.ret Tryd.func47 (by kernel_rfl) H
 ·replace H := H.2 h1'
  refine AtE.run 11 (fun W => by kernel_rfl) ?_
  exact AtE.cut [] H (by kernel_rfl)
theorem sameL_vc (a_p : Option Addr) (a_l : Nat) (a_c : Nat) (b_p : Option Addr) (b_l : Nat) (b_c : Nat) {R : Ending → World → Prop} {w0 W : World} (hm : Mem [] [] w0 W)
  (H :
   CallH Tryd.prog 47 ⟨[.slice a_p a_l a_c, .slice b_p b_l b_c, .func (.func 23) #[] #[]]⟩ [] [] w0 (fun v L' => ∃ (r1 : Bool), v = (.bool r1) ∧ L' = [] ∧
    Fin R [] [] w0 (.bool r1))) :
  Calls Tryd.prog 25 ⟨[.slice a_p a_l a_c, .slice b_p b_l b_c]⟩ W R := by
 refine AtE.calls (nt := 8) Tryd.func25 (by kernel_rfl) hm ?_
 refine AtE.run 8 (fun W => by kernel_rfl) ?_
 refine AtE.call 47 ⟨[.slice a_p a_l a_c, .slice b_p b_l b_c, .func (.func 23) #[] #[]]⟩ (fun W => by kernel_rfl) (by kernel_rfl) H ?_
 clear H
 rintro _ _ ⟨r1, rfl, rfl, H⟩
 refine AtE.run 2 (fun W => by kernel_rfl) ?_
 exact AtE.ret Tryd.func25 (by kernel_rfl) H
end Go.Eng
namespace Go.Eng
open Go Go.RowKit Go.Proofs Wire
set_option linter.unusedVariables false
theorem QCall.pw {P : Program} {L : SHeap} {S : List Nat} {w0 : World} {g : FuncId} {args : Array Value} {v : Value} (h : ∀ W, Mem L S w0 W → PW P g args W v) : QCall P g args L S w0 v :=
  fun W hm => (h W hm).mono fun _ _ hh => ⟨hh.1, hm.after hh.2⟩
theorem QCallB.pw {P : Program} {L : SHeap} {S : List Nat} {w0 : World} {g : FuncId} {args : Array Value} {v : Value} (h : ∀ W, Mem L S w0 W → PW P g args W v) : QCallB P g args L S w0 v := h
theorem Blk.ext' {x y : Blk} : x = y ↔ x.id = y.id ∧ x.kind = y.kind ∧ x.text = y.text ∧ x.story = y.story ∧ x.ref = y.ref ∧ x.lab = y.lab := by
  cases x; cases y; simp
theorem Blk.ne {x y : Blk} (h : ¬ (x.id = y.id ∧ x.kind = y.kind ∧ x.text = y.text ∧ x.story = y.story ∧ x.ref = y.ref ∧ x.lab = y.lab)) : (Value.bool false) = .bool (decide (x = y)) := by
  rw [decide_eq_false (fun e => h (Blk.ext'.1 e))]
theorem Blk.eqLab {x y : Blk} (h1 : x.id = y.id) (h2 : x.kind = y.kind) (h3 : x.text = y.text) (h4 : x.story = y.story) (h5 : x.ref = y.ref) : decide (x.lab = y.lab) = decide (x = y) := by
  simp only [Blk.ext', h1, h2, h3, h4, h5, true_and]
theorem same_c {W : World} {p q : Option Addr} {c d : Nat} {x y : Blk} (hx : IntsL (lkW W) p x.lab.after) (hy : IntsL (lkW W) q y.lab.after) (hf : x.Fits) :
    PW Tryd.prog 23 ⟨[.agg ⟨x.cells p c⟩, .agg ⟨y.cells q d⟩]⟩ W (.bool (decide (x = y))) := by
  refine same_vc x.id x.kind x.text x.story x.ref x.lab.unt p x.lab.after.length c x.lab.appr x.lab.den y.id y.kind y.text y.story y.ref y.lab.unt q y.lab.after.length d y.lab.appr y.lab.den (Mem.start [] W) fun B B1 => ?_
  refine ⟨fun h1 => ⟨fun h2 => ⟨fun h3 => ⟨fun h4 => ⟨fun h5 => ?_, fun h5 => finPW (Blk.ne fun h => h5 h.2.2.2.2.1)⟩, fun h4 => finPW (Blk.ne fun h => h4 h.2.2.2.1)⟩, fun h3 => finPW (Blk.ne fun h => h3 h.2.2.1)⟩, fun h2 => finPW (Blk.ne fun h => h2 h.2.1)⟩, fun h1 => finPW (Blk.ne fun h => h1 h.1)⟩
  exact CallH.pw (fun W' hm' => labSame_c (hx.mono (lkW_kept hm')) (hy.mono (lkW_kept hm')) hf.2) ⟨_, rfl, rfl, finPW (by rw [Blk.eqLab h1 h2 h3 h4 h5])⟩
theorem eqBlks_loop {w0 : World} {p q : Option Addr} {cp cq : Nat} {R : Ending → World → Prop} {a b : List Blk} (ha : BlksL (lkW w0) p a) (hb : BlksL (lkW w0) q b) (hl : a.length = b.length) (hm : a.length ≤ 9223372036854775807) (HR : ∀ L v, Fin R [] [] w0 v → Fin R L [] w0 v) :
    ∀ (g i : Nat), g + i = a.length → Fin R [] [] w0 (.bool (decide (a.drop i = b.drop i))) → eqBlks_c0 q b.length cq p a.length cp (a.length : Int) (i : Int) w0 R
  | 0, i, hg, H => by
    apply eqBlks_c0_vc
    refine no (by omega) (finEq H ?_)
    rw [List.drop_of_length_le (by omega), List.drop_of_length_le (by omega)]
    simp
  | g + 1, i, hg, H => by
    apply eqBlks_c0_vc
    have h1 : i < a.length := by omega
    have h2 : i < b.length := by omega
    obtain ⟨B1, o1, c1, rfl, e2, e3, p6, c6, e4, e5, e6⟩ := ha.get h1
    obtain ⟨B2, o2, c2, rfl, f2, f3, p7, c7, f4, f5, f6⟩ := hb.get h2
    simp only [drop_eq h1 h2] at H
    refine yes (by omega) ⟨B1, o1, rfl, by omega, c1, a[i].id, a[i].kind, a[i].text, a[i].story, a[i].ref, a[i].lab.unt, p6, a[i].lab.after.length, c6, a[i].lab.appr, a[i].lab.den, e2, ⟨by simpa using e4, by simpa using e3⟩, fun B3 =>
      ⟨B2, o2, rfl, by omega, c2, b[i].id, b[i].kind, b[i].text, b[i].story, b[i].ref, b[i].lab.unt, p7, b[i].lab.after.length, c7, b[i].lab.appr, b[i].lab.den, f2, ⟨by simpa using f4, by simpa using f3⟩, fun B4 => ?_⟩⟩
    refine CallH.pw (fun W' hm' => same_c (e5.mono (lkW_kept hm')) (f5.mono (lkW_kept hm')) e6) ⟨_, rfl, rfl, fun h => ?_, fun h => HR _ _ (finEq H ?_)⟩
    · have h := of_decide_eq_true h
      rw [wi64 (by omega), show (i : Int) + 1 = ((i + 1 : Nat) : Int) by omega]
      refine eqBlks_loop ha hb hl hm HR g (i + 1) (by omega) (finEq H ?_)
      simp [h]
    · have h := of_decide_eq_false h
      simp [h]
theorem sameL_c {W : World} {p q : Option Addr} {cp cq : Nat} {a b : List Blk} (ha : BlksL (lkW W) p a) (hb : BlksL (lkW W) q b) (hm : a.length ≤ 9223372036854775807) :
    PW Tryd.prog 25 ⟨[.slice p a.length cp, .slice q b.length cq]⟩ W (.bool (decide (a = b))) := by
  refine sameL_vc p a.length cp q b.length cq (Mem.start [] W) (CallH.pw (v := .bool (decide (a = b))) (fun W' hm' => ?_) ⟨_, rfl, rfl, finPW rfl⟩)
  have ha := ha.mono (lkW_kept hm')
  have hb := hb.mono (lkW_kept hm')
  refine eqBlks_vc p a.length cp q b.length cq (Mem.start [] W') ⟨fun h => finPW ?_, fun h => eqBlks_loop ha hb (by omega) hm pwLoose a.length 0 (by omega) (finPW ?_)⟩
  · rw [decide_eq_false]
    intro hab; subst hab; exact h rfl
  · simp
end Go.Eng
namespace Go.Eng
open Go Go.RowKit Go.Proofs
set_option linter.unusedVariables false
set_option maxRecDepth 100000
noncomputable abbrev EngB7s50 := sub (Eng.body Tryd.f50)
noncomputable abbrev EngB7s51 := sub (Eng.body Tryd.f51)
noncomputable abbrev EngB7s62 := sub (Eng.body Tryd.f62)
theorem ws0_vc (B : Nat) (s : ByteArray) {R : Ending → World → Prop} {S : List Nat} {w0 W : World} (hm : Mem [(B, .cells #[.pointer none, .slice none 0 0] 60)] S w0 W)
  (H :
   (s.size ≤ 9223372036854775807 ∧ s.size * 1 ≤ 140737488355328) ∧ ((s.size = 0 →
    ∀ t4 : Int, t4 = (s.size : Int) →
    Fin R [(B, .cells #[.pointer (some ⟨B, 0, none⟩), .slice none 0 0] 60)] S w0 (.tuple #[.int .i64 t4, .nilIface])) ∧
    (0 < s.size → ∀ (B1 cap : Nat) (r2 : List Value), s.size ≤ cap → ((bytesL s.data.toList) ++ r2).length = cap * 1 →
    ∀ t41 : Int, t41 = (s.size : Int) →
    Fin R [(B, .cells #[.pointer (some ⟨B, 0, none⟩), .slice (some ⟨B1, 0, none⟩) s.size cap] 60), (B1, .cells ⟨((bytesL s.data.toList) ++ r2)⟩ 5)] S w0 (.tuple #[.int .i64 t41, .nilIface])))) :
  Calls Tryd.prog 50 ⟨[.pointer (some ⟨B, 0, none⟩), .string s]⟩ W R := by
 refine AtE.calls (nt := 19) Tryd.func50 (by kernel_rfl) hm ?_
 refine AtE.run 8 (fun W => by kernel_rfl) ?_
 refine AtE.inl 75 ⟨[.pointer (some ⟨B, 0, none⟩)]⟩ (fun W => by kernel_rfl) (by kernel_rfl) (fun W hm => AtE.calls (nt := 20) Tryd.func75 (by kernel_rfl) hm ?_)
 refine AtE.run 5 (fun W => by kernel_rfl) ?_
 refine AtE.load 0 0 (T := 57) (v := .pointer none) (by kernel_rfl) ?_
 refine AtE.run 6 (fun W => by kernel_rfl) ?_
 refine AtE.ptrConv 0 (t := 60) (B := B) (off := 0) (c := ([.pointer none, .slice none 0 0] : List Value)) (E := 60) (fz := (0, 0)) (sz := 1) (by kernel_rfl) (by simp) ?_
 refine AtE.run 1 (fun W => by kernel_rfl) ?_
 refine AtE.ptrBack 0 (u := 60) (B := B) (off := 0) (n := 2) (c := ([.pointer none, .slice none 0 0] : List Value)) (E := 60) (fz := (0, 0)) (by kernel_rfl) rfl ?_
 refine AtE.run 2 (fun W => by kernel_rfl) ?_
 refine AtE.store 0 0 (T := 57) (v := .pointer (some ⟨B, 0, none⟩)) (by kernel_rfl) ?_
 refine AtE.run 1 (fun W => by kernel_rfl) ?_
 refine AtE.retK (v := .tuple #[]) Tryd.func75 (by kernel_rfl) ?_
 refine AtE.norm (k' := [.inRegion (regOps [.code (EngB7s50 [1,0])]) [], .code (EngB7s50 [1,1])]) (e' := [(0, .pointer (some ⟨B, 0, none⟩)), (1, .string s)]) (L' := [(B, .cells #[.pointer (some ⟨B, 0, none⟩), .slice none 0 0] 60)]) ?_ (by kernel_rfl)
 refine AtE.run 7 (fun W => by kernel_rfl) ?_
 refine AtE.load 0 1 (T := 58) (v := .slice none 0 0) (by kernel_rfl) ?_
 refine AtE.run 1 (fun W => by kernel_rfl) ?_
 refine AtE.appendS (T := 58) (U := 9) (E := 5) (z := .int .u8 (0 : Int)) (sz := 1) (bytes := 1) (x := .string s) s.size (bytesL s.data.toList) (by kernel_rfl) (srcStr (by kernel_rfl) _) H.1 (fun h0 => ?_) (fun h0 B1 cap r2 h1 h2 => ?_)
 ·replace H := H.2.1 h0
  refine AtE.run 2 (fun W => by kernel_rfl) ?_
  refine AtE.store 0 1 (T := 58) (v := .slice none 0 0) (by kernel_rfl) ?_
  refine AtE.run 6 (fun W => by kernel_rfl) ?_
  refine AtE.letI 4 (kd := .i64) (n := (s.size : Int)) (by kernel_rfl) (fun t4 ht4 => ?_)
  replace H := H t4 ht4
  refine AtE.run 2 (fun W => by kernel_rfl) ?_
  exact AtE.ret Tryd.func50 (by kernel_rfl) H
 ·skip
  replace H := H.2.2 h0 B1 cap r2 h1 h2
  refine AtE.run 2 (fun W => by kernel_rfl) ?_
  refine AtE.store 0 1 (T := 58) (v := .slice (some ⟨B1, 0, none⟩) s.size cap) (by kernel_rfl) ?_
  refine AtE.run 6 (fun W => by kernel_rfl) ?_
  refine AtE.letI 4 (kd := .i64) (n := (s.size : Int)) (by kernel_rfl) (fun t41 ht41 => ?_)
  replace H := H t41 ht41
  refine AtE.run 2 (fun W => by kernel_rfl) ?_
  exact AtE.ret Tryd.func50 (by kernel_rfl) H
theorem ws1_vc (B : Nat) (s : ByteArray) {R : Ending → World → Prop} {S : List Nat} {w0 W : World} (hm : Mem [(B, .cells #[.pointer (some ⟨B, 0, none⟩), .slice none 0 0] 60)] S w0 W)
  (H :
   (s.size ≤ 9223372036854775807 ∧ s.size * 1 ≤ 140737488355328) ∧ ((s.size = 0 →
    ∀ t4 : Int, t4 = (s.size : Int) →
    Fin R [(B, .cells #[.pointer (some ⟨B, 0, none⟩), .slice none 0 0] 60)] S w0 (.tuple #[.int .i64 t4, .nilIface])) ∧
    (0 < s.size → ∀ (B1 cap : Nat) (r : List Value), s.size ≤ cap → ((bytesL s.data.toList) ++ r).length = cap * 1 →
    ∀ t41 : Int, t41 = (s.size : Int) →
    Fin R [(B, .cells #[.pointer (some ⟨B, 0, none⟩), .slice (some ⟨B1, 0, none⟩) s.size cap] 60), (B1, .cells ⟨((bytesL s.data.toList) ++ r)⟩ 5)] S w0 (.tuple #[.int .i64 t41, .nilIface])))) :
  Calls Tryd.prog 50 ⟨[.pointer (some ⟨B, 0, none⟩), .string s]⟩ W R := by
 refine AtE.calls (nt := 19) Tryd.func50 (by kernel_rfl) hm ?_
 refine AtE.run 8 (fun W => by kernel_rfl) ?_
 refine AtE.inl 75 ⟨[.pointer (some ⟨B, 0, none⟩)]⟩ (fun W => by kernel_rfl) (by kernel_rfl) (fun W hm => AtE.calls (nt := 20) Tryd.func75 (by kernel_rfl) hm ?_)
 refine AtE.run 5 (fun W => by kernel_rfl) ?_
 refine AtE.load 0 0 (T := 57) (v := .pointer (some ⟨B, 0, none⟩)) (by kernel_rfl) ?_
 refine AtE.run 8 (fun W => by kernel_rfl) ?_
 refine AtE.load 0 0 (T := 57) (v := .pointer (some ⟨B, 0, none⟩)) (by kernel_rfl) ?_
 refine AtE.run 1 (fun W => by kernel_rfl) ?_
 refine AtE.neqSame (T := 57) (E := 60) (a := ⟨B, 0, none⟩) (by kernel_rfl) ?_
 refine AtE.run 3 (fun W => by kernel_rfl) ?_
 refine AtE.retK (v := .tuple #[]) Tryd.func75 (by kernel_rfl) ?_
 refine AtE.run 7 (fun W => by kernel_rfl) ?_
 refine AtE.load 0 1 (T := 58) (v := .slice none 0 0) (by kernel_rfl) ?_
 refine AtE.run 1 (fun W => by kernel_rfl) ?_
 refine AtE.appendS (T := 58) (U := 9) (E := 5) (z := .int .u8 (0 : Int)) (sz := 1) (bytes := 1) (x := .string s) s.size (bytesL s.data.toList) (by kernel_rfl) (srcStr (by kernel_rfl) _) H.1 (fun h0 => ?_) (fun h0 B1 cap r h1 h2 => ?_)
 ·replace H := H.2.1 h0
  refine AtE.norm (k' := [.inRegion (regOps [.code (EngB7s50 [1,1,0])]) [7,8,9], .code (EngB7s50 [1,1,1])]) (e' := [(1, .string s), (8, .pointer (some ⟨B, 0, none⟩)), (14, .slice none 0 0)]) (L' := [(B, .cells #[.pointer (some ⟨B, 0, none⟩), .slice none 0 0] 60)]) ?_ (by kernel_rfl)
  refine AtE.run 2 (fun W => by kernel_rfl) ?_
  refine AtE.store 0 1 (T := 58) (v := .slice none 0 0) (by kernel_rfl) ?_
  refine AtE.run 6 (fun W => by kernel_rfl) ?_
  refine AtE.letI 4 (kd := .i64) (n := (s.size : Int)) (by kernel_rfl) (fun t4 ht4 => ?_)
  replace H := H t4 ht4
  refine AtE.run 2 (fun W => by kernel_rfl) ?_
  exact AtE.ret Tryd.func50 (by kernel_rfl) H
 ·skip
  replace H := H.2.2 h0 B1 cap r h1 h2
  refine AtE.norm (k' := [.inRegion (regOps [.code (EngB7s50 [1,1,0])]) [7,8,9], .code (EngB7s50 [1,1,1])]) (e' := [(1, .string s), (8, .pointer (some ⟨B, 0, none⟩)), (14, .slice (some ⟨B1, 0, none⟩) s.size cap)]) (L' := [(B, .cells #[.pointer (some ⟨B, 0, none⟩), .slice none 0 0] 60), (B1, .cells ⟨((bytesL s.data.toList) ++ r)⟩ 5)]) ?_ (by kernel_rfl)
  refine AtE.run 2 (fun W => by kernel_rfl) ?_
  refine AtE.store 0 1 (T := 58) (v := .slice (some ⟨B1, 0, none⟩) s.size cap) (by kernel_rfl) ?_
  refine AtE.run 6 (fun W => by kernel_rfl) ?_
  refine AtE.letI 4 (kd := .i64) (n := (s.size : Int)) (by kernel_rfl) (fun t41 ht41 => ?_)
  replace H := H t41 ht41
  refine AtE.run 2 (fun W => by kernel_rfl) ?_
  exact AtE.ret Tryd.func50 (by kernel_rfl) H
theorem ws2_vc (B : Nat) (s : ByteArray) (Q : Nat) (n : Nat) (cap : Nat) (cs : List Value) {R : Ending → World → Prop} {S : List Nat} {w0 W : World} (hm : Mem [(B, .cells #[.pointer (some ⟨B, 0, none⟩), .slice (some ⟨Q, 0, none⟩) n (cap + 1)] 60), (Q, .cells ⟨cs⟩ 5)] S w0 W)
  (H :
   (n ≤ (cap + 1) ∧ (cs).length = (cap + 1) * 1) ∧ ((n + s.size) ≤ 9223372036854775807 ∧ (n + s.size) * 1 ≤ 140737488355328) ∧
   ∀ (B1 cap1 : Nat) (r : List Value), (n + s.size) ≤ cap1 → ((cs).take (n * 1) ++ (bytesL s.data.toList) ++ r).length = cap1 * 1 →
   ∀ t4 : Int, t4 = (s.size : Int) →
   Fin R [(B, .cells #[.pointer (some ⟨B, 0, none⟩), .slice (some ⟨B1, 0, none⟩) (n + s.size) cap1] 60), (B1, .cells ⟨((cs).take (n * 1) ++ (bytesL s.data.toList) ++ r)⟩ 5)] S w0 (.tuple #[.int .i64 t4, .nilIface])) :
  Calls Tryd.prog 50 ⟨[.pointer (some ⟨B, 0, none⟩), .string s]⟩ W R := by
 refine AtE.calls (nt := 19) Tryd.func50 (by kernel_rfl) hm ?_
 refine AtE.run 8 (fun W => by kernel_rfl) ?_
 refine AtE.inl 75 ⟨[.pointer (some ⟨B, 0, none⟩)]⟩ (fun W => by kernel_rfl) (by kernel_rfl) (fun W hm => AtE.calls (nt := 20) Tryd.func75 (by kernel_rfl) hm ?_)
 refine AtE.run 5 (fun W => by kernel_rfl) ?_
 refine AtE.load 0 0 (T := 57) (v := .pointer (some ⟨B, 0, none⟩)) (by kernel_rfl) ?_
 refine AtE.run 8 (fun W => by kernel_rfl) ?_
 refine AtE.load 0 0 (T := 57) (v := .pointer (some ⟨B, 0, none⟩)) (by kernel_rfl) ?_
 refine AtE.run 1 (fun W => by kernel_rfl) ?_
 refine AtE.neqSame (T := 57) (E := 60) (a := ⟨B, 0, none⟩) (by kernel_rfl) ?_
 refine AtE.run 3 (fun W => by kernel_rfl) ?_
 refine AtE.retK (v := .tuple #[]) Tryd.func75 (by kernel_rfl) ?_
 refine AtE.run 7 (fun W => by kernel_rfl) ?_
 refine AtE.load 0 1 (T := 58) (v := .slice (some ⟨Q, 0, none⟩) n (cap + 1)) (by kernel_rfl) ?_
 refine AtE.run 1 (fun W => by kernel_rfl) ?_
 refine AtE.appendOS 1 (T := 58) (U := 9) (E := 5) (z := .int .u8 (0 : Int)) (sz := 1) (bytes := 1) (len := n) (cap := (cap + 1)) (x := .string s) (cs := cs) s.size (bytesL s.data.toList) (by kernel_rfl) (srcStr (by kernel_rfl) _) H.1 H.2.1 (fun B1 cap1 r h1 h2 => ?_)
 replace H := H.2.2 B1 cap1 r h1 h2
 refine AtE.norm (k' := [.inRegion (regOps [.code (EngB7s50 [1,1,0])]) [7,8,9], .code (EngB7s50 [1,1,1])]) (e' := [(1, .string s), (8, .pointer (some ⟨B, 0, none⟩)), (14, .slice (some ⟨B1, 0, none⟩) (n + s.size) cap1)]) (L' := [(B, .cells #[.pointer (some ⟨B, 0, none⟩), .slice (some ⟨Q, 0, none⟩) n (cap + 1)] 60), (B1, .cells ⟨((cs).take (n * 1) ++ (bytesL s.data.toList) ++ r)⟩ 5)]) ?_ (by kernel_rfl)
 refine AtE.run 2 (fun W => by kernel_rfl) ?_
 refine AtE.store 0 1 (T := 58) (v := .slice (some ⟨B1, 0, none⟩) (n + s.size) cap1) (by kernel_rfl) ?_
 refine AtE.run 6 (fun W => by kernel_rfl) ?_
 refine AtE.letI 4 (kd := .i64) (n := (s.size : Int)) (by kernel_rfl) (fun t4 ht4 => ?_)
 replace H := H t4 ht4
 refine AtE.run 2 (fun W => by kernel_rfl) ?_
 exact AtE.ret Tryd.func50 (by kernel_rfl) H
theorem wb0_vc (B : Nat) (cv : Int) {R : Ending → World → Prop} {S : List Nat} {w0 W : World} (hm : Mem [(B, .cells #[.pointer none, .slice none 0 0] 60)] S w0 W)
  (H :
   ∀ B1 : Nat,
   ∀ (B2 cap : Nat) (r2 : List Value), 1 ≤ cap → (([.int .u8 cv] : List Value) ++ r2).length = cap * 1 →
   Fin R [(B, .cells #[.pointer (some ⟨B, 0, none⟩), .slice (some ⟨B2, 0, none⟩) 1 cap] 60), (B1, .cells #[.int .u8 cv] 5), (B2, .cells ⟨(([.int .u8 cv] : List Value) ++ r2)⟩ 5)] S w0 (.nilIface)) :
  Calls Tryd.prog 62 ⟨[.pointer (some ⟨B, 0, none⟩), .int .u8 cv]⟩ W R := by
 refine AtE.calls (nt := 17) Tryd.func62 (by kernel_rfl) hm ?_
 refine AtE.run 7 (fun W => by kernel_rfl) ?_
 refine AtE.inl 75 ⟨[.pointer (some ⟨B, 0, none⟩)]⟩ (fun W => by kernel_rfl) (by kernel_rfl) (fun W hm => AtE.calls (nt := 20) Tryd.func75 (by kernel_rfl) hm ?_)
 refine AtE.run 5 (fun W => by kernel_rfl) ?_
 refine AtE.load 0 0 (T := 57) (v := .pointer none) (by kernel_rfl) ?_
 refine AtE.run 6 (fun W => by kernel_rfl) ?_
 refine AtE.ptrConv 0 (t := 60) (B := B) (off := 0) (c := ([.pointer none, .slice none 0 0] : List Value)) (E := 60) (fz := (0, 0)) (sz := 1) (by kernel_rfl) (by simp) ?_
 refine AtE.run 1 (fun W => by kernel_rfl) ?_
 refine AtE.ptrBack 0 (u := 60) (B := B) (off := 0) (n := 2) (c := ([.pointer none, .slice none 0 0] : List Value)) (E := 60) (fz := (0, 0)) (by kernel_rfl) rfl ?_
 refine AtE.run 2 (fun W => by kernel_rfl) ?_
 refine AtE.store 0 0 (T := 57) (v := .pointer (some ⟨B, 0, none⟩)) (by kernel_rfl) ?_
 refine AtE.run 1 (fun W => by kernel_rfl) ?_
 refine AtE.retK (v := .tuple #[]) Tryd.func75 (by kernel_rfl) ?_
 refine AtE.norm (k' := [.inRegion (regOps [.code (EngB7s62 [1,0])]) [], .code (EngB7s62 [1,1])]) (e' := [(0, .pointer (some ⟨B, 0, none⟩)), (1, .int .u8 cv)]) (L' := [(B, .cells #[.pointer (some ⟨B, 0, none⟩), .slice none 0 0] 60)]) ?_ (by kernel_rfl)
 refine AtE.run 7 (fun W => by kernel_rfl) ?_
 refine AtE.load 0 1 (T := 58) (v := .slice none 0 0) (by kernel_rfl) ?_
 refine AtE.run 1 (fun W => by kernel_rfl) ?_
 refine AtE.new (fun B => .slice (some ⟨B, 0, none⟩) 1 1) (.cells #[.int .u8 cv] 5) (fun W => by kernel_rfl) (by kernel_rfl) (fun B1 => ?_)
 replace H := H B1
 refine AtE.appendN (T := 58) (E := 5) (z := .int .u8 (0 : Int)) (sz := 1) (bytes := 1) (a := ⟨B1, 0, none⟩) (m := 1) (c := 1) ([.int .u8 cv] : List Value) (by kernel_rfl) (show Src _ _ _ _ ([.int .u8 cv] : List Value) from Src.own (j := 1) (o := 0) (n := 1) (c := ([.int .u8 cv] : List Value)) (by kernel_rfl)) (by simp) (by omega) (by omega) (fun B2 cap r2 h1 h2 => ?_)
 replace H := H B2 cap r2 h1 h2
 refine AtE.run 2 (fun W => by kernel_rfl) ?_
 refine AtE.store 0 1 (T := 58) (v := .slice (some ⟨B2, 0, none⟩) 1 cap) (by kernel_rfl) ?_
 refine AtE.run 5 (fun W => by kernel_rfl) ?_
 exact AtE.ret Tryd.func62 (by kernel_rfl) H
theorem wb1_vc (B : Nat) (cv : Int) {R : Ending → World → Prop} {S : List Nat} {w0 W : World} (hm : Mem [(B, .cells #[.pointer (some ⟨B, 0, none⟩), .slice none 0 0] 60)] S w0 W)
  (H :
   ∀ B1 : Nat,
   ∀ (B2 cap : Nat) (r : List Value), 1 ≤ cap → (([.int .u8 cv] : List Value) ++ r).length = cap * 1 →
   Fin R [(B, .cells #[.pointer (some ⟨B, 0, none⟩), .slice (some ⟨B2, 0, none⟩) 1 cap] 60), (B1, .cells #[.int .u8 cv] 5), (B2, .cells ⟨(([.int .u8 cv] : List Value) ++ r)⟩ 5)] S w0 (.nilIface)) :
  Calls Tryd.prog 62 ⟨[.pointer (some ⟨B, 0, none⟩), .int .u8 cv]⟩ W R := by
 refine AtE.calls (nt := 17) Tryd.func62 (by kernel_rfl) hm ?_
 refine AtE.run 7 (fun W => by kernel_rfl) ?_
 refine AtE.inl 75 ⟨[.pointer (some ⟨B, 0, none⟩)]⟩ (fun W => by kernel_rfl) (by kernel_rfl) (fun W hm => AtE.calls (nt := 20) Tryd.func75 (by kernel_rfl) hm ?_)
 refine AtE.run 5 (fun W => by kernel_rfl) ?_
 refine AtE.load 0 0 (T := 57) (v := .pointer (some ⟨B, 0, none⟩)) (by kernel_rfl) ?_
 refine AtE.run 8 (fun W => by kernel_rfl) ?_
 refine AtE.load 0 0 (T := 57) (v := .pointer (some ⟨B, 0, none⟩)) (by kernel_rfl) ?_
 refine AtE.run 1 (fun W => by kernel_rfl) ?_
 refine AtE.neqSame (T := 57) (E := 60) (a := ⟨B, 0, none⟩) (by kernel_rfl) ?_
 refine AtE.run 3 (fun W => by kernel_rfl) ?_
 refine AtE.retK (v := .tuple #[]) Tryd.func75 (by kernel_rfl) ?_
 refine AtE.run 7 (fun W => by kernel_rfl) ?_
 refine AtE.load 0 1 (T := 58) (v := .slice none 0 0) (by kernel_rfl) ?_
 refine AtE.run 1 (fun W => by kernel_rfl) ?_
 refine AtE.new (fun B => .slice (some ⟨B, 0, none⟩) 1 1) (.cells #[.int .u8 cv] 5) (fun W => by kernel_rfl) (by kernel_rfl) (fun B1 => ?_)
 replace H := H B1
 refine AtE.norm (k' := [.inRegion (regOps [.code (EngB7s62 [1,1,0])]) [7,8,9,10], .code (EngB7s62 [1,1,1])]) (e' := [(7, .pointer (some ⟨B, 0, none⟩)), (11, .slice none 0 0), (13, .slice (some ⟨B1, 0, none⟩) 1 1)]) (L' := [(B, .cells #[.pointer (some ⟨B, 0, none⟩), .slice none 0 0] 60), (B1, .cells #[.int .u8 cv] 5)]) ?_ (by kernel_rfl)
 refine AtE.appendN (T := 58) (E := 5) (z := .int .u8 (0 : Int)) (sz := 1) (bytes := 1) (a := ⟨B1, 0, none⟩) (m := 1) (c := 1) ([.int .u8 cv] : List Value) (by kernel_rfl) (show Src _ _ _ _ ([.int .u8 cv] : List Value) from Src.own (j := 1) (o := 0) (n := 1) (c := ([.int .u8 cv] : List Value)) (by kernel_rfl)) (by simp) (by omega) (by omega) (fun B2 cap r h1 h2 => ?_)
 replace H := H B2 cap r h1 h2
 refine AtE.run 2 (fun W => by kernel_rfl) ?_
 refine AtE.store 0 1 (T := 58) (v := .slice (some ⟨B2, 0, none⟩) 1 cap) (by kernel_rfl) ?_
 refine AtE.run 5 (fun W => by kernel_rfl) ?_
 exact AtE.ret Tryd.func62 (by kernel_rfl) H
theorem wb2_vc (B : Nat) (cv : Int) (Q : Nat) (n : Nat) (cap : Nat) (cs : List Value) {R : Ending → World → Prop} {S : List Nat} {w0 W : World} (hm : Mem [(B, .cells #[.pointer (some ⟨B, 0, none⟩), .slice (some ⟨Q, 0, none⟩) n (cap + 1)] 60), (Q, .cells ⟨cs⟩ 5)] S w0 W)
  (H :
   ∀ B1 : Nat,
   (n ≤ (cap + 1) ∧ (cs).length = (cap + 1) * 1) ∧ ((n + 1) ≤ 9223372036854775807 ∧ (n + 1) * 1 ≤ 140737488355328) ∧
   ∀ (B2 cap1 : Nat) (r : List Value), (n + 1) ≤ cap1 → ((cs).take (n * 1) ++ ([.int .u8 cv] : List Value) ++ r).length = cap1 * 1 →
   Fin R [(B, .cells #[.pointer (some ⟨B, 0, none⟩), .slice (some ⟨B2, 0, none⟩) (n + 1) cap1] 60), (B1, .cells #[.int .u8 cv] 5), (B2, .cells ⟨((cs).take (n * 1) ++ ([.int .u8 cv] : List Value) ++ r)⟩ 5)] S w0 (.nilIface)) :
  Calls Tryd.prog 62 ⟨[.pointer (some ⟨B, 0, none⟩), .int .u8 cv]⟩ W R := by
 refine AtE.calls (nt := 17) Tryd.func62 (by kernel_rfl) hm ?_
 refine AtE.run 7 (fun W => by kernel_rfl) ?_
 refine AtE.inl 75 ⟨[.pointer (some ⟨B, 0, none⟩)]⟩ (fun W => by kernel_rfl) (by kernel_rfl) (fun W hm => AtE.calls (nt := 20) Tryd.func75 (by kernel_rfl) hm ?_)
 refine AtE.run 5 (fun W => by kernel_rfl) ?_
 refine AtE.load 0 0 (T := 57) (v := .pointer (some ⟨B, 0, none⟩)) (by kernel_rfl) ?_
 refine AtE.run 8 (fun W => by kernel_rfl) ?_
 refine AtE.load 0 0 (T := 57) (v := .pointer (some ⟨B, 0, none⟩)) (by kernel_rfl) ?_
 refine AtE.run 1 (fun W => by kernel_rfl) ?_
 refine AtE.neqSame (T := 57) (E := 60) (a := ⟨B, 0, none⟩) (by kernel_rfl) ?_
 refine AtE.run 3 (fun W => by kernel_rfl) ?_
 refine AtE.retK (v := .tuple #[]) Tryd.func75 (by kernel_rfl) ?_
 refine AtE.run 7 (fun W => by kernel_rfl) ?_
 refine AtE.load 0 1 (T := 58) (v := .slice (some ⟨Q, 0, none⟩) n (cap + 1)) (by kernel_rfl) ?_
 refine AtE.run 1 (fun W => by kernel_rfl) ?_
 refine AtE.new (fun B => .slice (some ⟨B, 0, none⟩) 1 1) (.cells #[.int .u8 cv] 5) (fun W => by kernel_rfl) (by kernel_rfl) (fun B1 => ?_)
 replace H := H B1
 refine AtE.norm (k' := [.inRegion (regOps [.code (EngB7s62 [1,1,0])]) [7,8,9,10], .code (EngB7s62 [1,1,1])]) (e' := [(7, .pointer (some ⟨B, 0, none⟩)), (11, .slice (some ⟨Q, 0, none⟩) n (cap + 1)), (13, .slice (some ⟨B1, 0, none⟩) 1 1)]) (L' := [(B, .cells #[.pointer (some ⟨B, 0, none⟩), .slice (some ⟨Q, 0, none⟩) n (cap + 1)] 60), (Q, .cells ⟨cs⟩ 5), (B1, .cells #[.int .u8 cv] 5)]) ?_ (by kernel_rfl)
 refine AtE.appendO 1 (T := 58) (E := 5) (z := .int .u8 (0 : Int)) (sz := 1) (bytes := 1) (n := n) (cap := (cap + 1)) (a := ⟨B1, 0, none⟩) (m := 1) (c := 1) (cs := cs) ([.int .u8 cv] : List Value) (by kernel_rfl) (show Src _ _ _ _ ([.int .u8 cv] : List Value) from Src.own (j := 2) (o := 0) (n := 1) (c := ([.int .u8 cv] : List Value)) (by kernel_rfl)) (by simp) (by simp [Value.oneCell']) H.1 H.2.1 (fun B2 cap1 r h1 h2 => ?_)
 replace H := H.2.2 B2 cap1 r h1 h2
 refine AtE.run 2 (fun W => by kernel_rfl) ?_
 refine AtE.store 0 1 (T := 58) (v := .slice (some ⟨B2, 0, none⟩) (n + 1) cap1) (by kernel_rfl) ?_
 refine AtE.run 5 (fun W => by kernel_rfl) ?_
 exact AtE.ret Tryd.func62 (by kernel_rfl) H
theorem bs0_vc (B : Nat) {R : Ending → World → Prop} {S : List Nat} {w0 W : World} (hm : Mem [(B, .cells #[.pointer none, .slice none 0 0] 60)] S w0 W)
  (H :
   Fin R [(B, .cells #[.pointer none, .slice none 0 0] 60)] S w0 (.string (⟨#[]⟩))) :
  Calls Tryd.prog 51 ⟨[.pointer (some ⟨B, 0, none⟩)]⟩ W R := by
 refine AtE.calls (nt := 14) Tryd.func51 (by kernel_rfl) hm ?_
 refine AtE.run 5 (fun W => by kernel_rfl) ?_
 refine AtE.norm (k' := [.code (EngB7s51 [1,0]), .code (EngB7s51 [1,1])]) (e' := [(0, .pointer (some ⟨B, 0, none⟩))]) (L' := [(B, .cells #[.pointer none, .slice none 0 0] 60)]) ?_ (by kernel_rfl)
 refine AtE.draw 10 (by kernel_rfl) ?_
 refine AtQ.pure (by kernel_rfl) (fun W => by kernel_rfl) ?_
 refine AtQ.pure (by kernel_rfl) (fun W => by kernel_rfl) ?_
 refine AtQ.pure (by kernel_rfl) (fun W => by kernel_rfl) ?_
 refine AtQ.load 0 1 (T := 58) (v := .slice none 0 0) (by kernel_rfl) ?_
 refine AtQ.pure (by kernel_rfl) (fun W => by kernel_rfl) ?_
 refine AtQ.pure (by kernel_rfl) (fun W => by kernel_rfl) ?_
 refine AtQ.pure (by kernel_rfl) (fun W => by kernel_rfl) ?_
 refine AtQ.pure (by kernel_rfl) (fun W => by kernel_rfl) ?_
 refine AtQ.load 0 1 (T := 58) (v := .slice none 0 0) (by kernel_rfl) ?_
 refine AtQ.pure (by kernel_rfl) (fun W => by kernel_rfl) ?_
 refine AtQ.done (by kernel_rfl) ?_
 refine AtE.run 3 (fun W => by kernel_rfl) ?_
 exact AtE.ret Tryd.func51 (by kernel_rfl) H
theorem bs1_vc (B : Nat) {R : Ending → World → Prop} {S : List Nat} {w0 W : World} (hm : Mem [(B, .cells #[.pointer (some ⟨B, 0, none⟩), .slice none 0 0] 60)] S w0 W)
  (H :
   Fin R [(B, .cells #[.pointer (some ⟨B, 0, none⟩), .slice none 0 0] 60)] S w0 (.string (⟨#[]⟩))) :
  Calls Tryd.prog 51 ⟨[.pointer (some ⟨B, 0, none⟩)]⟩ W R := by
 refine AtE.calls (nt := 14) Tryd.func51 (by kernel_rfl) hm ?_
 refine AtE.run 5 (fun W => by kernel_rfl) ?_
 refine AtE.norm (k' := [.code (EngB7s51 [1,0]), .code (EngB7s51 [1,1])]) (e' := [(0, .pointer (some ⟨B, 0, none⟩))]) (L' := [(B, .cells #[.pointer (some ⟨B, 0, none⟩), .slice none 0 0] 60)]) ?_ (by kernel_rfl)
 refine AtE.draw 10 (by kernel_rfl) ?_
 refine AtQ.pure (by kernel_rfl) (fun W => by kernel_rfl) ?_
 refine AtQ.pure (by kernel_rfl) (fun W => by kernel_rfl) ?_
 refine AtQ.pure (by kernel_rfl) (fun W => by kernel_rfl) ?_
 refine AtQ.load 0 1 (T := 58) (v := .slice none 0 0) (by kernel_rfl) ?_
 refine AtQ.pure (by kernel_rfl) (fun W => by kernel_rfl) ?_
 refine AtQ.pure (by kernel_rfl) (fun W => by kernel_rfl) ?_
 refine AtQ.pure (by kernel_rfl) (fun W => by kernel_rfl) ?_
 refine AtQ.pure (by kernel_rfl) (fun W => by kernel_rfl) ?_
 refine AtQ.load 0 1 (T := 58) (v := .slice none 0 0) (by kernel_rfl) ?_
 refine AtQ.pure (by kernel_rfl) (fun W => by kernel_rfl) ?_
 refine AtQ.done (by kernel_rfl) ?_
 refine AtE.run 3 (fun W => by kernel_rfl) ?_
 exact AtE.ret Tryd.func51 (by kernel_rfl) H
theorem bs2_vc (B : Nat) (Q : Nat) (n : Nat) (cap : Nat) (cs : List Value) {R : Ending → World → Prop} {S : List Nat} {w0 W : World} (hm : Mem [(B, .cells #[.pointer (some ⟨B, 0, none⟩), .slice (some ⟨Q, 0, none⟩) n (cap + 1)] 60), (Q, .cells ⟨cs⟩ 5)] S w0 W)
  (H :
   ∃ bs : List UInt8, ((cs).take n = bytesL bs ∧ bs.length = n ∧ 0 < n ∧ n ≤ 9223372036854775807) ∧
   ∀ t2 : ByteArray, t2 = ⟨bs.toArray⟩ →
   Fin R [(B, .cells #[.pointer (some ⟨B, 0, none⟩), .slice (some ⟨Q, 0, none⟩) n (cap + 1)] 60)] S w0 (.string t2)) :
  Calls Tryd.prog 51 ⟨[.pointer (some ⟨B, 0, none⟩)]⟩ W R := by
 refine AtE.calls (nt := 14) Tryd.func51 (by kernel_rfl) hm ?_
 refine AtE.run 5 (fun W => by kernel_rfl) ?_
 refine AtE.norm (k' := [.code (EngB7s51 [1,0]), .code (EngB7s51 [1,1])]) (e' := [(0, .pointer (some ⟨B, 0, none⟩))]) (L' := [(B, .cells #[.pointer (some ⟨B, 0, none⟩), .slice (some ⟨Q, 0, none⟩) n (cap + 1)] 60), (Q, .cells ⟨cs⟩ 5)]) ?_ (by kernel_rfl)
 refine AtE.draw 10 (by kernel_rfl) ?_
 refine AtQ.pure (by kernel_rfl) (fun W => by kernel_rfl) ?_
 refine AtQ.pure (by kernel_rfl) (fun W => by kernel_rfl) ?_
 refine AtQ.pure (by kernel_rfl) (fun W => by kernel_rfl) ?_
 refine AtQ.load 0 1 (T := 58) (v := .slice (some ⟨Q, 0, none⟩) n (cap + 1)) (by kernel_rfl) ?_
 refine AtQ.pure (by kernel_rfl) (fun W => by kernel_rfl) ?_
 refine AtQ.pure (by kernel_rfl) (fun W => by kernel_rfl) ?_
 refine AtQ.pure (by kernel_rfl) (fun W => by kernel_rfl) ?_
 refine AtQ.pure (by kernel_rfl) (fun W => by kernel_rfl) ?_
 refine AtQ.load 0 1 (T := 58) (v := .slice (some ⟨Q, 0, none⟩) n (cap + 1)) (by kernel_rfl) ?_
 refine AtQ.pure (by kernel_rfl) (fun W => by kernel_rfl) ?_
 refine AtQ.done (by kernel_rfl) ?_
 obtain ⟨bs, hb, H⟩ := H
 refine AtE.unsafeStr 1 (B := Q) (E := 5) (pt := 90) (it := 3) (n := n) (c := cs) (l := bs) (by kernel_rfl) hb ?_
 refine AtE.run 1 (fun W => by kernel_rfl) ?_
 refine AtE.letS 2 (n := ⟨bs.toArray⟩) (by kernel_rfl) (fun t2 ht2 => ?_)
 replace H := H t2 ht2
 refine AtE.run 1 (fun W => by kernel_rfl) ?_
 exact AtE.ret Tryd.func51 (by kernel_rfl) H
end Go.Eng
namespace Go.Eng
open Go Go.RowKit Go.Proofs Wire
set_option linter.unusedVariables false
theorem dkFin {K : Value → SHeap → Prop} {L : SHeap} {S : List Nat} {W : World} {v : Value} (h : K v L) : Fin (fun e W' => ∃ v L', e = .returned v ∧ Mem L' S W W' ∧ K v L') L S W v :=
  fun _ hm => ⟨v, L, rfl, hm, h⟩
theorem dkSel (is : List Nat) {K : Value → SHeap → Prop} {L L' : SHeap} {S : List Nat} {W : World} {v : Value} (hs : (selL L is, nodupB is) = (L', true)) (h : K v L') :
    Fin (fun e W' => ∃ v L', e = .returned v ∧ Mem L' S W W' ∧ K v L') L S W v := by
  simp only [Prod.mk.injEq] at hs
  obtain ⟨rfl, h2⟩ := hs
  exact fun _ hm => ⟨v, _, rfl, hm.sel (nodupB_spec h2), h⟩
def EffW (P : Program) (g : FuncId) (args : Array Value) (L0 : SHeap) (Pre : World → Prop) (K : Value → SHeap → Prop) : Prop :=
  ∀ W, Mem L0 (L0.map (·.1)) W W → Pre W → Calls P g args W fun e W' => ∃ v L', e = .returned v ∧ Mem L' (L0.map (·.1)) W W' ∧ K v L'
theorem CallH.effW {P : Program} {L : SHeap} {S : List Nat} {w0 : World} {g : FuncId} {args : Array Value} {L0 L1 : SHeap} {Pre : World → Prop} {K K' : Value → SHeap → Prop} (h : EffW P g args L0 Pre K) (hpre : ∀ W, Mem L S w0 W → Pre W) (hp : (L0 ++ L1).Perm L)
    (hK : ∀ v L', K v L' → ∃ L2, (L' ++ L1).Perm L2 ∧ K' v L2) : CallH P g args L S w0 K' := by
  intro W hm
  have h2 : EffC P g args L0 K → CallH P g args L S w0 K' := fun h => CallH.eff h hp hK
  have hm' : Mem (L0 ++ L1) S w0 W := hm.perm hp
  have hnd := hm'.nodup
  rw [List.map_append, List.nodup_append] at hnd
  obtain ⟨n0, n1, nd⟩ := hnd
  refine (h W ⟨n0, fun p hp => hm'.here p (List.mem_append_left _ hp), fun p hp => .inr (List.mem_map_of_mem hp), Kept.refl _ W⟩ (hpre W hm)).mono ?_
  rintro e W' ⟨v, L', rfl, hL, hk⟩
  obtain ⟨L2, hp2, hk2⟩ := hK v L' hk
  refine ⟨v, L2, rfl, Mem.perm (L := L' ++ L1) ⟨?_, ?_, ?_, ?_⟩ hp2.symm, hk2⟩
  · rw [List.map_append, List.nodup_append]
    refine ⟨hL.nodup, n1, ?_⟩
    intro a ha b hb hab
    subst hab
    obtain ⟨p, hp, rfl⟩ := List.mem_map.1 ha
    obtain ⟨q, hq, hqe⟩ := List.mem_map.1 hb
    rcases hL.own p hp with h1 | h1
    · have := hm'.lt (List.mem_append_right L0 hq)
      omega
    · exact nd _ h1 _ hb rfl
  · intro p hp
    rcases List.mem_append.1 hp with hp | hp
    · exact hL.here p hp
    · rw [hL.kept.block p.1 (hm'.lt (List.mem_append_right _ hp)) (fun h0 => nd _ h0 _ (List.mem_map_of_mem hp) rfl)]
      exact hm'.here p (List.mem_append_right _ hp)
  · intro p hp
    rcases List.mem_append.1 hp with hp | hp
    · rcases hL.own p hp with h1 | h1
      · exact .inl (Nat.le_trans hm'.kept.size h1)
      · obtain ⟨q, hq, hqe⟩ := List.mem_map.1 h1
        have := hm'.own q (List.mem_append_left _ hq)
        rw [hqe] at this; exact this
    · exact hm'.own p (List.mem_append_right _ hp)
  · refine ⟨hL.kept.os.trans hm'.kept.os, hL.kept.tape.trans hm'.kept.tape, hL.kept.output.trans hm'.kept.output, Nat.le_trans hm'.kept.size hL.kept.size, fun i hi hs => ?_⟩
    rw [hL.kept.block i (Nat.lt_of_lt_of_le hi hm'.kept.size) (fun h0 => ?_)]
    · exact hm'.kept.block i hi hs
    · obtain ⟨q, hq, hqe⟩ := List.mem_map.1 h0
      rcases hm'.own q (List.mem_append_left _ hq) with h1 | h1
      · rw [hqe] at h1; omega
      · rw [hqe] at h1; exact hs h1
abbrev bHdr (B : Nat) (p : Value) (v : Value) : Nat × Obj := (B, .cells #[p, v] 60)
def BRep (B : Nat) (s : List UInt8) (F : SHeap) : Prop :=
  (s = [] ∧ F = [bHdr B (.pointer none) (.slice none 0 0)]) ∨ (s = [] ∧ F = [bHdr B (.pointer (some ⟨B, 0, none⟩)) (.slice none 0 0)]) ∨
  ∃ (Q cap : Nat) (cs : List Value), 0 < s.length ∧ s.length ≤ cap + 1 ∧ cs.length = (cap + 1) * 1 ∧ cs.take s.length = bytesL s ∧
    F = [bHdr B (.pointer (some ⟨B, 0, none⟩)) (.slice (some ⟨Q, 0, none⟩) s.length (cap + 1)), (Q, .cells ⟨cs⟩ 5)]
theorem BRep.new (B : Nat) : BRep B [] [bHdr B (.pointer none) (.slice none 0 0)] := .inl ⟨rfl, rfl⟩
theorem BRep.row {B Q cap : Nat} {s : List UInt8} {cs : List Value} (h0 : 0 < s.length) (h1 : s.length ≤ cap) (h2 : cs.length = cap * 1) (h3 : cs.take s.length = bytesL s) :
    BRep B s [bHdr B (.pointer (some ⟨B, 0, none⟩)) (.slice (some ⟨Q, 0, none⟩) s.length cap), (Q, .cells ⟨cs⟩ 5)] := by
  obtain ⟨c, rfl⟩ : ∃ c, cap = c + 1 := ⟨cap - 1, by omega⟩
  exact .inr (.inr ⟨Q, c, cs, h0, h1, h2, h3, rfl⟩)
theorem take_bytes (l : List UInt8) (r : List Value) : (bytesL l ++ r).take l.length = bytesL l := by
  rw [List.take_append_of_le_length (by rw [bytesL_len]; exact Nat.le_refl _), List.take_of_length_le (by rw [bytesL_len]; exact Nat.le_refl _)]
theorem write_e {B : Nat} {l : List UInt8} {s : ByteArray} {F : SHeap} (h : BRep B l F) (hb : l.length + s.size ≤ 140737488355328) :
    EffC Tryd.prog 50 ⟨[.pointer (some ⟨B, 0, none⟩), .string s]⟩ F (fun v F' => v = .tuple #[.int .i64 (s.size : Int), .nilIface] ∧ BRep B (l ++ bts s) F') := by
  intro W hm
  have hbl : (bts s).length = s.size := bts_len s
  rcases h with ⟨rfl, rfl⟩ | ⟨rfl, rfl⟩ | ⟨Q, cap, cs, h0, h1, h2, h3, rfl⟩
  · simp only [List.length_nil, Nat.zero_add] at hb
    refine ws0_vc B s hm ⟨by omega, fun hz => ?_, fun hp B1 cap r h1 h2 => ?_⟩
    · rintro _ rfl
      exact dkFin ⟨rfl, .inr (.inl ⟨by rw [List.nil_append]; exact List.length_eq_zero_iff.1 (by omega), rfl⟩)⟩
    · rintro _ rfl
      refine dkFin ⟨rfl, ?_⟩
      rw [List.nil_append, ← hbl]
      exact BRep.row (by omega) (by omega) h2 (take_bytes _ _)
  · simp only [List.length_nil, Nat.zero_add] at hb
    refine ws1_vc B s hm ⟨by omega, fun hz => ?_, fun hp B1 cap r h1 h2 => ?_⟩
    · rintro _ rfl
      exact dkFin ⟨rfl, .inr (.inl ⟨by rw [List.nil_append]; exact List.length_eq_zero_iff.1 (by omega), rfl⟩)⟩
    · rintro _ rfl
      refine dkFin ⟨rfl, ?_⟩
      rw [List.nil_append, ← hbl]
      exact BRep.row (by omega) (by omega) h2 (take_bytes _ _)
  · refine ws2_vc B s Q l.length cap cs hm ⟨⟨h1, h2⟩, by omega, fun B1 cap1 r q1 q2 => ?_⟩
    rintro _ rfl
    refine dkFin ⟨rfl, ?_⟩
    rw [Nat.mul_one, h3, ← bytesL_app] at q2 ⊢
    have e : l.length + s.size = (l ++ bts s).length := by rw [List.length_append, hbl]
    rw [e] at q1 ⊢
    exact BRep.row (by omega) q1 q2 (take_bytes _ _)
theorem byte_e {B : Nat} {l : List UInt8} {x : UInt8} {F : SHeap} (h : BRep B l F) (hb : l.length + 1 ≤ 140737488355328) :
    EffC Tryd.prog 62 ⟨[.pointer (some ⟨B, 0, none⟩), .int .u8 (x.toNat : Int)]⟩ F (fun v F' => v = .nilIface ∧ BRep B (l ++ [x]) F') := by
  intro W hm
  rcases h with ⟨rfl, rfl⟩ | ⟨rfl, rfl⟩ | ⟨Q, cap, cs, h0, h1, h2, h3, rfl⟩
  · refine wb0_vc B _ hm fun B1 B2 cap r h1 h2 => dkSel [0, 2] rfl ⟨rfl, ?_⟩
    exact BRep.row (s := [x]) (by simp) h1 h2 (take_bytes [x] r)
  · refine wb1_vc B _ hm fun B1 B2 cap r h1 h2 => dkSel [0, 2] rfl ⟨rfl, ?_⟩
    exact BRep.row (s := [x]) (by simp) h1 h2 (take_bytes [x] r)
  · refine wb2_vc B _ Q l.length cap cs hm fun B1 => ⟨⟨h1, h2⟩, by omega, fun B2 cap1 r q1 q2 => dkSel [0, 2] rfl ⟨rfl, ?_⟩⟩
    have e2 : bytesL l ++ [.int .u8 (x.toNat : Int)] = bytesL (l ++ [x]) := by rw [bytesL_app]; rfl
    rw [Nat.mul_one, h3, e2] at q2 ⊢
    have e : l.length + 1 = (l ++ [x]).length := by simp
    rw [e] at q1 ⊢
    exact BRep.row (by omega) q1 q2 (take_bytes _ _)
theorem string_e {B : Nat} {l : List UInt8} {F : SHeap} (h : BRep B l F) (hb : l.length ≤ 9223372036854775807) : EffC Tryd.prog 51 ⟨[.pointer (some ⟨B, 0, none⟩)]⟩ F (fun v F' => v = .string ⟨l.toArray⟩) := by
  intro W hm
  rcases h with ⟨rfl, rfl⟩ | ⟨rfl, rfl⟩ | ⟨Q, cap, cs, h0, h1, h2, h3, rfl⟩
  · exact bs0_vc B hm (dkFin rfl)
  · exact bs1_vc B hm (dkFin rfl)
  · refine bs2_vc B Q l.length cap cs hm ⟨l, ⟨h3, rfl, h0, hb⟩, ?_⟩
    rintro _ rfl
    exact dkFin rfl
end Go.Eng
namespace Go.Eng
open Go Go.RowKit Go.Proofs
set_option linter.unusedVariables false
set_option maxRecDepth 100000
noncomputable abbrev EngB8s27 := sub (Eng.body Tryd.f27)
noncomputable abbrev EngB8s34 := sub (Eng.body Tryd.f34)
noncomputable abbrev EngB8s48 := sub (Eng.body Tryd.f48)
abbrev EngB8m0 : Obj := .map #[{ key := .int .i64 (1 : Int), val := .agg #[.func (.func 64) #[] #[], .bool false, .func (.func 66) #[] #[]], born := 0 }, { key := .int .i64 (2 : Int), val := .agg #[.func (.func 64) #[] #[], .bool false, .func (.func 67) #[] #[]], born := 1 }, { key := .int .i64 (3 : Int), val := .agg #[.func (.func 65) #[] #[], .bool true, .func (.func 69) #[] #[]], born := 2 }, { key := .int .i64 (4 : Int), val := .agg #[.func (.func 64) #[] #[], .bool false, .func (.func 70) #[] #[]], born := 3 }, { key := .int .i64 (5 : Int), val := .agg #[.func (.func 71) #[] #[], .bool false, .func (.func 72) #[] #[]], born := 4 }] 5
def putInts_c0 (out_b : Nat) (t8_p : Option Addr) (t8_l : Nat) (t8_c : Nat) (t9 : Int) (t10 : Int) (F1 : SHeap) (S : List Nat) (w0 : World) (R : Ending → World → Prop) : Prop :=
 AtE Tryd.prog 48 23 [.code (EngB8s48 [1,0,0]), .inLoop (EngB8s48 [1,0,0]), .inBlock 0] [(0, .pointer (some ⟨out_b, 0, none⟩)), (8, .slice t8_p t8_l t8_c), (9, .int .i64 t9), (10, .int .i64 t10)] (F1) S w0 (nrm R)
theorem putInts_c0_vc (out_b : Nat) (t8_p : Option Addr) (t8_l : Nat) (t8_c : Nat) (t9 : Int) (t10 : Int) (F1 : SHeap) {R : Ending → World → Prop} {S : List Nat} {w0 : World}
  (H :
   ((t10 < t9) →
    ∃ t8_pb t8_po : Nat, t8_p = some ⟨t8_pb, t8_po, none⟩ ∧
    (0 ≤ t10 ∧ t10 < t8_l) ∧
    ∃ (cw : List Value) (m1 : Int), t8_pb ∉ S ∧ blkW w0 t8_pb = some cw ∧ cw[(t8_po + (Int.toNat t10))]? = some (.int .i64 m1) ∧
    CallH Tryd.prog 74 ⟨[.int .i64 m1]⟩ (F1) S w0 (fun v L' => ∃ (r1 : ByteArray) (r21 : Int), v = (.tuple #[.string r1, .int .i64 r21]) ∧ L' = (F1) ∧
     CallH Tryd.prog 50 ⟨[.pointer (some ⟨out_b, 0, none⟩), .string r1]⟩ (F1) S w0 (fun v L' => ∃ (r31 : Int) (r41 : Value) (F2 : SHeap), v = (.tuple #[.int .i64 r31, r41]) ∧ L' = (F2) ∧
      putInts_c0 out_b (some ⟨t8_pb, t8_po, none⟩) t8_l t8_c t9 (IntKind.i64.wrap (t10 + (1 : Int))) F2 S w0 R))) ∧
    ((¬ (t10 < t9)) →
    Fin R (F1) S w0 (.tuple #[]))) :
  putInts_c0 out_b t8_p t8_l t8_c t9 t10 F1 S w0 R := by
 unfold putInts_c0
 refine AtE.run 5 (fun W => by kernel_rfl) ?_
 refine AtE.splitP 11 (p := t10 < t9) (by kernel_rfl) (fun h1' => ?_) (fun h1' => ?_)
 ·replace H := H.1 h1'
  refine AtE.run 6 (fun W => by kernel_rfl) ?_
  obtain ⟨t8_pb, t8_po, rfl, H⟩ := H
  refine AtE.indexAddrL (E := 3) (b := t8_pb) (o := t8_po) (len := t8_l) (cap := t8_c) (sz := 1) (o' := (t8_po + (Int.toNat t10))) (kd := .i64) (i := t10) (by kernel_rfl) H.1 (by omega) ?_
  replace H := H.2
  obtain ⟨cw, m1, hs, hw, hx, H⟩ := H
  refine AtE.loadW (b := t8_pb) (off := (t8_po + (Int.toNat t10))) (T := 3) (v := .int .i64 m1) (by kernel_rfl) hs hw (valAt_one hx (by kernel_rfl)) ?_
  refine AtE.run 5 (fun W => by kernel_rfl) ?_
  refine AtE.call 74 ⟨[.int .i64 m1]⟩ (fun W => by kernel_rfl) (by kernel_rfl) H ?_
  clear H
  rintro _ F1 ⟨r1, r21, rfl, rfl, H⟩
  refine AtE.run 9 (fun W => by kernel_rfl) ?_
  refine AtE.call 50 ⟨[.pointer (some ⟨out_b, 0, none⟩), .string r1]⟩ (fun W => by kernel_rfl) (by kernel_rfl) H ?_
  clear H
  rintro _ F2 ⟨r31, r41, _, rfl, rfl, H⟩
  refine AtE.run 7 (fun W => by kernel_rfl) ?_
  exact AtE.cutT [] 0 H (by kernel_rfl)
 ·replace H := H.2 h1'
  refine AtE.run 2 (fun W => by kernel_rfl) ?_
  exact AtE.ret Tryd.func48 (by kernel_rfl) H
theorem putInts_vc (B : Nat) (numbers_p : Option Addr) (numbers_l : Nat) (numbers_c : Nat) (F : SHeap) {R : Ending → World → Prop} {S : List Nat} {w0 W : World} (hm : Mem (F) S w0 W)
  (H :
   putInts_c0 B numbers_p numbers_l numbers_c (numbers_l : Int) (0 : Int) F S w0 R) :
  Calls Tryd.prog 48 ⟨[.pointer (some ⟨B, 0, none⟩), .slice numbers_p numbers_l numbers_c]⟩ W R := by
 refine AtE.calls (nt := 23) Tryd.func48 (by kernel_rfl) hm ?_
 refine AtE.run 8 (fun W => by kernel_rfl) ?_
 exact AtE.cutT [] 0 H (by kernel_rfl)
def encode_c0 (out_b : Nat) (t16_p : Option Addr) (t16_l : Nat) (t16_c : Nat) (t17 : Int) (t18 : Int) (F1 : SHeap) (w0 : World) (R : Ending → World → Prop) : Prop :=
 AtE Tryd.prog 27 63 [.code (EngB8s27 [1,1,1,1,0,1,0,0]), .inLoop (EngB8s27 [1,1,1,1,0,1,0,0]), .inBlock 0, .code (EngB8s27 [1,1,1,1,1])] [(4, .pointer (some ⟨out_b, 0, none⟩)), (16, .slice t16_p t16_l t16_c), (17, .int .i64 t17), (18, .int .i64 t18)] (F1) [] w0 (nrm R)
theorem encode_c0_vc (out_b : Nat) (t16_p : Option Addr) (t16_l : Nat) (t16_c : Nat) (t17 : Int) (t18 : Int) (F1 : SHeap) {R : Ending → World → Prop} {w0 : World}
  (H :
   ((t18 < t17) →
    ∃ t16_pb t16_po : Nat, t16_p = some ⟨t16_pb, t16_po, none⟩ ∧
    (0 ≤ t18 ∧ t18 < t16_l) ∧
    ∃ (cw : List Value) (m_0 : Int) (m_1 : Int) (m_2 : ByteArray) (m_3 : Int) (m_4 : Int) (m_5 : Int) (m_6_p : Option Addr) (m_6_l : Nat) (m_6_c : Nat) (m_7 : Int) (m_8 : Int), blkW w0 t16_pb = some cw ∧ ((cw.drop (t16_po + ((Int.toNat t18) * 9))).take 9 = [.int .i64 m_0, .int .i64 m_1, .string m_2, .int .i64 m_3, .int .i64 m_4, .int .i64 m_5, .slice m_6_p m_6_l m_6_c, .int .i64 m_7, .int .i64 m_8] ∧ (t16_po + ((Int.toNat t18) * 9)) + 9 ≤ cw.length) ∧
    ∀ B2 : Nat,
    ∀ B3 : Nat,
    CallH Tryd.prog 48 ⟨[.pointer (some ⟨out_b, 0, none⟩), .slice (some ⟨B3, 0, none⟩) 2 2]⟩ ((B3, .cells #[.int .i64 m_0, .int .i64 m_1] 3) :: (B2, .cells #[.int .i64 m_0, .int .i64 m_1, .string m_2, .int .i64 m_3, .int .i64 m_4, .int .i64 m_5, .slice m_6_p m_6_l m_6_c, .int .i64 m_7, .int .i64 m_8] 26) :: F1) [] w0 (fun v L' => ∃ (F2 : SHeap), v = (.tuple #[]) ∧ L' = ((B3, .cells #[.int .i64 m_0, .int .i64 m_1] 3) :: (B2, .cells #[.int .i64 m_0, .int .i64 m_1, .string m_2, .int .i64 m_3, .int .i64 m_4, .int .i64 m_5, .slice m_6_p m_6_l m_6_c, .int .i64 m_7, .int .i64 m_8] 26) :: F2) ∧
     CallH Tryd.prog 49 ⟨[.string m_2]⟩ ((B3, .cells #[.int .i64 m_0, .int .i64 m_1] 3) :: (B2, .cells #[.int .i64 m_0, .int .i64 m_1, .string m_2, .int .i64 m_3, .int .i64 m_4, .int .i64 m_5, .slice m_6_p m_6_l m_6_c, .int .i64 m_7, .int .i64 m_8] 26) :: F2) [] w0 (fun v L' => ∃ (r21 : ByteArray) (r31 : Int), v = (.tuple #[.string r21, .int .i64 r31]) ∧ L' = ((B3, .cells #[.int .i64 m_0, .int .i64 m_1] 3) :: (B2, .cells #[.int .i64 m_0, .int .i64 m_1, .string m_2, .int .i64 m_3, .int .i64 m_4, .int .i64 m_5, .slice m_6_p m_6_l m_6_c, .int .i64 m_7, .int .i64 m_8] 26) :: F2) ∧
      CallH Tryd.prog 50 ⟨[.pointer (some ⟨out_b, 0, none⟩), .string r21]⟩ ((B3, .cells #[.int .i64 m_0, .int .i64 m_1] 3) :: (B2, .cells #[.int .i64 m_0, .int .i64 m_1, .string m_2, .int .i64 m_3, .int .i64 m_4, .int .i64 m_5, .slice m_6_p m_6_l m_6_c, .int .i64 m_7, .int .i64 m_8] 26) :: F2) [] w0 (fun v L' => ∃ (r41 : Int) (r51 : Value) (F3 : SHeap), v = (.tuple #[.int .i64 r41, r51]) ∧ L' = ((B3, .cells #[.int .i64 m_0, .int .i64 m_1] 3) :: (B2, .cells #[.int .i64 m_0, .int .i64 m_1, .string m_2, .int .i64 m_3, .int .i64 m_4, .int .i64 m_5, .slice m_6_p m_6_l m_6_c, .int .i64 m_7, .int .i64 m_8] 26) :: F3) ∧
       ∀ B4 : Nat,
       CallH Tryd.prog 48 ⟨[.pointer (some ⟨out_b, 0, none⟩), .slice (some ⟨B4, 0, none⟩) 4 4]⟩ ((B4, .cells #[.int .i64 m_3, .int .i64 m_4, .int .i64 m_5, .int .i64 (m_6_l : Int)] 3) :: (B3, .cells #[.int .i64 m_0, .int .i64 m_1] 3) :: (B2, .cells #[.int .i64 m_0, .int .i64 m_1, .string m_2, .int .i64 m_3, .int .i64 m_4, .int .i64 m_5, .slice m_6_p m_6_l m_6_c, .int .i64 m_7, .int .i64 m_8] 26) :: F3) [] w0 (fun v L' => ∃ (F4 : SHeap), v = (.tuple #[]) ∧ L' = ((B4, .cells #[.int .i64 m_3, .int .i64 m_4, .int .i64 m_5, .int .i64 (m_6_l : Int)] 3) :: (B3, .cells #[.int .i64 m_0, .int .i64 m_1] 3) :: (B2, .cells #[.int .i64 m_0, .int .i64 m_1, .string m_2, .int .i64 m_3, .int .i64 m_4, .int .i64 m_5, .slice m_6_p m_6_l m_6_c, .int .i64 m_7, .int .i64 m_8] 26) :: F4) ∧
        CallH Tryd.prog 48 ⟨[.pointer (some ⟨out_b, 0, none⟩), .slice m_6_p m_6_l m_6_c]⟩ ((B4, .cells #[.int .i64 m_3, .int .i64 m_4, .int .i64 m_5, .int .i64 (m_6_l : Int)] 3) :: (B3, .cells #[.int .i64 m_0, .int .i64 m_1] 3) :: (B2, .cells #[.int .i64 m_0, .int .i64 m_1, .string m_2, .int .i64 m_3, .int .i64 m_4, .int .i64 m_5, .slice m_6_p m_6_l m_6_c, .int .i64 m_7, .int .i64 m_8] 26) :: F4) [] w0 (fun v L' => ∃ (F5 : SHeap), v = (.tuple #[]) ∧ L' = ((B4, .cells #[.int .i64 m_3, .int .i64 m_4, .int .i64 m_5, .int .i64 (m_6_l : Int)] 3) :: (B3, .cells #[.int .i64 m_0, .int .i64 m_1] 3) :: (B2, .cells #[.int .i64 m_0, .int .i64 m_1, .string m_2, .int .i64 m_3, .int .i64 m_4, .int .i64 m_5, .slice m_6_p m_6_l m_6_c, .int .i64 m_7, .int .i64 m_8] 26) :: F5) ∧
         ∀ B5 : Nat,
         CallH Tryd.prog 48 ⟨[.pointer (some ⟨out_b, 0, none⟩), .slice (some ⟨B5, 0, none⟩) 2 2]⟩ ((B5, .cells #[.int .i64 m_7, .int .i64 m_8] 3) :: (B4, .cells #[.int .i64 m_3, .int .i64 m_4, .int .i64 m_5, .int .i64 (m_6_l : Int)] 3) :: (B3, .cells #[.int .i64 m_0, .int .i64 m_1] 3) :: (B2, .cells #[.int .i64 m_0, .int .i64 m_1, .string m_2, .int .i64 m_3, .int .i64 m_4, .int .i64 m_5, .slice m_6_p m_6_l m_6_c, .int .i64 m_7, .int .i64 m_8] 26) :: F5) [] w0 (fun v L' => ∃ (F6 : SHeap), v = (.tuple #[]) ∧ L' = ((B5, .cells #[.int .i64 m_7, .int .i64 m_8] 3) :: (B4, .cells #[.int .i64 m_3, .int .i64 m_4, .int .i64 m_5, .int .i64 (m_6_l : Int)] 3) :: (B3, .cells #[.int .i64 m_0, .int .i64 m_1] 3) :: (B2, .cells #[.int .i64 m_0, .int .i64 m_1, .string m_2, .int .i64 m_3, .int .i64 m_4, .int .i64 m_5, .slice m_6_p m_6_l m_6_c, .int .i64 m_7, .int .i64 m_8] 26) :: F6) ∧
          encode_c0 out_b (some ⟨t16_pb, t16_po, none⟩) t16_l t16_c t17 (IntKind.i64.wrap (t18 + (1 : Int))) F6 w0 R))))))) ∧
    ((¬ (t18 < t17)) →
    CallH Tryd.prog 51 ⟨[.pointer (some ⟨out_b, 0, none⟩)]⟩ (F1) [] w0 (fun v L' => ∃ (r61 : ByteArray) (F7 : SHeap), v = (.string r61) ∧ L' = (F7) ∧
     Fin R (F7) [] w0 (.tuple #[.string r61, .int .i64 (0 : Int)])))) :
  encode_c0 out_b t16_p t16_l t16_c t17 t18 F1 w0 R := by
 unfold encode_c0
 refine AtE.run 5 (fun W => by kernel_rfl) ?_
 refine AtE.splitP 19 (p := t18 < t17) (by kernel_rfl) (fun h2' => ?_) (fun h2' => ?_)
 ·replace H := H.1 h2'
  refine AtE.run 6 (fun W => by kernel_rfl) ?_
  obtain ⟨t16_pb, t16_po, rfl, H⟩ := H
  refine AtE.indexAddrL (E := 26) (b := t16_pb) (o := t16_po) (len := t16_l) (cap := t16_c) (sz := 9) (o' := (t16_po + ((Int.toNat t18) * 9))) (kd := .i64) (i := t18) (by kernel_rfl) H.1 (by omega) ?_
  replace H := H.2
  obtain ⟨cw, m_0, m_1, m_2, m_3, m_4, m_5, m_6_p, m_6_l, m_6_c, m_7, m_8, hw, hx, H⟩ := H
  refine AtE.loadW (b := t16_pb) (off := (t16_po + ((Int.toNat t18) * 9))) (T := 26) (v := .agg #[.int .i64 m_0, .int .i64 m_1, .string m_2, .int .i64 m_3, .int .i64 m_4, .int .i64 m_5, .slice m_6_p m_6_l m_6_c, .int .i64 m_7, .int .i64 m_8]) (by kernel_rfl) List.not_mem_nil hw (valAt_agg hx.1 hx.2 (by kernel_rfl) (by kernel_rfl)) ?_
  refine AtE.new (fun B => .pointer (some ⟨B, 0, none⟩)) (.cells #[.int .i64 (0 : Int), .int .i64 (0 : Int), .string (⟨#[]⟩), .int .i64 (0 : Int), .int .i64 (0 : Int), .int .i64 (0 : Int), .slice none 0 0, .int .i64 (0 : Int), .int .i64 (0 : Int)] 26) (fun W => by kernel_rfl) (by kernel_rfl) (fun B2 => ?_)
  replace H := H B2
  refine AtE.front ?_
  refine AtE.store 0 0 (T := 26) (v := .agg #[.int .i64 m_0, .int .i64 m_1, .string m_2, .int .i64 m_3, .int .i64 m_4, .int .i64 m_5, .slice m_6_p m_6_l m_6_c, .int .i64 m_7, .int .i64 m_8]) (by kernel_rfl) ?_
  refine AtE.run 4 (fun W => by kernel_rfl) ?_
  refine AtE.load 0 0 (T := 3) (v := .int .i64 m_0) (by kernel_rfl) ?_
  refine AtE.norm (k' := [.inRegion (regOps [.code (EngB8s27 [1,1,1,1,0,1,0,0,1,1,0,0,1,0])]) [2,3,4,5], .code (EngB8s27 [1,1,1,1,0,1,0,0,1,1,0,0,1,1]), .inBlock 1, .code (EngB8s27 [1,1,1,1,0,1,0,0,1,1,1]), .inLoop (EngB8s27 [1,1,1,1,0,1,0,0]), .inBlock 0, .code (EngB8s27 [1,1,1,1,1])]) (e' := [(4, .pointer (some ⟨out_b, 0, none⟩)), (6, .pointer (some ⟨B2, 0, none⟩)), (16, .slice (some ⟨t16_pb, t16_po, none⟩) t16_l t16_c), (17, .int .i64 t17), (18, .int .i64 t18), (23, .int .i64 m_0)]) (L' := ((B2, .cells #[.int .i64 m_0, .int .i64 m_1, .string m_2, .int .i64 m_3, .int .i64 m_4, .int .i64 m_5, .slice m_6_p m_6_l m_6_c, .int .i64 m_7, .int .i64 m_8] 26) :: F1)) ?_ (by kernel_rfl)
  refine AtE.run 1 (fun W => by kernel_rfl) ?_
  refine AtE.load 0 1 (T := 3) (v := .int .i64 m_1) (by kernel_rfl) ?_
  refine AtE.new (fun B => .slice (some ⟨B, 0, none⟩) 2 2) (.cells #[.int .i64 m_0, .int .i64 m_1] 3) (fun W => by kernel_rfl) (by kernel_rfl) (fun B3 => ?_)
  replace H := H B3
  refine AtE.front ?_
  refine AtE.call 48 ⟨[.pointer (some ⟨out_b, 0, none⟩), .slice (some ⟨B3, 0, none⟩) 2 2]⟩ (fun W => by kernel_rfl) (by kernel_rfl) H ?_
  clear H
  rintro _ _ ⟨F2, rfl, rfl, H⟩
  refine AtE.run 4 (fun W => by kernel_rfl) ?_
  refine AtE.load 1 2 (T := 9) (v := .string m_2) (by kernel_rfl) ?_
  refine AtE.call 49 ⟨[.string m_2]⟩ (fun W => by kernel_rfl) (by kernel_rfl) H ?_
  clear H
  rintro _ _ ⟨r21, r31, rfl, rfl, H⟩
  refine AtE.run 9 (fun W => by kernel_rfl) ?_
  refine AtE.call 50 ⟨[.pointer (some ⟨out_b, 0, none⟩), .string r21]⟩ (fun W => by kernel_rfl) (by kernel_rfl) H ?_
  clear H
  rintro _ _ ⟨r41, r51, F3, rfl, rfl, H⟩
  refine AtE.run 4 (fun W => by kernel_rfl) ?_
  refine AtE.load 1 3 (T := 3) (v := .int .i64 m_3) (by kernel_rfl) ?_
  refine AtE.norm (k' := [.inRegion (regOps [.code (EngB8s27 [1,1,1,1,0,1,0,0,1,1,0,0,1,1,1,1,0])]) [2,3,4,5,6,7,8,9,10,11,12], .code (EngB8s27 [1,1,1,1,0,1,0,0,1,1,0,0,1,1,1,1,1]), .inBlock 1, .code (EngB8s27 [1,1,1,1,0,1,0,0,1,1,1]), .inLoop (EngB8s27 [1,1,1,1,0,1,0,0]), .inBlock 0, .code (EngB8s27 [1,1,1,1,1])]) (e' := [(4, .pointer (some ⟨out_b, 0, none⟩)), (6, .pointer (some ⟨B2, 0, none⟩)), (16, .slice (some ⟨t16_pb, t16_po, none⟩) t16_l t16_c), (17, .int .i64 t17), (18, .int .i64 t18), (37, .int .i64 m_3)]) (L' := ((B3, .cells #[.int .i64 m_0, .int .i64 m_1] 3) :: (B2, .cells #[.int .i64 m_0, .int .i64 m_1, .string m_2, .int .i64 m_3, .int .i64 m_4, .int .i64 m_5, .slice m_6_p m_6_l m_6_c, .int .i64 m_7, .int .i64 m_8] 26) :: F3)) ?_ (by kernel_rfl)
  refine AtE.run 1 (fun W => by kernel_rfl) ?_
  refine AtE.load 1 4 (T := 3) (v := .int .i64 m_4) (by kernel_rfl) ?_
  refine AtE.run 2 (fun W => by kernel_rfl) ?_
  refine AtE.load 1 5 (T := 3) (v := .int .i64 m_5) (by kernel_rfl) ?_
  refine AtE.run 2 (fun W => by kernel_rfl) ?_
  refine AtE.load 1 6 (T := 22) (v := .slice m_6_p m_6_l m_6_c) (by kernel_rfl) ?_
  refine AtE.run 1 (fun W => by kernel_rfl) ?_
  refine AtE.new (fun B => .slice (some ⟨B, 0, none⟩) 4 4) (.cells #[.int .i64 m_3, .int .i64 m_4, .int .i64 m_5, .int .i64 (m_6_l : Int)] 3) (fun W => by kernel_rfl) (by kernel_rfl) (fun B4 => ?_)
  replace H := H B4
  refine AtE.front ?_
  refine AtE.call 48 ⟨[.pointer (some ⟨out_b, 0, none⟩), .slice (some ⟨B4, 0, none⟩) 4 4]⟩ (fun W => by kernel_rfl) (by kernel_rfl) H ?_
  clear H
  rintro _ _ ⟨F4, rfl, rfl, H⟩
  refine AtE.run 5 (fun W => by kernel_rfl) ?_
  refine AtE.load 2 6 (T := 22) (v := .slice m_6_p m_6_l m_6_c) (by kernel_rfl) ?_
  refine AtE.call 48 ⟨[.pointer (some ⟨out_b, 0, none⟩), .slice m_6_p m_6_l m_6_c]⟩ (fun W => by kernel_rfl) (by kernel_rfl) H ?_
  clear H
  rintro _ _ ⟨F5, rfl, rfl, H⟩
  refine AtE.norm (k' := [.inRegion (regOps [.code (EngB8s27 [1,1,1,1,0,1,0,0,1,1,0,0,1,1,1,1,1,0])]) [], .code (EngB8s27 [1,1,1,1,0,1,0,0,1,1,0,0,1,1,1,1,1,1]), .inBlock 1, .code (EngB8s27 [1,1,1,1,0,1,0,0,1,1,1]), .inLoop (EngB8s27 [1,1,1,1,0,1,0,0]), .inBlock 0, .code (EngB8s27 [1,1,1,1,1])]) (e' := [(4, .pointer (some ⟨out_b, 0, none⟩)), (6, .pointer (some ⟨B2, 0, none⟩)), (16, .slice (some ⟨t16_pb, t16_po, none⟩) t16_l t16_c), (17, .int .i64 t17), (18, .int .i64 t18)]) (L' := ((B4, .cells #[.int .i64 m_3, .int .i64 m_4, .int .i64 m_5, .int .i64 (m_6_l : Int)] 3) :: (B3, .cells #[.int .i64 m_0, .int .i64 m_1] 3) :: (B2, .cells #[.int .i64 m_0, .int .i64 m_1, .string m_2, .int .i64 m_3, .int .i64 m_4, .int .i64 m_5, .slice m_6_p m_6_l m_6_c, .int .i64 m_7, .int .i64 m_8] 26) :: F5)) ?_ (by kernel_rfl)
  refine AtE.run 4 (fun W => by kernel_rfl) ?_
  refine AtE.load 2 7 (T := 3) (v := .int .i64 m_7) (by kernel_rfl) ?_
  refine AtE.run 2 (fun W => by kernel_rfl) ?_
  refine AtE.load 2 8 (T := 3) (v := .int .i64 m_8) (by kernel_rfl) ?_
  refine AtE.new (fun B => .slice (some ⟨B, 0, none⟩) 2 2) (.cells #[.int .i64 m_7, .int .i64 m_8] 3) (fun W => by kernel_rfl) (by kernel_rfl) (fun B5 => ?_)
  replace H := H B5
  refine AtE.front ?_
  refine AtE.call 48 ⟨[.pointer (some ⟨out_b, 0, none⟩), .slice (some ⟨B5, 0, none⟩) 2 2]⟩ (fun W => by kernel_rfl) (by kernel_rfl) H ?_
  clear H
  rintro _ _ ⟨F6, rfl, rfl, H⟩
  refine AtE.run 7 (fun W => by kernel_rfl) ?_
  exact AtE.cutT [] 4 H (by kernel_rfl)
 ·replace H := H.2 h2'
  refine AtE.run 4 (fun W => by kernel_rfl) ?_
  refine AtE.call 51 ⟨[.pointer (some ⟨out_b, 0, none⟩)]⟩ (fun W => by kernel_rfl) (by kernel_rfl) H ?_
  clear H
  rintro _ F7 ⟨r61, _, rfl, rfl, H⟩
  refine AtE.run 3 (fun W => by kernel_rfl) ?_
  exact AtE.ret Tryd.func27 (by kernel_rfl) H
theorem encode_vc (l_p : Option Addr) (l_l : Nat) (l_c : Nat) {R : Ending → World → Prop} {w0 W : World} (hm : Mem [] [] w0 W)
  (H :
   CallH Tryd.prog 21 ⟨[.slice l_p l_l l_c]⟩ [] [] w0 (fun v L' => ∃ (r1 : Bool), v = (.bool r1) ∧ L' = [] ∧
    ((r1 = true) →
     ∀ B : Nat,
     ∀ B1 : Nat,
     CallH Tryd.prog 48 ⟨[.pointer (some ⟨B, 0, none⟩), .slice (some ⟨B1, 0, none⟩) 1 1]⟩ [(B, .cells #[.pointer none, .slice none 0 0] 60), (B1, .cells #[.int .i64 (l_l : Int)] 3)] [] w0 (fun v L' => ∃ (F : SHeap), v = (.tuple #[]) ∧ L' = ((B1, .cells #[.int .i64 (l_l : Int)] 3) :: F) ∧
      encode_c0 B l_p l_l l_c (l_l : Int) (0 : Int) F w0 R)) ∧
     ((r1 = false) →
     Fin R [] [] w0 (.tuple #[.string (⟨#[]⟩), .int .i64 (30 : Int)])))) :
  Calls Tryd.prog 27 ⟨[.slice l_p l_l l_c]⟩ W R := by
 refine AtE.calls (nt := 63) Tryd.func27 (by kernel_rfl) hm ?_
 refine AtE.run 9 (fun W => by kernel_rfl) ?_
 refine AtE.call 21 ⟨[.slice l_p l_l l_c]⟩ (fun W => by kernel_rfl) (by kernel_rfl) H ?_
 clear H
 rintro _ _ ⟨r1, rfl, rfl, H⟩
 refine AtE.split 10 (b := r1) (by kernel_rfl) (fun h1' => ?_) (fun h1' => ?_)
 ·replace H := H.1 h1'
  refine AtE.run 6 (fun W => by kernel_rfl) ?_
  refine AtE.new (fun B => .pointer (some ⟨B, 0, none⟩)) (.cells #[.pointer none, .slice none 0 0] 60) (fun W => by kernel_rfl) (by kernel_rfl) (fun B => ?_)
  replace H := H B
  refine AtE.run 5 (fun W => by kernel_rfl) ?_
  refine AtE.new (fun B => .slice (some ⟨B, 0, none⟩) 1 1) (.cells #[.int .i64 (l_l : Int)] 3) (fun W => by kernel_rfl) (by kernel_rfl) (fun B1 => ?_)
  replace H := H B1
  refine AtE.call 48 ⟨[.pointer (some ⟨B, 0, none⟩), .slice (some ⟨B1, 0, none⟩) 1 1]⟩ (fun W => by kernel_rfl) (by kernel_rfl) H ?_
  clear H
  rintro _ _ ⟨F, rfl, rfl, H⟩
  refine AtE.run 10 (fun W => by kernel_rfl) ?_
  exact AtE.cutT [] 1 H (by kernel_rfl)
 ·replace H := H.2 h1'
  refine AtE.run 8 (fun W => by kernel_rfl) ?_
  exact AtE.ret Tryd.func27 (by kernel_rfl) H
def plain_c0 (B1 : Nat) (B2 : Nat) (t10_p : Option Addr) (t10_l : Nat) (t10_c : Nat) (t11 : Int) (t12 : Int) (m0 : Option Addr) (w0 : World) (R : Ending → World → Prop) : Prop :=
 AtE Tryd.prog 34 33 [.code (EngB8s34 [1,1,1,0,1,0,0]), .inLoop (EngB8s34 [1,1,1,0,1,0,0]), .inBlock 0, .code (EngB8s34 [1,1,1,1])] [(3, .map (some B1)), (4, .pointer (some ⟨B2, 0, none⟩)), (10, .slice t10_p t10_l t10_c), (11, .int .i64 t11), (12, .int .i64 t12)] [(B1, EngB8m0), (B2, .cells #[.pointer m0, .slice none 0 0] 60)] [] w0 (nrm R)
def plain_c1 (B5 : Nat) (plain_b : Nat) (t101_p : Option Addr) (t101_l : Nat) (t101_c : Nat) (t111 : Int) (t121 : Int) (F2 : SHeap) (w0 : World) (R : Ending → World → Prop) : Prop :=
 AtE Tryd.prog 34 33 [.code (EngB8s34 [1,1,1,0,1,0,0]), .inLoop (EngB8s34 [1,1,1,0,1,0,0]), .inBlock 0, .code (EngB8s34 [1,1,1,1])] [(3, .map (some B5)), (4, .pointer (some ⟨plain_b, 0, none⟩)), (10, .slice t101_p t101_l t101_c), (11, .int .i64 t111), (12, .int .i64 t121)] ((B5, EngB8m0) :: F2) [] w0 (nrm R)
def plain_c2 (B11 : Nat) (B12 : Nat) (t102_p : Option Addr) (t102_l : Nat) (t102_c : Nat) (t112 : Int) (t122 : Int) (m01 : Option Addr) (w0 : World) (R : Ending → World → Prop) : Prop :=
 AtE Tryd.prog 34 33 [.code (EngB8s34 [1,1,1,0,1,0,0]), .inLoop (EngB8s34 [1,1,1,0,1,0,0]), .inBlock 0, .code (EngB8s34 [1,1,1,1])] [(3, .map (some B11)), (4, .pointer (some ⟨B12, 0, none⟩)), (10, .slice t102_p t102_l t102_c), (11, .int .i64 t112), (12, .int .i64 t122)] [(B11, EngB8m0), (B12, .cells #[.pointer m01, .slice none 0 0] 60)] [] w0 (nrm R)
theorem plain_c0_vc (B1 : Nat) (B2 : Nat) (t10_p : Option Addr) (t10_l : Nat) (t10_c : Nat) (t11 : Int) (t12 : Int) (m0 : Option Addr) {R : Ending → World → Prop} {w0 : World}
  (H :
   ((t12 < t11) →
    ∃ t10_pb t10_po : Nat, t10_p = some ⟨t10_pb, t10_po, none⟩ ∧
    (0 ≤ t12 ∧ t12 < t10_l) ∧
    ∃ (cw : List Value) (m_0 : Int) (m_1 : Int) (m_2 : ByteArray) (m_3 : Int) (m_4 : Int) (m_5 : Int) (m_6_p : Option Addr) (m_6_l : Nat) (m_6_c : Nat) (m_7 : Int) (m_8 : Int), blkW w0 t10_pb = some cw ∧ ((cw.drop (t10_po + ((Int.toNat t12) * 9))).take 9 = [.int .i64 m_0, .int .i64 m_1, .string m_2, .int .i64 m_3, .int .i64 m_4, .int .i64 m_5, .slice m_6_p m_6_l m_6_c, .int .i64 m_7, .int .i64 m_8] ∧ (t10_po + ((Int.toNat t12) * 9)) + 9 ≤ cw.length) ∧
    ∀ B3 : Nat,
    ((m_1 = (1 : Int)) →
     ∀ B4 : Nat,
     CallH Tryd.prog 66 ⟨[.string m_2]⟩ [(B1, EngB8m0), (B2, .cells #[.pointer m0, .slice none 0 0] 60), (B3, .cells #[.int .i64 m_0, .int .i64 m_1, .string m_2, .int .i64 m_3, .int .i64 m_4, .int .i64 m_5, .slice m_6_p m_6_l m_6_c, .int .i64 m_7, .int .i64 m_8] 26), (B4, .cells #[.func (.func 64) #[] #[], .bool false, .func (.func 66) #[] #[]] 84)] [] w0 (fun v L' => ∃ (r21 : ByteArray), v = (.string r21) ∧ L' = [(B1, EngB8m0), (B2, .cells #[.pointer m0, .slice none 0 0] 60), (B3, .cells #[.int .i64 m_0, .int .i64 m_1, .string m_2, .int .i64 m_3, .int .i64 m_4, .int .i64 m_5, .slice m_6_p m_6_l m_6_c, .int .i64 m_7, .int .i64 m_8] 26), (B4, .cells #[.func (.func 64) #[] #[], .bool false, .func (.func 66) #[] #[]] 84)] ∧
      CallH Tryd.prog 50 ⟨[.pointer (some ⟨B2, 0, none⟩), .string r21]⟩ [(B1, EngB8m0), (B2, .cells #[.pointer m0, .slice none 0 0] 60), (B3, .cells #[.int .i64 m_0, .int .i64 m_1, .string m_2, .int .i64 m_3, .int .i64 m_4, .int .i64 m_5, .slice m_6_p m_6_l m_6_c, .int .i64 m_7, .int .i64 m_8] 26), (B4, .cells #[.func (.func 64) #[] #[], .bool false, .func (.func 66) #[] #[]] 84)] [] w0 (fun v L' => ∃ (r31 : Int) (r41 : Value) (F : SHeap), v = (.tuple #[.int .i64 r31, r41]) ∧ L' = ((B1, EngB8m0) :: (B3, .cells #[.int .i64 m_0, .int .i64 m_1, .string m_2, .int .i64 m_3, .int .i64 m_4, .int .i64 m_5, .slice m_6_p m_6_l m_6_c, .int .i64 m_7, .int .i64 m_8] 26) :: (B4, .cells #[.func (.func 64) #[] #[], .bool false, .func (.func 66) #[] #[]] 84) :: F) ∧
       CallH Tryd.prog 62 ⟨[.pointer (some ⟨B2, 0, none⟩), .int .u8 (10 : Int)]⟩ ((B1, EngB8m0) :: (B3, .cells #[.int .i64 m_0, .int .i64 m_1, .string m_2, .int .i64 m_3, .int .i64 m_4, .int .i64 m_5, .slice m_6_p m_6_l m_6_c, .int .i64 m_7, .int .i64 m_8] 26) :: (B4, .cells #[.func (.func 64) #[] #[], .bool false, .func (.func 66) #[] #[]] 84) :: F) [] w0 (fun v L' => ∃ (r51 : Value) (F1 : SHeap), v = (r51) ∧ L' = ((B1, EngB8m0) :: (B3, .cells #[.int .i64 m_0, .int .i64 m_1, .string m_2, .int .i64 m_3, .int .i64 m_4, .int .i64 m_5, .slice m_6_p m_6_l m_6_c, .int .i64 m_7, .int .i64 m_8] 26) :: (B4, .cells #[.func (.func 64) #[] #[], .bool false, .func (.func 66) #[] #[]] 84) :: F1) ∧
        plain_c1 B1 B2 (some ⟨t10_pb, t10_po, none⟩) t10_l t10_c t11 (IntKind.i64.wrap (t12 + (1 : Int))) F1 w0 R)))) ∧
     ((¬ m_1 = (1 : Int)) →
     ((m_1 = (2 : Int)) →
      ∀ B6 : Nat,
      CallH Tryd.prog 67 ⟨[.string m_2]⟩ [(B1, EngB8m0), (B2, .cells #[.pointer m0, .slice none 0 0] 60), (B3, .cells #[.int .i64 m_0, .int .i64 m_1, .string m_2, .int .i64 m_3, .int .i64 m_4, .int .i64 m_5, .slice m_6_p m_6_l m_6_c, .int .i64 m_7, .int .i64 m_8] 26), (B6, .cells #[.func (.func 64) #[] #[], .bool false, .func (.func 67) #[] #[]] 84)] [] w0 (fun v L' => ∃ (r61 : ByteArray), v = (.string r61) ∧ L' = [(B1, EngB8m0), (B2, .cells #[.pointer m0, .slice none 0 0] 60), (B3, .cells #[.int .i64 m_0, .int .i64 m_1, .string m_2, .int .i64 m_3, .int .i64 m_4, .int .i64 m_5, .slice m_6_p m_6_l m_6_c, .int .i64 m_7, .int .i64 m_8] 26), (B6, .cells #[.func (.func 64) #[] #[], .bool false, .func (.func 67) #[] #[]] 84)] ∧
       CallH Tryd.prog 50 ⟨[.pointer (some ⟨B2, 0, none⟩), .string r61]⟩ [(B1, EngB8m0), (B2, .cells #[.pointer m0, .slice none 0 0] 60), (B3, .cells #[.int .i64 m_0, .int .i64 m_1, .string m_2, .int .i64 m_3, .int .i64 m_4, .int .i64 m_5, .slice m_6_p m_6_l m_6_c, .int .i64 m_7, .int .i64 m_8] 26), (B6, .cells #[.func (.func 64) #[] #[], .bool false, .func (.func 67) #[] #[]] 84)] [] w0 (fun v L' => ∃ (r71 : Int) (r81 : Value) (F3 : SHeap), v = (.tuple #[.int .i64 r71, r81]) ∧ L' = ((B1, EngB8m0) :: (B3, .cells #[.int .i64 m_0, .int .i64 m_1, .string m_2, .int .i64 m_3, .int .i64 m_4, .int .i64 m_5, .slice m_6_p m_6_l m_6_c, .int .i64 m_7, .int .i64 m_8] 26) :: (B6, .cells #[.func (.func 64) #[] #[], .bool false, .func (.func 67) #[] #[]] 84) :: F3) ∧
        CallH Tryd.prog 62 ⟨[.pointer (some ⟨B2, 0, none⟩), .int .u8 (10 : Int)]⟩ ((B1, EngB8m0) :: (B3, .cells #[.int .i64 m_0, .int .i64 m_1, .string m_2, .int .i64 m_3, .int .i64 m_4, .int .i64 m_5, .slice m_6_p m_6_l m_6_c, .int .i64 m_7, .int .i64 m_8] 26) :: (B6, .cells #[.func (.func 64) #[] #[], .bool false, .func (.func 67) #[] #[]] 84) :: F3) [] w0 (fun v L' => ∃ (r91 : Value) (F4 : SHeap), v = (r91) ∧ L' = ((B1, EngB8m0) :: (B3, .cells #[.int .i64 m_0, .int .i64 m_1, .string m_2, .int .i64 m_3, .int .i64 m_4, .int .i64 m_5, .slice m_6_p m_6_l m_6_c, .int .i64 m_7, .int .i64 m_8] 26) :: (B6, .cells #[.func (.func 64) #[] #[], .bool false, .func (.func 67) #[] #[]] 84) :: F4) ∧
         plain_c1 B1 B2 (some ⟨t10_pb, t10_po, none⟩) t10_l t10_c t11 (IntKind.i64.wrap (t12 + (1 : Int))) F4 w0 R)))) ∧
      ((¬ m_1 = (2 : Int)) →
      ((m_1 = (3 : Int)) →
       ∀ B7 : Nat,
       CallH Tryd.prog 69 ⟨[.string m_2]⟩ [(B1, EngB8m0), (B2, .cells #[.pointer m0, .slice none 0 0] 60), (B3, .cells #[.int .i64 m_0, .int .i64 m_1, .string m_2, .int .i64 m_3, .int .i64 m_4, .int .i64 m_5, .slice m_6_p m_6_l m_6_c, .int .i64 m_7, .int .i64 m_8] 26), (B7, .cells #[.func (.func 65) #[] #[], .bool true, .func (.func 69) #[] #[]] 84)] [] w0 (fun v L' => ∃ (r101 : ByteArray), v = (.string r101) ∧ L' = [(B1, EngB8m0), (B2, .cells #[.pointer m0, .slice none 0 0] 60), (B3, .cells #[.int .i64 m_0, .int .i64 m_1, .string m_2, .int .i64 m_3, .int .i64 m_4, .int .i64 m_5, .slice m_6_p m_6_l m_6_c, .int .i64 m_7, .int .i64 m_8] 26), (B7, .cells #[.func (.func 65) #[] #[], .bool true, .func (.func 69) #[] #[]] 84)] ∧
        CallH Tryd.prog 50 ⟨[.pointer (some ⟨B2, 0, none⟩), .string r101]⟩ [(B1, EngB8m0), (B2, .cells #[.pointer m0, .slice none 0 0] 60), (B3, .cells #[.int .i64 m_0, .int .i64 m_1, .string m_2, .int .i64 m_3, .int .i64 m_4, .int .i64 m_5, .slice m_6_p m_6_l m_6_c, .int .i64 m_7, .int .i64 m_8] 26), (B7, .cells #[.func (.func 65) #[] #[], .bool true, .func (.func 69) #[] #[]] 84)] [] w0 (fun v L' => ∃ (r111 : Int) (r121 : Value) (F5 : SHeap), v = (.tuple #[.int .i64 r111, r121]) ∧ L' = ((B1, EngB8m0) :: (B3, .cells #[.int .i64 m_0, .int .i64 m_1, .string m_2, .int .i64 m_3, .int .i64 m_4, .int .i64 m_5, .slice m_6_p m_6_l m_6_c, .int .i64 m_7, .int .i64 m_8] 26) :: (B7, .cells #[.func (.func 65) #[] #[], .bool true, .func (.func 69) #[] #[]] 84) :: F5) ∧
         CallH Tryd.prog 62 ⟨[.pointer (some ⟨B2, 0, none⟩), .int .u8 (10 : Int)]⟩ ((B1, EngB8m0) :: (B3, .cells #[.int .i64 m_0, .int .i64 m_1, .string m_2, .int .i64 m_3, .int .i64 m_4, .int .i64 m_5, .slice m_6_p m_6_l m_6_c, .int .i64 m_7, .int .i64 m_8] 26) :: (B7, .cells #[.func (.func 65) #[] #[], .bool true, .func (.func 69) #[] #[]] 84) :: F5) [] w0 (fun v L' => ∃ (r131 : Value) (F6 : SHeap), v = (r131) ∧ L' = ((B1, EngB8m0) :: (B3, .cells #[.int .i64 m_0, .int .i64 m_1, .string m_2, .int .i64 m_3, .int .i64 m_4, .int .i64 m_5, .slice m_6_p m_6_l m_6_c, .int .i64 m_7, .int .i64 m_8] 26) :: (B7, .cells #[.func (.func 65) #[] #[], .bool true, .func (.func 69) #[] #[]] 84) :: F6) ∧
          plain_c1 B1 B2 (some ⟨t10_pb, t10_po, none⟩) t10_l t10_c t11 (IntKind.i64.wrap (t12 + (1 : Int))) F6 w0 R)))) ∧
       ((¬ m_1 = (3 : Int)) →
       ((m_1 = (4 : Int)) →
        ∀ B8 : Nat,
        CallH Tryd.prog 70 ⟨[.string m_2]⟩ [(B1, EngB8m0), (B2, .cells #[.pointer m0, .slice none 0 0] 60), (B3, .cells #[.int .i64 m_0, .int .i64 m_1, .string m_2, .int .i64 m_3, .int .i64 m_4, .int .i64 m_5, .slice m_6_p m_6_l m_6_c, .int .i64 m_7, .int .i64 m_8] 26), (B8, .cells #[.func (.func 64) #[] #[], .bool false, .func (.func 70) #[] #[]] 84)] [] w0 (fun v L' => ∃ (r141 : ByteArray), v = (.string r141) ∧ L' = [(B1, EngB8m0), (B2, .cells #[.pointer m0, .slice none 0 0] 60), (B3, .cells #[.int .i64 m_0, .int .i64 m_1, .string m_2, .int .i64 m_3, .int .i64 m_4, .int .i64 m_5, .slice m_6_p m_6_l m_6_c, .int .i64 m_7, .int .i64 m_8] 26), (B8, .cells #[.func (.func 64) #[] #[], .bool false, .func (.func 70) #[] #[]] 84)] ∧
         CallH Tryd.prog 50 ⟨[.pointer (some ⟨B2, 0, none⟩), .string r141]⟩ [(B1, EngB8m0), (B2, .cells #[.pointer m0, .slice none 0 0] 60), (B3, .cells #[.int .i64 m_0, .int .i64 m_1, .string m_2, .int .i64 m_3, .int .i64 m_4, .int .i64 m_5, .slice m_6_p m_6_l m_6_c, .int .i64 m_7, .int .i64 m_8] 26), (B8, .cells #[.func (.func 64) #[] #[], .bool false, .func (.func 70) #[] #[]] 84)] [] w0 (fun v L' => ∃ (r151 : Int) (r161 : Value) (F7 : SHeap), v = (.tuple #[.int .i64 r151, r161]) ∧ L' = ((B1, EngB8m0) :: (B3, .cells #[.int .i64 m_0, .int .i64 m_1, .string m_2, .int .i64 m_3, .int .i64 m_4, .int .i64 m_5, .slice m_6_p m_6_l m_6_c, .int .i64 m_7, .int .i64 m_8] 26) :: (B8, .cells #[.func (.func 64) #[] #[], .bool false, .func (.func 70) #[] #[]] 84) :: F7) ∧
          CallH Tryd.prog 62 ⟨[.pointer (some ⟨B2, 0, none⟩), .int .u8 (10 : Int)]⟩ ((B1, EngB8m0) :: (B3, .cells #[.int .i64 m_0, .int .i64 m_1, .string m_2, .int .i64 m_3, .int .i64 m_4, .int .i64 m_5, .slice m_6_p m_6_l m_6_c, .int .i64 m_7, .int .i64 m_8] 26) :: (B8, .cells #[.func (.func 64) #[] #[], .bool false, .func (.func 70) #[] #[]] 84) :: F7) [] w0 (fun v L' => ∃ (r171 : Value) (F8 : SHeap), v = (r171) ∧ L' = ((B1, EngB8m0) :: (B3, .cells #[.int .i64 m_0, .int .i64 m_1, .string m_2, .int .i64 m_3, .int .i64 m_4, .int .i64 m_5, .slice m_6_p m_6_l m_6_c, .int .i64 m_7, .int .i64 m_8] 26) :: (B8, .cells #[.func (.func 64) #[] #[], .bool false, .func (.func 70) #[] #[]] 84) :: F8) ∧
           plain_c1 B1 B2 (some ⟨t10_pb, t10_po, none⟩) t10_l t10_c t11 (IntKind.i64.wrap (t12 + (1 : Int))) F8 w0 R)))) ∧
        ((¬ m_1 = (4 : Int)) →
        ((m_1 = (5 : Int)) →
         ∀ B9 : Nat,
         CallH Tryd.prog 72 ⟨[.string m_2]⟩ [(B1, EngB8m0), (B2, .cells #[.pointer m0, .slice none 0 0] 60), (B3, .cells #[.int .i64 m_0, .int .i64 m_1, .string m_2, .int .i64 m_3, .int .i64 m_4, .int .i64 m_5, .slice m_6_p m_6_l m_6_c, .int .i64 m_7, .int .i64 m_8] 26), (B9, .cells #[.func (.func 71) #[] #[], .bool false, .func (.func 72) #[] #[]] 84)] [] w0 (fun v L' => ∃ (r181 : ByteArray), v = (.string r181) ∧ L' = [(B1, EngB8m0), (B2, .cells #[.pointer m0, .slice none 0 0] 60), (B3, .cells #[.int .i64 m_0, .int .i64 m_1, .string m_2, .int .i64 m_3, .int .i64 m_4, .int .i64 m_5, .slice m_6_p m_6_l m_6_c, .int .i64 m_7, .int .i64 m_8] 26), (B9, .cells #[.func (.func 71) #[] #[], .bool false, .func (.func 72) #[] #[]] 84)] ∧
          CallH Tryd.prog 50 ⟨[.pointer (some ⟨B2, 0, none⟩), .string r181]⟩ [(B1, EngB8m0), (B2, .cells #[.pointer m0, .slice none 0 0] 60), (B3, .cells #[.int .i64 m_0, .int .i64 m_1, .string m_2, .int .i64 m_3, .int .i64 m_4, .int .i64 m_5, .slice m_6_p m_6_l m_6_c, .int .i64 m_7, .int .i64 m_8] 26), (B9, .cells #[.func (.func 71) #[] #[], .bool false, .func (.func 72) #[] #[]] 84)] [] w0 (fun v L' => ∃ (r191 : Int) (r201 : Value) (F9 : SHeap), v = (.tuple #[.int .i64 r191, r201]) ∧ L' = ((B1, EngB8m0) :: (B3, .cells #[.int .i64 m_0, .int .i64 m_1, .string m_2, .int .i64 m_3, .int .i64 m_4, .int .i64 m_5, .slice m_6_p m_6_l m_6_c, .int .i64 m_7, .int .i64 m_8] 26) :: (B9, .cells #[.func (.func 71) #[] #[], .bool false, .func (.func 72) #[] #[]] 84) :: F9) ∧
           CallH Tryd.prog 62 ⟨[.pointer (some ⟨B2, 0, none⟩), .int .u8 (10 : Int)]⟩ ((B1, EngB8m0) :: (B3, .cells #[.int .i64 m_0, .int .i64 m_1, .string m_2, .int .i64 m_3, .int .i64 m_4, .int .i64 m_5, .slice m_6_p m_6_l m_6_c, .int .i64 m_7, .int .i64 m_8] 26) :: (B9, .cells #[.func (.func 71) #[] #[], .bool false, .func (.func 72) #[] #[]] 84) :: F9) [] w0 (fun v L' => ∃ (r221 : Value) (F10 : SHeap), v = (r221) ∧ L' = ((B1, EngB8m0) :: (B3, .cells #[.int .i64 m_0, .int .i64 m_1, .string m_2, .int .i64 m_3, .int .i64 m_4, .int .i64 m_5, .slice m_6_p m_6_l m_6_c, .int .i64 m_7, .int .i64 m_8] 26) :: (B9, .cells #[.func (.func 71) #[] #[], .bool false, .func (.func 72) #[] #[]] 84) :: F10) ∧
            plain_c1 B1 B2 (some ⟨t10_pb, t10_po, none⟩) t10_l t10_c t11 (IntKind.i64.wrap (t12 + (1 : Int))) F10 w0 R)))) ∧
         ((¬ m_1 = (5 : Int)) →
         ∀ B10 : Nat,
         plain_c2 B1 B2 (some ⟨t10_pb, t10_po, none⟩) t10_l t10_c t11 (IntKind.i64.wrap (t12 + (1 : Int))) m0 w0 R)))))) ∧
    ((¬ (t12 < t11)) →
    CallH Tryd.prog 51 ⟨[.pointer (some ⟨B2, 0, none⟩)]⟩ [(B1, EngB8m0), (B2, .cells #[.pointer m0, .slice none 0 0] 60)] [] w0 (fun v L' => ∃ (r231 : ByteArray) (F11 : SHeap), v = (.string r231) ∧ L' = ((B1, EngB8m0) :: F11) ∧
     Fin R ((B1, EngB8m0) :: F11) [] w0 (.string r231)))) :
  plain_c0 B1 B2 t10_p t10_l t10_c t11 t12 m0 w0 R := by
 unfold plain_c0
 refine AtE.run 5 (fun W => by kernel_rfl) ?_
 refine AtE.splitP 13 (p := t12 < t11) (by kernel_rfl) (fun h1' => ?_) (fun h1' => ?_)
 ·replace H := H.1 h1'
  refine AtE.run 6 (fun W => by kernel_rfl) ?_
  obtain ⟨t10_pb, t10_po, rfl, H⟩ := H
  refine AtE.indexAddrL (E := 26) (b := t10_pb) (o := t10_po) (len := t10_l) (cap := t10_c) (sz := 9) (o' := (t10_po + ((Int.toNat t12) * 9))) (kd := .i64) (i := t12) (by kernel_rfl) H.1 (by omega) ?_
  replace H := H.2
  obtain ⟨cw, m_0, m_1, m_2, m_3, m_4, m_5, m_6_p, m_6_l, m_6_c, m_7, m_8, hw, hx, H⟩ := H
  refine AtE.loadW (b := t10_pb) (off := (t10_po + ((Int.toNat t12) * 9))) (T := 26) (v := .agg #[.int .i64 m_0, .int .i64 m_1, .string m_2, .int .i64 m_3, .int .i64 m_4, .int .i64 m_5, .slice m_6_p m_6_l m_6_c, .int .i64 m_7, .int .i64 m_8]) (by kernel_rfl) List.not_mem_nil hw (valAt_agg hx.1 hx.2 (by kernel_rfl) (by kernel_rfl)) ?_
  refine AtE.new (fun B => .pointer (some ⟨B, 0, none⟩)) (.cells #[.int .i64 (0 : Int), .int .i64 (0 : Int), .string (⟨#[]⟩), .int .i64 (0 : Int), .int .i64 (0 : Int), .int .i64 (0 : Int), .slice none 0 0, .int .i64 (0 : Int), .int .i64 (0 : Int)] 26) (fun W => by kernel_rfl) (by kernel_rfl) (fun B3 => ?_)
  replace H := H B3
  refine AtE.store 2 0 (T := 26) (v := .agg #[.int .i64 m_0, .int .i64 m_1, .string m_2, .int .i64 m_3, .int .i64 m_4, .int .i64 m_5, .slice m_6_p m_6_l m_6_c, .int .i64 m_7, .int .i64 m_8]) (by kernel_rfl) ?_
  refine AtE.run 5 (fun W => by kernel_rfl) ?_
  refine AtE.load 2 1 (T := 3) (v := .int .i64 m_1) (by kernel_rfl) ?_
  refine AtE.norm (k' := [.inRegion (regOps [.code (EngB8s34 [1,1,1,0,1,0,0,1,1,0,0,1,0])]) [3,4,5,6,7,8,9], .code (EngB8s34 [1,1,1,0,1,0,0,1,1,0,0,1,1]), .inBlock 1, .code (EngB8s34 [1,1,1,0,1,0,0,1,1,1]), .inLoop (EngB8s34 [1,1,1,0,1,0,0]), .inBlock 0, .code (EngB8s34 [1,1,1,1])]) (e' := [(3, .map (some B1)), (4, .pointer (some ⟨B2, 0, none⟩)), (6, .pointer (some ⟨B3, 0, none⟩)), (10, .slice (some ⟨t10_pb, t10_po, none⟩) t10_l t10_c), (11, .int .i64 t11), (12, .int .i64 t12), (17, .map (some B1)), (19, .int .i64 m_1)]) (L' := [(B1, EngB8m0), (B2, .cells #[.pointer m0, .slice none 0 0] 60), (B3, .cells #[.int .i64 m_0, .int .i64 m_1, .string m_2, .int .i64 m_3, .int .i64 m_4, .int .i64 m_5, .slice m_6_p m_6_l m_6_c, .int .i64 m_7, .int .i64 m_8] 26)]) ?_ (by kernel_rfl)
  refine AtE.look 0 (b := B1) (c := 5) (es := #[{ key := .int .i64 (1 : Int), val := .agg #[.func (.func 64) #[] #[], .bool false, .func (.func 66) #[] #[]], born := 0 }, { key := .int .i64 (2 : Int), val := .agg #[.func (.func 64) #[] #[], .bool false, .func (.func 67) #[] #[]], born := 1 }, { key := .int .i64 (3 : Int), val := .agg #[.func (.func 65) #[] #[], .bool true, .func (.func 69) #[] #[]], born := 2 }, { key := .int .i64 (4 : Int), val := .agg #[.func (.func 64) #[] #[], .bool false, .func (.func 70) #[] #[]], born := 3 }, { key := .int .i64 (5 : Int), val := .agg #[.func (.func 71) #[] #[], .bool false, .func (.func 72) #[] #[]], born := 4 }]) (kt := 3) (et := 84) (kd := .i64) (n := m_1) (z := .agg #[.nilFunc, .bool false, .nilFunc]) (by kernel_rfl) ?_
  refine LookAll.cons (fun h2' => ?_) (fun h2' => ?_)
  ·replace H := H.1 h2'
   refine AtE.norm (k' := [.inRegion (regOps [.code (EngB8s34 [1,1,1,0,1,0,0,1,1,0,0,1,0])]) [4,5,6,7,8,9], .code (EngB8s34 [1,1,1,0,1,0,0,1,1,0,0,1,1]), .inBlock 1, .code (EngB8s34 [1,1,1,0,1,0,0,1,1,1]), .inLoop (EngB8s34 [1,1,1,0,1,0,0]), .inBlock 0, .code (EngB8s34 [1,1,1,1])]) (e' := [(3, .map (some B1)), (4, .pointer (some ⟨B2, 0, none⟩)), (6, .pointer (some ⟨B3, 0, none⟩)), (10, .slice (some ⟨t10_pb, t10_po, none⟩) t10_l t10_c), (11, .int .i64 t11), (12, .int .i64 t12), (20, .tuple #[.agg #[.func (.func 64) #[] #[], .bool false, .func (.func 66) #[] #[]], .bool true])]) (L' := [(B1, EngB8m0), (B2, .cells #[.pointer m0, .slice none 0 0] 60), (B3, .cells #[.int .i64 m_0, .int .i64 m_1, .string m_2, .int .i64 m_3, .int .i64 m_4, .int .i64 m_5, .slice m_6_p m_6_l m_6_c, .int .i64 m_7, .int .i64 m_8] 26)]) ?_ (by kernel_rfl)
   refine AtE.run 3 (fun W => by kernel_rfl) ?_
   refine AtE.new (fun B => .pointer (some ⟨B, 0, none⟩)) (.cells #[.nilFunc, .bool false, .nilFunc] 84) (fun W => by kernel_rfl) (by kernel_rfl) (fun B4 => ?_)
   replace H := H B4
   refine AtE.store 3 0 (T := 84) (v := .agg #[.func (.func 64) #[] #[], .bool false, .func (.func 66) #[] #[]]) (by kernel_rfl) ?_
   refine AtE.run 10 (fun W => by kernel_rfl) ?_
   refine AtE.load 3 2 (T := 47) (v := .func (.func 66) #[] #[]) (by kernel_rfl) ?_
   refine AtE.run 1 (fun W => by kernel_rfl) ?_
   refine AtE.load 2 2 (T := 9) (v := .string m_2) (by kernel_rfl) ?_
   refine AtE.call 66 ⟨[.string m_2]⟩ (fun W => by kernel_rfl) (by kernel_rfl) H ?_
   clear H
   rintro _ _ ⟨r21, rfl, rfl, H⟩
   refine AtE.call 50 ⟨[.pointer (some ⟨B2, 0, none⟩), .string r21]⟩ (fun W => by kernel_rfl) (by kernel_rfl) H ?_
   clear H
   rintro _ _ ⟨r31, r41, F, rfl, rfl, H⟩
   refine AtE.run 2 (fun W => by kernel_rfl) ?_
   refine AtE.call 62 ⟨[.pointer (some ⟨B2, 0, none⟩), .int .u8 (10 : Int)]⟩ (fun W => by kernel_rfl) (by kernel_rfl) H ?_
   clear H
   rintro _ _ ⟨r51, F1, rfl, rfl, H⟩
   refine AtE.norm (k' := [.inRegion (regOps [.code (EngB8s34 [1,1,1,0,1,0,0,1,1,0,0,1,1,1,0,1])]) [], .inBlock 1, .code (EngB8s34 [1,1,1,0,1,0,0,1,1,1]), .inLoop (EngB8s34 [1,1,1,0,1,0,0]), .inBlock 0, .code (EngB8s34 [1,1,1,1])]) (e' := [(3, .map (some B1)), (4, .pointer (some ⟨B2, 0, none⟩)), (10, .slice (some ⟨t10_pb, t10_po, none⟩) t10_l t10_c), (11, .int .i64 t11), (12, .int .i64 t12)]) (L' := ((B1, EngB8m0) :: (B3, .cells #[.int .i64 m_0, .int .i64 m_1, .string m_2, .int .i64 m_3, .int .i64 m_4, .int .i64 m_5, .slice m_6_p m_6_l m_6_c, .int .i64 m_7, .int .i64 m_8] 26) :: (B4, .cells #[.func (.func 64) #[] #[], .bool false, .func (.func 66) #[] #[]] 84) :: F1)) ?_ (by kernel_rfl)
   refine AtE.run 7 (fun W => by kernel_rfl) ?_
   exact AtE.cutT [0] 3 H (by kernel_rfl)
  ·replace H := H.2 h2'
   refine LookAll.cons (fun h3' => ?_) (fun h3' => ?_)
   ·replace H := H.1 h3'
    refine AtE.norm (k' := [.inRegion (regOps [.code (EngB8s34 [1,1,1,0,1,0,0,1,1,0,0,1,0])]) [4,5,6,7,8,9], .code (EngB8s34 [1,1,1,0,1,0,0,1,1,0,0,1,1]), .inBlock 1, .code (EngB8s34 [1,1,1,0,1,0,0,1,1,1]), .inLoop (EngB8s34 [1,1,1,0,1,0,0]), .inBlock 0, .code (EngB8s34 [1,1,1,1])]) (e' := [(3, .map (some B1)), (4, .pointer (some ⟨B2, 0, none⟩)), (6, .pointer (some ⟨B3, 0, none⟩)), (10, .slice (some ⟨t10_pb, t10_po, none⟩) t10_l t10_c), (11, .int .i64 t11), (12, .int .i64 t12), (20, .tuple #[.agg #[.func (.func 64) #[] #[], .bool false, .func (.func 67) #[] #[]], .bool true])]) (L' := [(B1, EngB8m0), (B2, .cells #[.pointer m0, .slice none 0 0] 60), (B3, .cells #[.int .i64 m_0, .int .i64 m_1, .string m_2, .int .i64 m_3, .int .i64 m_4, .int .i64 m_5, .slice m_6_p m_6_l m_6_c, .int .i64 m_7, .int .i64 m_8] 26)]) ?_ (by kernel_rfl)
    refine AtE.run 3 (fun W => by kernel_rfl) ?_
    refine AtE.new (fun B => .pointer (some ⟨B, 0, none⟩)) (.cells #[.nilFunc, .bool false, .nilFunc] 84) (fun W => by kernel_rfl) (by kernel_rfl) (fun B6 => ?_)
    replace H := H B6
    refine AtE.store 3 0 (T := 84) (v := .agg #[.func (.func 64) #[] #[], .bool false, .func (.func 67) #[] #[]]) (by kernel_rfl) ?_
    refine AtE.run 10 (fun W => by kernel_rfl) ?_
    refine AtE.load 3 2 (T := 47) (v := .func (.func 67) #[] #[]) (by kernel_rfl) ?_
    refine AtE.run 1 (fun W => by kernel_rfl) ?_
    refine AtE.load 2 2 (T := 9) (v := .string m_2) (by kernel_rfl) ?_
    refine AtE.call 67 ⟨[.string m_2]⟩ (fun W => by kernel_rfl) (by kernel_rfl) H ?_
    clear H
    rintro _ _ ⟨r61, rfl, rfl, H⟩
    refine AtE.call 50 ⟨[.pointer (some ⟨B2, 0, none⟩), .string r61]⟩ (fun W => by kernel_rfl) (by kernel_rfl) H ?_
    clear H
    rintro _ _ ⟨r71, r81, F3, rfl, rfl, H⟩
    refine AtE.run 2 (fun W => by kernel_rfl) ?_
    refine AtE.call 62 ⟨[.pointer (some ⟨B2, 0, none⟩), .int .u8 (10 : Int)]⟩ (fun W => by kernel_rfl) (by kernel_rfl) H ?_
    clear H
    rintro _ _ ⟨r91, F4, rfl, rfl, H⟩
    refine AtE.norm (k' := [.inRegion (regOps [.code (EngB8s34 [1,1,1,0,1,0,0,1,1,0,0,1,1,1,0,1])]) [], .inBlock 1, .code (EngB8s34 [1,1,1,0,1,0,0,1,1,1]), .inLoop (EngB8s34 [1,1,1,0,1,0,0]), .inBlock 0, .code (EngB8s34 [1,1,1,1])]) (e' := [(3, .map (some B1)), (4, .pointer (some ⟨B2, 0, none⟩)), (10, .slice (some ⟨t10_pb, t10_po, none⟩) t10_l t10_c), (11, .int .i64 t11), (12, .int .i64 t12)]) (L' := ((B1, EngB8m0) :: (B3, .cells #[.int .i64 m_0, .int .i64 m_1, .string m_2, .int .i64 m_3, .int .i64 m_4, .int .i64 m_5, .slice m_6_p m_6_l m_6_c, .int .i64 m_7, .int .i64 m_8] 26) :: (B6, .cells #[.func (.func 64) #[] #[], .bool false, .func (.func 67) #[] #[]] 84) :: F4)) ?_ (by kernel_rfl)
    refine AtE.run 7 (fun W => by kernel_rfl) ?_
    exact AtE.cutT [0] 3 H (by kernel_rfl)
   ·replace H := H.2 h3'
    refine LookAll.cons (fun h4' => ?_) (fun h4' => ?_)
    ·replace H := H.1 h4'
     refine AtE.norm (k' := [.inRegion (regOps [.code (EngB8s34 [1,1,1,0,1,0,0,1,1,0,0,1,0])]) [4,5,6,7,8,9], .code (EngB8s34 [1,1,1,0,1,0,0,1,1,0,0,1,1]), .inBlock 1, .code (EngB8s34 [1,1,1,0,1,0,0,1,1,1]), .inLoop (EngB8s34 [1,1,1,0,1,0,0]), .inBlock 0, .code (EngB8s34 [1,1,1,1])]) (e' := [(3, .map (some B1)), (4, .pointer (some ⟨B2, 0, none⟩)), (6, .pointer (some ⟨B3, 0, none⟩)), (10, .slice (some ⟨t10_pb, t10_po, none⟩) t10_l t10_c), (11, .int .i64 t11), (12, .int .i64 t12), (20, .tuple #[.agg #[.func (.func 65) #[] #[], .bool true, .func (.func 69) #[] #[]], .bool true])]) (L' := [(B1, EngB8m0), (B2, .cells #[.pointer m0, .slice none 0 0] 60), (B3, .cells #[.int .i64 m_0, .int .i64 m_1, .string m_2, .int .i64 m_3, .int .i64 m_4, .int .i64 m_5, .slice m_6_p m_6_l m_6_c, .int .i64 m_7, .int .i64 m_8] 26)]) ?_ (by kernel_rfl)
     refine AtE.run 3 (fun W => by kernel_rfl) ?_
     refine AtE.new (fun B => .pointer (some ⟨B, 0, none⟩)) (.cells #[.nilFunc, .bool false, .nilFunc] 84) (fun W => by kernel_rfl) (by kernel_rfl) (fun B7 => ?_)
     replace H := H B7
     refine AtE.store 3 0 (T := 84) (v := .agg #[.func (.func 65) #[] #[], .bool true, .func (.func 69) #[] #[]]) (by kernel_rfl) ?_
     refine AtE.run 10 (fun W => by kernel_rfl) ?_
     refine AtE.load 3 2 (T := 47) (v := .func (.func 69) #[] #[]) (by kernel_rfl) ?_
     refine AtE.run 1 (fun W => by kernel_rfl) ?_
     refine AtE.load 2 2 (T := 9) (v := .string m_2) (by kernel_rfl) ?_
     refine AtE.call 69 ⟨[.string m_2]⟩ (fun W => by kernel_rfl) (by kernel_rfl) H ?_
     clear H
     rintro _ _ ⟨r101, rfl, rfl, H⟩
     refine AtE.call 50 ⟨[.pointer (some ⟨B2, 0, none⟩), .string r101]⟩ (fun W => by kernel_rfl) (by kernel_rfl) H ?_
     clear H
     rintro _ _ ⟨r111, r121, F5, rfl, rfl, H⟩
     refine AtE.run 2 (fun W => by kernel_rfl) ?_
     refine AtE.call 62 ⟨[.pointer (some ⟨B2, 0, none⟩), .int .u8 (10 : Int)]⟩ (fun W => by kernel_rfl) (by kernel_rfl) H ?_
     clear H
     rintro _ _ ⟨r131, F6, rfl, rfl, H⟩
     refine AtE.norm (k' := [.inRegion (regOps [.code (EngB8s34 [1,1,1,0,1,0,0,1,1,0,0,1,1,1,0,1])]) [], .inBlock 1, .code (EngB8s34 [1,1,1,0,1,0,0,1,1,1]), .inLoop (EngB8s34 [1,1,1,0,1,0,0]), .inBlock 0, .code (EngB8s34 [1,1,1,1])]) (e' := [(3, .map (some B1)), (4, .pointer (some ⟨B2, 0, none⟩)), (10, .slice (some ⟨t10_pb, t10_po, none⟩) t10_l t10_c), (11, .int .i64 t11), (12, .int .i64 t12)]) (L' := ((B1, EngB8m0) :: (B3, .cells #[.int .i64 m_0, .int .i64 m_1, .string m_2, .int .i64 m_3, .int .i64 m_4, .int .i64 m_5, .slice m_6_p m_6_l m_6_c, .int .i64 m_7, .int .i64 m_8] 26) :: (B7, .cells #[.func (.func 65) #[] #[], .bool true, .func (.func 69) #[] #[]] 84) :: F6)) ?_ (by kernel_rfl)
     refine AtE.run 7 (fun W => by kernel_rfl) ?_
     exact AtE.cutT [0] 3 H (by kernel_rfl)
    ·replace H := H.2 h4'
     refine LookAll.cons (fun h5' => ?_) (fun h5' => ?_)
     ·replace H := H.1 h5'
      refine AtE.norm (k' := [.inRegion (regOps [.code (EngB8s34 [1,1,1,0,1,0,0,1,1,0,0,1,0])]) [4,5,6,7,8,9], .code (EngB8s34 [1,1,1,0,1,0,0,1,1,0,0,1,1]), .inBlock 1, .code (EngB8s34 [1,1,1,0,1,0,0,1,1,1]), .inLoop (EngB8s34 [1,1,1,0,1,0,0]), .inBlock 0, .code (EngB8s34 [1,1,1,1])]) (e' := [(3, .map (some B1)), (4, .pointer (some ⟨B2, 0, none⟩)), (6, .pointer (some ⟨B3, 0, none⟩)), (10, .slice (some ⟨t10_pb, t10_po, none⟩) t10_l t10_c), (11, .int .i64 t11), (12, .int .i64 t12), (20, .tuple #[.agg #[.func (.func 64) #[] #[], .bool false, .func (.func 70) #[] #[]], .bool true])]) (L' := [(B1, EngB8m0), (B2, .cells #[.pointer m0, .slice none 0 0] 60), (B3, .cells #[.int .i64 m_0, .int .i64 m_1, .string m_2, .int .i64 m_3, .int .i64 m_4, .int .i64 m_5, .slice m_6_p m_6_l m_6_c, .int .i64 m_7, .int .i64 m_8] 26)]) ?_ (by kernel_rfl)
      refine AtE.run 3 (fun W => by kernel_rfl) ?_
      refine AtE.new (fun B => .pointer (some ⟨B, 0, none⟩)) (.cells #[.nilFunc, .bool false, .nilFunc] 84) (fun W => by kernel_rfl) (by kernel_rfl) (fun B8 => ?_)
      replace H := H B8
      refine AtE.store 3 0 (T := 84) (v := .agg #[.func (.func 64) #[] #[], .bool false, .func (.func 70) #[] #[]]) (by kernel_rfl) ?_
      refine AtE.run 10 (fun W => by kernel_rfl) ?_
      refine AtE.load 3 2 (T := 47) (v := .func (.func 70) #[] #[]) (by kernel_rfl) ?_
      refine AtE.run 1 (fun W => by kernel_rfl) ?_
      refine AtE.load 2 2 (T := 9) (v := .string m_2) (by kernel_rfl) ?_
      refine AtE.call 70 ⟨[.string m_2]⟩ (fun W => by kernel_rfl) (by kernel_rfl) H ?_
      clear H
      rintro _ _ ⟨r141, rfl, rfl, H⟩
      refine AtE.call 50 ⟨[.pointer (some ⟨B2, 0, none⟩), .string r141]⟩ (fun W => by kernel_rfl) (by kernel_rfl) H ?_
      clear H
      rintro _ _ ⟨r151, r161, F7, rfl, rfl, H⟩
      refine AtE.run 2 (fun W => by kernel_rfl) ?_
      refine AtE.call 62 ⟨[.pointer (some ⟨B2, 0, none⟩), .int .u8 (10 : Int)]⟩ (fun W => by kernel_rfl) (by kernel_rfl) H ?_
      clear H
      rintro _ _ ⟨r171, F8, rfl, rfl, H⟩
      refine AtE.norm (k' := [.inRegion (regOps [.code (EngB8s34 [1,1,1,0,1,0,0,1,1,0,0,1,1,1,0,1])]) [], .inBlock 1, .code (EngB8s34 [1,1,1,0,1,0,0,1,1,1]), .inLoop (EngB8s34 [1,1,1,0,1,0,0]), .inBlock 0, .code (EngB8s34 [1,1,1,1])]) (e' := [(3, .map (some B1)), (4, .pointer (some ⟨B2, 0, none⟩)), (10, .slice (some ⟨t10_pb, t10_po, none⟩) t10_l t10_c), (11, .int .i64 t11), (12, .int .i64 t12)]) (L' := ((B1, EngB8m0) :: (B3, .cells #[.int .i64 m_0, .int .i64 m_1, .string m_2, .int .i64 m_3, .int .i64 m_4, .int .i64 m_5, .slice m_6_p m_6_l m_6_c, .int .i64 m_7, .int .i64 m_8] 26) :: (B8, .cells #[.func (.func 64) #[] #[], .bool false, .func (.func 70) #[] #[]] 84) :: F8)) ?_ (by kernel_rfl)
      refine AtE.run 7 (fun W => by kernel_rfl) ?_
      exact AtE.cutT [0] 3 H (by kernel_rfl)
     ·replace H := H.2 h5'
      refine LookAll.cons (fun h6' => ?_) (fun h6' => ?_)
      ·replace H := H.1 h6'
       refine AtE.norm (k' := [.inRegion (regOps [.code (EngB8s34 [1,1,1,0,1,0,0,1,1,0,0,1,0])]) [4,5,6,7,8,9], .code (EngB8s34 [1,1,1,0,1,0,0,1,1,0,0,1,1]), .inBlock 1, .code (EngB8s34 [1,1,1,0,1,0,0,1,1,1]), .inLoop (EngB8s34 [1,1,1,0,1,0,0]), .inBlock 0, .code (EngB8s34 [1,1,1,1])]) (e' := [(3, .map (some B1)), (4, .pointer (some ⟨B2, 0, none⟩)), (6, .pointer (some ⟨B3, 0, none⟩)), (10, .slice (some ⟨t10_pb, t10_po, none⟩) t10_l t10_c), (11, .int .i64 t11), (12, .int .i64 t12), (20, .tuple #[.agg #[.func (.func 71) #[] #[], .bool false, .func (.func 72) #[] #[]], .bool true])]) (L' := [(B1, EngB8m0), (B2, .cells #[.pointer m0, .slice none 0 0] 60), (B3, .cells #[.int .i64 m_0, .int .i64 m_1, .string m_2, .int .i64 m_3, .int .i64 m_4, .int .i64 m_5, .slice m_6_p m_6_l m_6_c, .int .i64 m_7, .int .i64 m_8] 26)]) ?_ (by kernel_rfl)
       refine AtE.run 3 (fun W => by kernel_rfl) ?_
       refine AtE.new (fun B => .pointer (some ⟨B, 0, none⟩)) (.cells #[.nilFunc, .bool false, .nilFunc] 84) (fun W => by kernel_rfl) (by kernel_rfl) (fun B9 => ?_)
       replace H := H B9
       refine AtE.store 3 0 (T := 84) (v := .agg #[.func (.func 71) #[] #[], .bool false, .func (.func 72) #[] #[]]) (by kernel_rfl) ?_
       refine AtE.run 10 (fun W => by kernel_rfl) ?_
       refine AtE.load 3 2 (T := 47) (v := .func (.func 72) #[] #[]) (by kernel_rfl) ?_
       refine AtE.run 1 (fun W => by kernel_rfl) ?_
       refine AtE.load 2 2 (T := 9) (v := .string m_2) (by kernel_rfl) ?_
       refine AtE.call 72 ⟨[.string m_2]⟩ (fun W => by kernel_rfl) (by kernel_rfl) H ?_
       clear H
       rintro _ _ ⟨r181, rfl, rfl, H⟩
       refine AtE.call 50 ⟨[.pointer (some ⟨B2, 0, none⟩), .string r181]⟩ (fun W => by kernel_rfl) (by kernel_rfl) H ?_
       clear H
       rintro _ _ ⟨r191, r201, F9, rfl, rfl, H⟩
       refine AtE.run 2 (fun W => by kernel_rfl) ?_
       refine AtE.call 62 ⟨[.pointer (some ⟨B2, 0, none⟩), .int .u8 (10 : Int)]⟩ (fun W => by kernel_rfl) (by kernel_rfl) H ?_
       clear H
       rintro _ _ ⟨r221, F10, rfl, rfl, H⟩
       refine AtE.norm (k' := [.inRegion (regOps [.code (EngB8s34 [1,1,1,0,1,0,0,1,1,0,0,1,1,1,0,1])]) [], .inBlock 1, .code (EngB8s34 [1,1,1,0,1,0,0,1,1,1]), .inLoop (EngB8s34 [1,1,1,0,1,0,0]), .inBlock 0, .code (EngB8s34 [1,1,1,1])]) (e' := [(3, .map (some B1)), (4, .pointer (some ⟨B2, 0, none⟩)), (10, .slice (some ⟨t10_pb, t10_po, none⟩) t10_l t10_c), (11, .int .i64 t11), (12, .int .i64 t12)]) (L' := ((B1, EngB8m0) :: (B3, .cells #[.int .i64 m_0, .int .i64 m_1, .string m_2, .int .i64 m_3, .int .i64 m_4, .int .i64 m_5, .slice m_6_p m_6_l m_6_c, .int .i64 m_7, .int .i64 m_8] 26) :: (B9, .cells #[.func (.func 71) #[] #[], .bool false, .func (.func 72) #[] #[]] 84) :: F10)) ?_ (by kernel_rfl)
       refine AtE.run 7 (fun W => by kernel_rfl) ?_
       exact AtE.cutT [0] 3 H (by kernel_rfl)
      ·replace H := H.2 h6'
       refine AtE.norm (k' := [.inRegion (regOps [.code (EngB8s34 [1,1,1,0,1,0,0,1,1,0,0,1,0])]) [4,5,6,7,8,9], .code (EngB8s34 [1,1,1,0,1,0,0,1,1,0,0,1,1]), .inBlock 1, .code (EngB8s34 [1,1,1,0,1,0,0,1,1,1]), .inLoop (EngB8s34 [1,1,1,0,1,0,0]), .inBlock 0, .code (EngB8s34 [1,1,1,1])]) (e' := [(3, .map (some B1)), (4, .pointer (some ⟨B2, 0, none⟩)), (6, .pointer (some ⟨B3, 0, none⟩)), (10, .slice (some ⟨t10_pb, t10_po, none⟩) t10_l t10_c), (11, .int .i64 t11), (12, .int .i64 t12), (20, .tuple #[.agg #[.nilFunc, .bool false, .nilFunc], .bool false])]) (L' := [(B1, EngB8m0), (B2, .cells #[.pointer m0, .slice none 0 0] 60), (B3, .cells #[.int .i64 m_0, .int .i64 m_1, .string m_2, .int .i64 m_3, .int .i64 m_4, .int .i64 m_5, .slice m_6_p m_6_l m_6_c, .int .i64 m_7, .int .i64 m_8] 26)]) ?_ (by kernel_rfl)
       refine AtE.run 3 (fun W => by kernel_rfl) ?_
       refine AtE.new (fun B => .pointer (some ⟨B, 0, none⟩)) (.cells #[.nilFunc, .bool false, .nilFunc] 84) (fun W => by kernel_rfl) (by kernel_rfl) (fun B10 => ?_)
       replace H := H B10
       refine AtE.store 3 0 (T := 84) (v := .agg #[.nilFunc, .bool false, .nilFunc]) (by kernel_rfl) ?_
       refine AtE.run 14 (fun W => by kernel_rfl) ?_
       exact AtE.cut [0,1] H (by kernel_rfl)
 ·replace H := H.2 h1'
  refine AtE.run 4 (fun W => by kernel_rfl) ?_
  refine AtE.call 51 ⟨[.pointer (some ⟨B2, 0, none⟩)]⟩ (fun W => by kernel_rfl) (by kernel_rfl) H ?_
  clear H
  rintro _ _ ⟨r231, F11, rfl, rfl, H⟩
  refine AtE.run 2 (fun W => by kernel_rfl) ?_
  exact AtE.ret Tryd.func34 (by kernel_rfl) H
theorem plain_c1_vc (B5 : Nat) (plain_b : Nat) (t101_p : Option Addr) (t101_l : Nat) (t101_c : Nat) (t111 : Int) (t121 : Int) (F2 : SHeap) {R : Ending → World → Prop} {w0 : World}
  (H :
   ((t121 < t111) →
    ∃ t101_pb t101_po : Nat, t101_p = some ⟨t101_pb, t101_po, none⟩ ∧
    (0 ≤ t121 ∧ t121 < t101_l) ∧
    ∃ (cw1 : List Value) (m1_0 : Int) (m1_1 : Int) (m1_2 : ByteArray) (m1_3 : Int) (m1_4 : Int) (m1_5 : Int) (m1_6_p : Option Addr) (m1_6_l : Nat) (m1_6_c : Nat) (m1_7 : Int) (m1_8 : Int), blkW w0 t101_pb = some cw1 ∧ ((cw1.drop (t101_po + ((Int.toNat t121) * 9))).take 9 = [.int .i64 m1_0, .int .i64 m1_1, .string m1_2, .int .i64 m1_3, .int .i64 m1_4, .int .i64 m1_5, .slice m1_6_p m1_6_l m1_6_c, .int .i64 m1_7, .int .i64 m1_8] ∧ (t101_po + ((Int.toNat t121) * 9)) + 9 ≤ cw1.length) ∧
    ∀ B13 : Nat,
    ((m1_1 = (1 : Int)) →
     ∀ B14 : Nat,
     CallH Tryd.prog 66 ⟨[.string m1_2]⟩ ((B14, .cells #[.func (.func 64) #[] #[], .bool false, .func (.func 66) #[] #[]] 84) :: (B13, .cells #[.int .i64 m1_0, .int .i64 m1_1, .string m1_2, .int .i64 m1_3, .int .i64 m1_4, .int .i64 m1_5, .slice m1_6_p m1_6_l m1_6_c, .int .i64 m1_7, .int .i64 m1_8] 26) :: (B5, EngB8m0) :: F2) [] w0 (fun v L' => ∃ (r241 : ByteArray), v = (.string r241) ∧ L' = ((B14, .cells #[.func (.func 64) #[] #[], .bool false, .func (.func 66) #[] #[]] 84) :: (B13, .cells #[.int .i64 m1_0, .int .i64 m1_1, .string m1_2, .int .i64 m1_3, .int .i64 m1_4, .int .i64 m1_5, .slice m1_6_p m1_6_l m1_6_c, .int .i64 m1_7, .int .i64 m1_8] 26) :: (B5, EngB8m0) :: F2) ∧
      CallH Tryd.prog 50 ⟨[.pointer (some ⟨plain_b, 0, none⟩), .string r241]⟩ ((B14, .cells #[.func (.func 64) #[] #[], .bool false, .func (.func 66) #[] #[]] 84) :: (B13, .cells #[.int .i64 m1_0, .int .i64 m1_1, .string m1_2, .int .i64 m1_3, .int .i64 m1_4, .int .i64 m1_5, .slice m1_6_p m1_6_l m1_6_c, .int .i64 m1_7, .int .i64 m1_8] 26) :: (B5, EngB8m0) :: F2) [] w0 (fun v L' => ∃ (r251 : Int) (r261 : Value) (F12 : SHeap), v = (.tuple #[.int .i64 r251, r261]) ∧ L' = ((B14, .cells #[.func (.func 64) #[] #[], .bool false, .func (.func 66) #[] #[]] 84) :: (B13, .cells #[.int .i64 m1_0, .int .i64 m1_1, .string m1_2, .int .i64 m1_3, .int .i64 m1_4, .int .i64 m1_5, .slice m1_6_p m1_6_l m1_6_c, .int .i64 m1_7, .int .i64 m1_8] 26) :: (B5, EngB8m0) :: F12) ∧
       CallH Tryd.prog 62 ⟨[.pointer (some ⟨plain_b, 0, none⟩), .int .u8 (10 : Int)]⟩ ((B14, .cells #[.func (.func 64) #[] #[], .bool false, .func (.func 66) #[] #[]] 84) :: (B13, .cells #[.int .i64 m1_0, .int .i64 m1_1, .string m1_2, .int .i64 m1_3, .int .i64 m1_4, .int .i64 m1_5, .slice m1_6_p m1_6_l m1_6_c, .int .i64 m1_7, .int .i64 m1_8] 26) :: (B5, EngB8m0) :: F12) [] w0 (fun v L' => ∃ (r271 : Value) (F13 : SHeap), v = (r271) ∧ L' = ((B14, .cells #[.func (.func 64) #[] #[], .bool false, .func (.func 66) #[] #[]] 84) :: (B13, .cells #[.int .i64 m1_0, .int .i64 m1_1, .string m1_2, .int .i64 m1_3, .int .i64 m1_4, .int .i64 m1_5, .slice m1_6_p m1_6_l m1_6_c, .int .i64 m1_7, .int .i64 m1_8] 26) :: (B5, EngB8m0) :: F13) ∧
        plain_c1 B5 plain_b (some ⟨t101_pb, t101_po, none⟩) t101_l t101_c t111 (IntKind.i64.wrap (t121 + (1 : Int))) F13 w0 R)))) ∧
     ((¬ m1_1 = (1 : Int)) →
     ((m1_1 = (2 : Int)) →
      ∀ B15 : Nat,
      CallH Tryd.prog 67 ⟨[.string m1_2]⟩ ((B15, .cells #[.func (.func 64) #[] #[], .bool false, .func (.func 67) #[] #[]] 84) :: (B13, .cells #[.int .i64 m1_0, .int .i64 m1_1, .string m1_2, .int .i64 m1_3, .int .i64 m1_4, .int .i64 m1_5, .slice m1_6_p m1_6_l m1_6_c, .int .i64 m1_7, .int .i64 m1_8] 26) :: (B5, EngB8m0) :: F2) [] w0 (fun v L' => ∃ (r281 : ByteArray), v = (.string r281) ∧ L' = ((B15, .cells #[.func (.func 64) #[] #[], .bool false, .func (.func 67) #[] #[]] 84) :: (B13, .cells #[.int .i64 m1_0, .int .i64 m1_1, .string m1_2, .int .i64 m1_3, .int .i64 m1_4, .int .i64 m1_5, .slice m1_6_p m1_6_l m1_6_c, .int .i64 m1_7, .int .i64 m1_8] 26) :: (B5, EngB8m0) :: F2) ∧
       CallH Tryd.prog 50 ⟨[.pointer (some ⟨plain_b, 0, none⟩), .string r281]⟩ ((B15, .cells #[.func (.func 64) #[] #[], .bool false, .func (.func 67) #[] #[]] 84) :: (B13, .cells #[.int .i64 m1_0, .int .i64 m1_1, .string m1_2, .int .i64 m1_3, .int .i64 m1_4, .int .i64 m1_5, .slice m1_6_p m1_6_l m1_6_c, .int .i64 m1_7, .int .i64 m1_8] 26) :: (B5, EngB8m0) :: F2) [] w0 (fun v L' => ∃ (r291 : Int) (r301 : Value) (F14 : SHeap), v = (.tuple #[.int .i64 r291, r301]) ∧ L' = ((B15, .cells #[.func (.func 64) #[] #[], .bool false, .func (.func 67) #[] #[]] 84) :: (B13, .cells #[.int .i64 m1_0, .int .i64 m1_1, .string m1_2, .int .i64 m1_3, .int .i64 m1_4, .int .i64 m1_5, .slice m1_6_p m1_6_l m1_6_c, .int .i64 m1_7, .int .i64 m1_8] 26) :: (B5, EngB8m0) :: F14) ∧
        CallH Tryd.prog 62 ⟨[.pointer (some ⟨plain_b, 0, none⟩), .int .u8 (10 : Int)]⟩ ((B15, .cells #[.func (.func 64) #[] #[], .bool false, .func (.func 67) #[] #[]] 84) :: (B13, .cells #[.int .i64 m1_0, .int .i64 m1_1, .string m1_2, .int .i64 m1_3, .int .i64 m1_4, .int .i64 m1_5, .slice m1_6_p m1_6_l m1_6_c, .int .i64 m1_7, .int .i64 m1_8] 26) :: (B5, EngB8m0) :: F14) [] w0 (fun v L' => ∃ (r321 : Value) (F15 : SHeap), v = (r321) ∧ L' = ((B15, .cells #[.func (.func 64) #[] #[], .bool false, .func (.func 67) #[] #[]] 84) :: (B13, .cells #[.int .i64 m1_0, .int .i64 m1_1, .string m1_2, .int .i64 m1_3, .int .i64 m1_4, .int .i64 m1_5, .slice m1_6_p m1_6_l m1_6_c, .int .i64 m1_7, .int .i64 m1_8] 26) :: (B5, EngB8m0) :: F15) ∧
         plain_c1 B5 plain_b (some ⟨t101_pb, t101_po, none⟩) t101_l t101_c t111 (IntKind.i64.wrap (t121 + (1 : Int))) F15 w0 R)))) ∧
      ((¬ m1_1 = (2 : Int)) →
      ((m1_1 = (3 : Int)) →
       ∀ B16 : Nat,
       CallH Tryd.prog 69 ⟨[.string m1_2]⟩ ((B16, .cells #[.func (.func 65) #[] #[], .bool true, .func (.func 69) #[] #[]] 84) :: (B13, .cells #[.int .i64 m1_0, .int .i64 m1_1, .string m1_2, .int .i64 m1_3, .int .i64 m1_4, .int .i64 m1_5, .slice m1_6_p m1_6_l m1_6_c, .int .i64 m1_7, .int .i64 m1_8] 26) :: (B5, EngB8m0) :: F2) [] w0 (fun v L' => ∃ (r331 : ByteArray), v = (.string r331) ∧ L' = ((B16, .cells #[.func (.func 65) #[] #[], .bool true, .func (.func 69) #[] #[]] 84) :: (B13, .cells #[.int .i64 m1_0, .int .i64 m1_1, .string m1_2, .int .i64 m1_3, .int .i64 m1_4, .int .i64 m1_5, .slice m1_6_p m1_6_l m1_6_c, .int .i64 m1_7, .int .i64 m1_8] 26) :: (B5, EngB8m0) :: F2) ∧
        CallH Tryd.prog 50 ⟨[.pointer (some ⟨plain_b, 0, none⟩), .string r331]⟩ ((B16, .cells #[.func (.func 65) #[] #[], .bool true, .func (.func 69) #[] #[]] 84) :: (B13, .cells #[.int .i64 m1_0, .int .i64 m1_1, .string m1_2, .int .i64 m1_3, .int .i64 m1_4, .int .i64 m1_5, .slice m1_6_p m1_6_l m1_6_c, .int .i64 m1_7, .int .i64 m1_8] 26) :: (B5, EngB8m0) :: F2) [] w0 (fun v L' => ∃ (r341 : Int) (r351 : Value) (F16 : SHeap), v = (.tuple #[.int .i64 r341, r351]) ∧ L' = ((B16, .cells #[.func (.func 65) #[] #[], .bool true, .func (.func 69) #[] #[]] 84) :: (B13, .cells #[.int .i64 m1_0, .int .i64 m1_1, .string m1_2, .int .i64 m1_3, .int .i64 m1_4, .int .i64 m1_5, .slice m1_6_p m1_6_l m1_6_c, .int .i64 m1_7, .int .i64 m1_8] 26) :: (B5, EngB8m0) :: F16) ∧
         CallH Tryd.prog 62 ⟨[.pointer (some ⟨plain_b, 0, none⟩), .int .u8 (10 : Int)]⟩ ((B16, .cells #[.func (.func 65) #[] #[], .bool true, .func (.func 69) #[] #[]] 84) :: (B13, .cells #[.int .i64 m1_0, .int .i64 m1_1, .string m1_2, .int .i64 m1_3, .int .i64 m1_4, .int .i64 m1_5, .slice m1_6_p m1_6_l m1_6_c, .int .i64 m1_7, .int .i64 m1_8] 26) :: (B5, EngB8m0) :: F16) [] w0 (fun v L' => ∃ (r361 : Value) (F17 : SHeap), v = (r361) ∧ L' = ((B16, .cells #[.func (.func 65) #[] #[], .bool true, .func (.func 69) #[] #[]] 84) :: (B13, .cells #[.int .i64 m1_0, .int .i64 m1_1, .string m1_2, .int .i64 m1_3, .int .i64 m1_4, .int .i64 m1_5, .slice m1_6_p m1_6_l m1_6_c, .int .i64 m1_7, .int .i64 m1_8] 26) :: (B5, EngB8m0) :: F17) ∧
          plain_c1 B5 plain_b (some ⟨t101_pb, t101_po, none⟩) t101_l t101_c t111 (IntKind.i64.wrap (t121 + (1 : Int))) F17 w0 R)))) ∧
       ((¬ m1_1 = (3 : Int)) →
       ((m1_1 = (4 : Int)) →
        ∀ B17 : Nat,
        CallH Tryd.prog 70 ⟨[.string m1_2]⟩ ((B17, .cells #[.func (.func 64) #[] #[], .bool false, .func (.func 70) #[] #[]] 84) :: (B13, .cells #[.int .i64 m1_0, .int .i64 m1_1, .string m1_2, .int .i64 m1_3, .int .i64 m1_4, .int .i64 m1_5, .slice m1_6_p m1_6_l m1_6_c, .int .i64 m1_7, .int .i64 m1_8] 26) :: (B5, EngB8m0) :: F2) [] w0 (fun v L' => ∃ (r371 : ByteArray), v = (.string r371) ∧ L' = ((B17, .cells #[.func (.func 64) #[] #[], .bool false, .func (.func 70) #[] #[]] 84) :: (B13, .cells #[.int .i64 m1_0, .int .i64 m1_1, .string m1_2, .int .i64 m1_3, .int .i64 m1_4, .int .i64 m1_5, .slice m1_6_p m1_6_l m1_6_c, .int .i64 m1_7, .int .i64 m1_8] 26) :: (B5, EngB8m0) :: F2) ∧
         CallH Tryd.prog 50 ⟨[.pointer (some ⟨plain_b, 0, none⟩), .string r371]⟩ ((B17, .cells #[.func (.func 64) #[] #[], .bool false, .func (.func 70) #[] #[]] 84) :: (B13, .cells #[.int .i64 m1_0, .int .i64 m1_1, .string m1_2, .int .i64 m1_3, .int .i64 m1_4, .int .i64 m1_5, .slice m1_6_p m1_6_l m1_6_c, .int .i64 m1_7, .int .i64 m1_8] 26) :: (B5, EngB8m0) :: F2) [] w0 (fun v L' => ∃ (r381 : Int) (r391 : Value) (F18 : SHeap), v = (.tuple #[.int .i64 r381, r391]) ∧ L' = ((B17, .cells #[.func (.func 64) #[] #[], .bool false, .func (.func 70) #[] #[]] 84) :: (B13, .cells #[.int .i64 m1_0, .int .i64 m1_1, .string m1_2, .int .i64 m1_3, .int .i64 m1_4, .int .i64 m1_5, .slice m1_6_p m1_6_l m1_6_c, .int .i64 m1_7, .int .i64 m1_8] 26) :: (B5, EngB8m0) :: F18) ∧
          CallH Tryd.prog 62 ⟨[.pointer (some ⟨plain_b, 0, none⟩), .int .u8 (10 : Int)]⟩ ((B17, .cells #[.func (.func 64) #[] #[], .bool false, .func (.func 70) #[] #[]] 84) :: (B13, .cells #[.int .i64 m1_0, .int .i64 m1_1, .string m1_2, .int .i64 m1_3, .int .i64 m1_4, .int .i64 m1_5, .slice m1_6_p m1_6_l m1_6_c, .int .i64 m1_7, .int .i64 m1_8] 26) :: (B5, EngB8m0) :: F18) [] w0 (fun v L' => ∃ (r401 : Value) (F19 : SHeap), v = (r401) ∧ L' = ((B17, .cells #[.func (.func 64) #[] #[], .bool false, .func (.func 70) #[] #[]] 84) :: (B13, .cells #[.int .i64 m1_0, .int .i64 m1_1, .string m1_2, .int .i64 m1_3, .int .i64 m1_4, .int .i64 m1_5, .slice m1_6_p m1_6_l m1_6_c, .int .i64 m1_7, .int .i64 m1_8] 26) :: (B5, EngB8m0) :: F19) ∧
           plain_c1 B5 plain_b (some ⟨t101_pb, t101_po, none⟩) t101_l t101_c t111 (IntKind.i64.wrap (t121 + (1 : Int))) F19 w0 R)))) ∧
        ((¬ m1_1 = (4 : Int)) →
        ((m1_1 = (5 : Int)) →
         ∀ B18 : Nat,
         CallH Tryd.prog 72 ⟨[.string m1_2]⟩ ((B18, .cells #[.func (.func 71) #[] #[], .bool false, .func (.func 72) #[] #[]] 84) :: (B13, .cells #[.int .i64 m1_0, .int .i64 m1_1, .string m1_2, .int .i64 m1_3, .int .i64 m1_4, .int .i64 m1_5, .slice m1_6_p m1_6_l m1_6_c, .int .i64 m1_7, .int .i64 m1_8] 26) :: (B5, EngB8m0) :: F2) [] w0 (fun v L' => ∃ (r421 : ByteArray), v = (.string r421) ∧ L' = ((B18, .cells #[.func (.func 71) #[] #[], .bool false, .func (.func 72) #[] #[]] 84) :: (B13, .cells #[.int .i64 m1_0, .int .i64 m1_1, .string m1_2, .int .i64 m1_3, .int .i64 m1_4, .int .i64 m1_5, .slice m1_6_p m1_6_l m1_6_c, .int .i64 m1_7, .int .i64 m1_8] 26) :: (B5, EngB8m0) :: F2) ∧
          CallH Tryd.prog 50 ⟨[.pointer (some ⟨plain_b, 0, none⟩), .string r421]⟩ ((B18, .cells #[.func (.func 71) #[] #[], .bool false, .func (.func 72) #[] #[]] 84) :: (B13, .cells #[.int .i64 m1_0, .int .i64 m1_1, .string m1_2, .int .i64 m1_3, .int .i64 m1_4, .int .i64 m1_5, .slice m1_6_p m1_6_l m1_6_c, .int .i64 m1_7, .int .i64 m1_8] 26) :: (B5, EngB8m0) :: F2) [] w0 (fun v L' => ∃ (r431 : Int) (r441 : Value) (F20 : SHeap), v = (.tuple #[.int .i64 r431, r441]) ∧ L' = ((B18, .cells #[.func (.func 71) #[] #[], .bool false, .func (.func 72) #[] #[]] 84) :: (B13, .cells #[.int .i64 m1_0, .int .i64 m1_1, .string m1_2, .int .i64 m1_3, .int .i64 m1_4, .int .i64 m1_5, .slice m1_6_p m1_6_l m1_6_c, .int .i64 m1_7, .int .i64 m1_8] 26) :: (B5, EngB8m0) :: F20) ∧
           CallH Tryd.prog 62 ⟨[.pointer (some ⟨plain_b, 0, none⟩), .int .u8 (10 : Int)]⟩ ((B18, .cells #[.func (.func 71) #[] #[], .bool false, .func (.func 72) #[] #[]] 84) :: (B13, .cells #[.int .i64 m1_0, .int .i64 m1_1, .string m1_2, .int .i64 m1_3, .int .i64 m1_4, .int .i64 m1_5, .slice m1_6_p m1_6_l m1_6_c, .int .i64 m1_7, .int .i64 m1_8] 26) :: (B5, EngB8m0) :: F20) [] w0 (fun v L' => ∃ (r451 : Value) (F21 : SHeap), v = (r451) ∧ L' = ((B18, .cells #[.func (.func 71) #[] #[], .bool false, .func (.func 72) #[] #[]] 84) :: (B13, .cells #[.int .i64 m1_0, .int .i64 m1_1, .string m1_2, .int .i64 m1_3, .int .i64 m1_4, .int .i64 m1_5, .slice m1_6_p m1_6_l m1_6_c, .int .i64 m1_7, .int .i64 m1_8] 26) :: (B5, EngB8m0) :: F21) ∧
            plain_c1 B5 plain_b (some ⟨t101_pb, t101_po, none⟩) t101_l t101_c t111 (IntKind.i64.wrap (t121 + (1 : Int))) F21 w0 R)))) ∧
         ((¬ m1_1 = (5 : Int)) →
         ∀ B19 : Nat,
         plain_c1 B5 plain_b (some ⟨t101_pb, t101_po, none⟩) t101_l t101_c t111 (IntKind.i64.wrap (t121 + (1 : Int))) F2 w0 R)))))) ∧
    ((¬ (t121 < t111)) →
    CallH Tryd.prog 51 ⟨[.pointer (some ⟨plain_b, 0, none⟩)]⟩ ((B5, EngB8m0) :: F2) [] w0 (fun v L' => ∃ (r461 : ByteArray) (F22 : SHeap), v = (.string r461) ∧ L' = ((B5, EngB8m0) :: F22) ∧
     Fin R ((B5, EngB8m0) :: F22) [] w0 (.string r461)))) :
  plain_c1 B5 plain_b t101_p t101_l t101_c t111 t121 F2 w0 R := by
 unfold plain_c1
 refine AtE.run 5 (fun W => by kernel_rfl) ?_
 refine AtE.splitP 13 (p := t121 < t111) (by kernel_rfl) (fun h7' => ?_) (fun h7' => ?_)
 ·replace H := H.1 h7'
  refine AtE.run 6 (fun W => by kernel_rfl) ?_
  obtain ⟨t101_pb, t101_po, rfl, H⟩ := H
  refine AtE.indexAddrL (E := 26) (b := t101_pb) (o := t101_po) (len := t101_l) (cap := t101_c) (sz := 9) (o' := (t101_po + ((Int.toNat t121) * 9))) (kd := .i64) (i := t121) (by kernel_rfl) H.1 (by omega) ?_
  replace H := H.2
  obtain ⟨cw1, m1_0, m1_1, m1_2, m1_3, m1_4, m1_5, m1_6_p, m1_6_l, m1_6_c, m1_7, m1_8, hw, hx, H⟩ := H
  refine AtE.loadW (b := t101_pb) (off := (t101_po + ((Int.toNat t121) * 9))) (T := 26) (v := .agg #[.int .i64 m1_0, .int .i64 m1_1, .string m1_2, .int .i64 m1_3, .int .i64 m1_4, .int .i64 m1_5, .slice m1_6_p m1_6_l m1_6_c, .int .i64 m1_7, .int .i64 m1_8]) (by kernel_rfl) List.not_mem_nil hw (valAt_agg hx.1 hx.2 (by kernel_rfl) (by kernel_rfl)) ?_
  refine AtE.new (fun B => .pointer (some ⟨B, 0, none⟩)) (.cells #[.int .i64 (0 : Int), .int .i64 (0 : Int), .string (⟨#[]⟩), .int .i64 (0 : Int), .int .i64 (0 : Int), .int .i64 (0 : Int), .slice none 0 0, .int .i64 (0 : Int), .int .i64 (0 : Int)] 26) (fun W => by kernel_rfl) (by kernel_rfl) (fun B13 => ?_)
  replace H := H B13
  refine AtE.front ?_
  refine AtE.store 0 0 (T := 26) (v := .agg #[.int .i64 m1_0, .int .i64 m1_1, .string m1_2, .int .i64 m1_3, .int .i64 m1_4, .int .i64 m1_5, .slice m1_6_p m1_6_l m1_6_c, .int .i64 m1_7, .int .i64 m1_8]) (by kernel_rfl) ?_
  refine AtE.run 5 (fun W => by kernel_rfl) ?_
  refine AtE.load 0 1 (T := 3) (v := .int .i64 m1_1) (by kernel_rfl) ?_
  refine AtE.norm (k' := [.inRegion (regOps [.code (EngB8s34 [1,1,1,0,1,0,0,1,1,0,0,1,0])]) [3,4,5,6,7,8,9], .code (EngB8s34 [1,1,1,0,1,0,0,1,1,0,0,1,1]), .inBlock 1, .code (EngB8s34 [1,1,1,0,1,0,0,1,1,1]), .inLoop (EngB8s34 [1,1,1,0,1,0,0]), .inBlock 0, .code (EngB8s34 [1,1,1,1])]) (e' := [(3, .map (some B5)), (4, .pointer (some ⟨plain_b, 0, none⟩)), (6, .pointer (some ⟨B13, 0, none⟩)), (10, .slice (some ⟨t101_pb, t101_po, none⟩) t101_l t101_c), (11, .int .i64 t111), (12, .int .i64 t121), (17, .map (some B5)), (19, .int .i64 m1_1)]) (L' := ((B13, .cells #[.int .i64 m1_0, .int .i64 m1_1, .string m1_2, .int .i64 m1_3, .int .i64 m1_4, .int .i64 m1_5, .slice m1_6_p m1_6_l m1_6_c, .int .i64 m1_7, .int .i64 m1_8] 26) :: (B5, EngB8m0) :: F2)) ?_ (by kernel_rfl)
  refine AtE.look 1 (b := B5) (c := 5) (es := #[{ key := .int .i64 (1 : Int), val := .agg #[.func (.func 64) #[] #[], .bool false, .func (.func 66) #[] #[]], born := 0 }, { key := .int .i64 (2 : Int), val := .agg #[.func (.func 64) #[] #[], .bool false, .func (.func 67) #[] #[]], born := 1 }, { key := .int .i64 (3 : Int), val := .agg #[.func (.func 65) #[] #[], .bool true, .func (.func 69) #[] #[]], born := 2 }, { key := .int .i64 (4 : Int), val := .agg #[.func (.func 64) #[] #[], .bool false, .func (.func 70) #[] #[]], born := 3 }, { key := .int .i64 (5 : Int), val := .agg #[.func (.func 71) #[] #[], .bool false, .func (.func 72) #[] #[]], born := 4 }]) (kt := 3) (et := 84) (kd := .i64) (n := m1_1) (z := .agg #[.nilFunc, .bool false, .nilFunc]) (by kernel_rfl) ?_
  refine LookAll.cons (fun h8' => ?_) (fun h8' => ?_)
  ·replace H := H.1 h8'
   refine AtE.norm (k' := [.inRegion (regOps [.code (EngB8s34 [1,1,1,0,1,0,0,1,1,0,0,1,0])]) [4,5,6,7,8,9], .code (EngB8s34 [1,1,1,0,1,0,0,1,1,0,0,1,1]), .inBlock 1, .code (EngB8s34 [1,1,1,0,1,0,0,1,1,1]), .inLoop (EngB8s34 [1,1,1,0,1,0,0]), .inBlock 0, .code (EngB8s34 [1,1,1,1])]) (e' := [(3, .map (some B5)), (4, .pointer (some ⟨plain_b, 0, none⟩)), (6, .pointer (some ⟨B13, 0, none⟩)), (10, .slice (some ⟨t101_pb, t101_po, none⟩) t101_l t101_c), (11, .int .i64 t111), (12, .int .i64 t121), (20, .tuple #[.agg #[.func (.func 64) #[] #[], .bool false, .func (.func 66) #[] #[]], .bool true])]) (L' := ((B13, .cells #[.int .i64 m1_0, .int .i64 m1_1, .string m1_2, .int .i64 m1_3, .int .i64 m1_4, .int .i64 m1_5, .slice m1_6_p m1_6_l m1_6_c, .int .i64 m1_7, .int .i64 m1_8] 26) :: (B5, EngB8m0) :: F2)) ?_ (by kernel_rfl)
   refine AtE.run 3 (fun W => by kernel_rfl) ?_
   refine AtE.new (fun B => .pointer (some ⟨B, 0, none⟩)) (.cells #[.nilFunc, .bool false, .nilFunc] 84) (fun W => by kernel_rfl) (by kernel_rfl) (fun B14 => ?_)
   replace H := H B14
   refine AtE.front ?_
   refine AtE.store 0 0 (T := 84) (v := .agg #[.func (.func 64) #[] #[], .bool false, .func (.func 66) #[] #[]]) (by kernel_rfl) ?_
   refine AtE.run 10 (fun W => by kernel_rfl) ?_
   refine AtE.load 0 2 (T := 47) (v := .func (.func 66) #[] #[]) (by kernel_rfl) ?_
   refine AtE.run 1 (fun W => by kernel_rfl) ?_
   refine AtE.load 1 2 (T := 9) (v := .string m1_2) (by kernel_rfl) ?_
   refine AtE.call 66 ⟨[.string m1_2]⟩ (fun W => by kernel_rfl) (by kernel_rfl) H ?_
   clear H
   rintro _ _ ⟨r241, rfl, rfl, H⟩
   refine AtE.call 50 ⟨[.pointer (some ⟨plain_b, 0, none⟩), .string r241]⟩ (fun W => by kernel_rfl) (by kernel_rfl) H ?_
   clear H
   rintro _ _ ⟨r251, r261, F12, rfl, rfl, H⟩
   refine AtE.run 2 (fun W => by kernel_rfl) ?_
   refine AtE.call 62 ⟨[.pointer (some ⟨plain_b, 0, none⟩), .int .u8 (10 : Int)]⟩ (fun W => by kernel_rfl) (by kernel_rfl) H ?_
   clear H
   rintro _ _ ⟨r271, F13, rfl, rfl, H⟩
   refine AtE.norm (k' := [.inRegion (regOps [.code (EngB8s34 [1,1,1,0,1,0,0,1,1,0,0,1,1,1,0,1])]) [], .inBlock 1, .code (EngB8s34 [1,1,1,0,1,0,0,1,1,1]), .inLoop (EngB8s34 [1,1,1,0,1,0,0]), .inBlock 0, .code (EngB8s34 [1,1,1,1])]) (e' := [(3, .map (some B5)), (4, .pointer (some ⟨plain_b, 0, none⟩)), (10, .slice (some ⟨t101_pb, t101_po, none⟩) t101_l t101_c), (11, .int .i64 t111), (12, .int .i64 t121)]) (L' := ((B14, .cells #[.func (.func 64) #[] #[], .bool false, .func (.func 66) #[] #[]] 84) :: (B13, .cells #[.int .i64 m1_0, .int .i64 m1_1, .string m1_2, .int .i64 m1_3, .int .i64 m1_4, .int .i64 m1_5, .slice m1_6_p m1_6_l m1_6_c, .int .i64 m1_7, .int .i64 m1_8] 26) :: (B5, EngB8m0) :: F13)) ?_ (by kernel_rfl)
   refine AtE.run 7 (fun W => by kernel_rfl) ?_
   exact AtE.cutT [2] 3 H (by kernel_rfl)
  ·replace H := H.2 h8'
   refine LookAll.cons (fun h9' => ?_) (fun h9' => ?_)
   ·replace H := H.1 h9'
    refine AtE.norm (k' := [.inRegion (regOps [.code (EngB8s34 [1,1,1,0,1,0,0,1,1,0,0,1,0])]) [4,5,6,7,8,9], .code (EngB8s34 [1,1,1,0,1,0,0,1,1,0,0,1,1]), .inBlock 1, .code (EngB8s34 [1,1,1,0,1,0,0,1,1,1]), .inLoop (EngB8s34 [1,1,1,0,1,0,0]), .inBlock 0, .code (EngB8s34 [1,1,1,1])]) (e' := [(3, .map (some B5)), (4, .pointer (some ⟨plain_b, 0, none⟩)), (6, .pointer (some ⟨B13, 0, none⟩)), (10, .slice (some ⟨t101_pb, t101_po, none⟩) t101_l t101_c), (11, .int .i64 t111), (12, .int .i64 t121), (20, .tuple #[.agg #[.func (.func 64) #[] #[], .bool false, .func (.func 67) #[] #[]], .bool true])]) (L' := ((B13, .cells #[.int .i64 m1_0, .int .i64 m1_1, .string m1_2, .int .i64 m1_3, .int .i64 m1_4, .int .i64 m1_5, .slice m1_6_p m1_6_l m1_6_c, .int .i64 m1_7, .int .i64 m1_8] 26) :: (B5, EngB8m0) :: F2)) ?_ (by kernel_rfl)
    refine AtE.run 3 (fun W => by kernel_rfl) ?_
    refine AtE.new (fun B => .pointer (some ⟨B, 0, none⟩)) (.cells #[.nilFunc, .bool false, .nilFunc] 84) (fun W => by kernel_rfl) (by kernel_rfl) (fun B15 => ?_)
    replace H := H B15
    refine AtE.front ?_
    refine AtE.store 0 0 (T := 84) (v := .agg #[.func (.func 64) #[] #[], .bool false, .func (.func 67) #[] #[]]) (by kernel_rfl) ?_
    refine AtE.run 10 (fun W => by kernel_rfl) ?_
    refine AtE.load 0 2 (T := 47) (v := .func (.func 67) #[] #[]) (by kernel_rfl) ?_
    refine AtE.run 1 (fun W => by kernel_rfl) ?_
    refine AtE.load 1 2 (T := 9) (v := .string m1_2) (by kernel_rfl) ?_
    refine AtE.call 67 ⟨[.string m1_2]⟩ (fun W => by kernel_rfl) (by kernel_rfl) H ?_
    clear H
    rintro _ _ ⟨r281, rfl, rfl, H⟩
    refine AtE.call 50 ⟨[.pointer (some ⟨plain_b, 0, none⟩), .string r281]⟩ (fun W => by kernel_rfl) (by kernel_rfl) H ?_
    clear H
    rintro _ _ ⟨r291, r301, F14, rfl, rfl, H⟩
    refine AtE.run 2 (fun W => by kernel_rfl) ?_
    refine AtE.call 62 ⟨[.pointer (some ⟨plain_b, 0, none⟩), .int .u8 (10 : Int)]⟩ (fun W => by kernel_rfl) (by kernel_rfl) H ?_
    clear H
    rintro _ _ ⟨r321, F15, rfl, rfl, H⟩
    refine AtE.norm (k' := [.inRegion (regOps [.code (EngB8s34 [1,1,1,0,1,0,0,1,1,0,0,1,1,1,0,1])]) [], .inBlock 1, .code (EngB8s34 [1,1,1,0,1,0,0,1,1,1]), .inLoop (EngB8s34 [1,1,1,0,1,0,0]), .inBlock 0, .code (EngB8s34 [1,1,1,1])]) (e' := [(3, .map (some B5)), (4, .pointer (some ⟨plain_b, 0, none⟩)), (10, .slice (some ⟨t101_pb, t101_po, none⟩) t101_l t101_c), (11, .int .i64 t111), (12, .int .i64 t121)]) (L' := ((B15, .cells #[.func (.func 64) #[] #[], .bool false, .func (.func 67) #[] #[]] 84) :: (B13, .cells #[.int .i64 m1_0, .int .i64 m1_1, .string m1_2, .int .i64 m1_3, .int .i64 m1_4, .int .i64 m1_5, .slice m1_6_p m1_6_l m1_6_c, .int .i64 m1_7, .int .i64 m1_8] 26) :: (B5, EngB8m0) :: F15)) ?_ (by kernel_rfl)
    refine AtE.run 7 (fun W => by kernel_rfl) ?_
    exact AtE.cutT [2] 3 H (by kernel_rfl)
   ·replace H := H.2 h9'
    refine LookAll.cons (fun h10' => ?_) (fun h10' => ?_)
    ·replace H := H.1 h10'
     refine AtE.norm (k' := [.inRegion (regOps [.code (EngB8s34 [1,1,1,0,1,0,0,1,1,0,0,1,0])]) [4,5,6,7,8,9], .code (EngB8s34 [1,1,1,0,1,0,0,1,1,0,0,1,1]), .inBlock 1, .code (EngB8s34 [1,1,1,0,1,0,0,1,1,1]), .inLoop (EngB8s34 [1,1,1,0,1,0,0]), .inBlock 0, .code (EngB8s34 [1,1,1,1])]) (e' := [(3, .map (some B5)), (4, .pointer (some ⟨plain_b, 0, none⟩)), (6, .pointer (some ⟨B13, 0, none⟩)), (10, .slice (some ⟨t101_pb, t101_po, none⟩) t101_l t101_c), (11, .int .i64 t111), (12, .int .i64 t121), (20, .tuple #[.agg #[.func (.func 65) #[] #[], .bool true, .func (.func 69) #[] #[]], .bool true])]) (L' := ((B13, .cells #[.int .i64 m1_0, .int .i64 m1_1, .string m1_2, .int .i64 m1_3, .int .i64 m1_4, .int .i64 m1_5, .slice m1_6_p m1_6_l m1_6_c, .int .i64 m1_7, .int .i64 m1_8] 26) :: (B5, EngB8m0) :: F2)) ?_ (by kernel_rfl)
     refine AtE.run 3 (fun W => by kernel_rfl) ?_
     refine AtE.new (fun B => .pointer (some ⟨B, 0, none⟩)) (.cells #[.nilFunc, .bool false, .nilFunc] 84) (fun W => by kernel_rfl) (by kernel_rfl) (fun B16 => ?_)
     replace H := H B16
     refine AtE.front ?_
     refine AtE.store 0 0 (T := 84) (v := .agg #[.func (.func 65) #[] #[], .bool true, .func (.func 69) #[] #[]]) (by kernel_rfl) ?_
     refine AtE.run 10 (fun W => by kernel_rfl) ?_
     refine AtE.load 0 2 (T := 47) (v := .func (.func 69) #[] #[]) (by kernel_rfl) ?_
     refine AtE.run 1 (fun W => by kernel_rfl) ?_
     refine AtE.load 1 2 (T := 9) (v := .string m1_2) (by kernel_rfl) ?_
     refine AtE.call 69 ⟨[.string m1_2]⟩ (fun W => by kernel_rfl) (by kernel_rfl) H ?_
     clear H
     rintro _ _ ⟨r331, rfl, rfl, H⟩
     refine AtE.call 50 ⟨[.pointer (some ⟨plain_b, 0, none⟩), .string r331]⟩ (fun W => by kernel_rfl) (by kernel_rfl) H ?_
     clear H
     rintro _ _ ⟨r341, r351, F16, rfl, rfl, H⟩
     refine AtE.run 2 (fun W => by kernel_rfl) ?_
     refine AtE.call 62 ⟨[.pointer (some ⟨plain_b, 0, none⟩), .int .u8 (10 : Int)]⟩ (fun W => by kernel_rfl) (by kernel_rfl) H ?_
     clear H
     rintro _ _ ⟨r361, F17, rfl, rfl, H⟩
     refine AtE.norm (k' := [.inRegion (regOps [.code (EngB8s34 [1,1,1,0,1,0,0,1,1,0,0,1,1,1,0,1])]) [], .inBlock 1, .code (EngB8s34 [1,1,1,0,1,0,0,1,1,1]), .inLoop (EngB8s34 [1,1,1,0,1,0,0]), .inBlock 0, .code (EngB8s34 [1,1,1,1])]) (e' := [(3, .map (some B5)), (4, .pointer (some ⟨plain_b, 0, none⟩)), (10, .slice (some ⟨t101_pb, t101_po, none⟩) t101_l t101_c), (11, .int .i64 t111), (12, .int .i64 t121)]) (L' := ((B16, .cells #[.func (.func 65) #[] #[], .bool true, .func (.func 69) #[] #[]] 84) :: (B13, .cells #[.int .i64 m1_0, .int .i64 m1_1, .string m1_2, .int .i64 m1_3, .int .i64 m1_4, .int .i64 m1_5, .slice m1_6_p m1_6_l m1_6_c, .int .i64 m1_7, .int .i64 m1_8] 26) :: (B5, EngB8m0) :: F17)) ?_ (by kernel_rfl)
     refine AtE.run 7 (fun W => by kernel_rfl) ?_
     exact AtE.cutT [2] 3 H (by kernel_rfl)
    ·replace H := H.2 h10'
     refine LookAll.cons (fun h11' => ?_) (fun h11' => ?_)
     ·replace H := H.1 h11'
      refine AtE.norm (k' := [.inRegion (regOps [.code (EngB8s34 [1,1,1,0,1,0,0,1,1,0,0,1,0])]) [4,5,6,7,8,9], .code (EngB8s34 [1,1,1,0,1,0,0,1,1,0,0,1,1]), .inBlock 1, .code (EngB8s34 [1,1,1,0,1,0,0,1,1,1]), .inLoop (EngB8s34 [1,1,1,0,1,0,0]), .inBlock 0, .code (EngB8s34 [1,1,1,1])]) (e' := [(3, .map (some B5)), (4, .pointer (some ⟨plain_b, 0, none⟩)), (6, .pointer (some ⟨B13, 0, none⟩)), (10, .slice (some ⟨t101_pb, t101_po, none⟩) t101_l t101_c), (11, .int .i64 t111), (12, .int .i64 t121), (20, .tuple #[.agg #[.func (.func 64) #[] #[], .bool false, .func (.func 70) #[] #[]], .bool true])]) (L' := ((B13, .cells #[.int .i64 m1_0, .int .i64 m1_1, .string m1_2, .int .i64 m1_3, .int .i64 m1_4, .int .i64 m1_5, .slice m1_6_p m1_6_l m1_6_c, .int .i64 m1_7, .int .i64 m1_8] 26) :: (B5, EngB8m0) :: F2)) ?_ (by kernel_rfl)
      refine AtE.run 3 (fun W => by kernel_rfl) ?_
      refine AtE.new (fun B => .pointer (some ⟨B, 0, none⟩)) (.cells #[.nilFunc, .bool false, .nilFunc] 84) (fun W => by kernel_rfl) (by kernel_rfl) (fun B17 => ?_)
      replace H := H B17
      refine AtE.front ?_
      refine AtE.store 0 0 (T := 84) (v := .agg #[.func (.func 64) #[] #[], .bool false, .func (.func 70) #[] #[]]) (by kernel_rfl) ?_
      refine AtE.run 10 (fun W => by kernel_rfl) ?_
      refine AtE.load 0 2 (T := 47) (v := .func (.func 70) #[] #[]) (by kernel_rfl) ?_
      refine AtE.run 1 (fun W => by kernel_rfl) ?_
      refine AtE.load 1 2 (T := 9) (v := .string m1_2) (by kernel_rfl) ?_
      refine AtE.call 70 ⟨[.string m1_2]⟩ (fun W => by kernel_rfl) (by kernel_rfl) H ?_
      clear H
      rintro _ _ ⟨r371, rfl, rfl, H⟩
      refine AtE.call 50 ⟨[.pointer (some ⟨plain_b, 0, none⟩), .string r371]⟩ (fun W => by kernel_rfl) (by kernel_rfl) H ?_
      clear H
      rintro _ _ ⟨r381, r391, F18, rfl, rfl, H⟩
      refine AtE.run 2 (fun W => by kernel_rfl) ?_
      refine AtE.call 62 ⟨[.pointer (some ⟨plain_b, 0, none⟩), .int .u8 (10 : Int)]⟩ (fun W => by kernel_rfl) (by kernel_rfl) H ?_
      clear H
      rintro _ _ ⟨r401, F19, rfl, rfl, H⟩
      refine AtE.norm (k' := [.inRegion (regOps [.code (EngB8s34 [1,1,1,0,1,0,0,1,1,0,0,1,1,1,0,1])]) [], .inBlock 1, .code (EngB8s34 [1,1,1,0,1,0,0,1,1,1]), .inLoop (EngB8s34 [1,1,1,0,1,0,0]), .inBlock 0, .code (EngB8s34 [1,1,1,1])]) (e' := [(3, .map (some B5)), (4, .pointer (some ⟨plain_b, 0, none⟩)), (10, .slice (some ⟨t101_pb, t101_po, none⟩) t101_l t101_c), (11, .int .i64 t111), (12, .int .i64 t121)]) (L' := ((B17, .cells #[.func (.func 64) #[] #[], .bool false, .func (.func 70) #[] #[]] 84) :: (B13, .cells #[.int .i64 m1_0, .int .i64 m1_1, .string m1_2, .int .i64 m1_3, .int .i64 m1_4, .int .i64 m1_5, .slice m1_6_p m1_6_l m1_6_c, .int .i64 m1_7, .int .i64 m1_8] 26) :: (B5, EngB8m0) :: F19)) ?_ (by kernel_rfl)
      refine AtE.run 7 (fun W => by kernel_rfl) ?_
      exact AtE.cutT [2] 3 H (by kernel_rfl)
     ·replace H := H.2 h11'
      refine LookAll.cons (fun h12' => ?_) (fun h12' => ?_)
      ·replace H := H.1 h12'
       refine AtE.norm (k' := [.inRegion (regOps [.code (EngB8s34 [1,1,1,0,1,0,0,1,1,0,0,1,0])]) [4,5,6,7,8,9], .code (EngB8s34 [1,1,1,0,1,0,0,1,1,0,0,1,1]), .inBlock 1, .code (EngB8s34 [1,1,1,0,1,0,0,1,1,1]), .inLoop (EngB8s34 [1,1,1,0,1,0,0]), .inBlock 0, .code (EngB8s34 [1,1,1,1])]) (e' := [(3, .map (some B5)), (4, .pointer (some ⟨plain_b, 0, none⟩)), (6, .pointer (some ⟨B13, 0, none⟩)), (10, .slice (some ⟨t101_pb, t101_po, none⟩) t101_l t101_c), (11, .int .i64 t111), (12, .int .i64 t121), (20, .tuple #[.agg #[.func (.func 71) #[] #[], .bool false, .func (.func 72) #[] #[]], .bool true])]) (L' := ((B13, .cells #[.int .i64 m1_0, .int .i64 m1_1, .string m1_2, .int .i64 m1_3, .int .i64 m1_4, .int .i64 m1_5, .slice m1_6_p m1_6_l m1_6_c, .int .i64 m1_7, .int .i64 m1_8] 26) :: (B5, EngB8m0) :: F2)) ?_ (by kernel_rfl)
       refine AtE.run 3 (fun W => by kernel_rfl) ?_
       refine AtE.new (fun B => .pointer (some ⟨B, 0, none⟩)) (.cells #[.nilFunc, .bool false, .nilFunc] 84) (fun W => by kernel_rfl) (by kernel_rfl) (fun B18 => ?_)
       replace H := H B18
       refine AtE.front ?_
       refine AtE.store 0 0 (T := 84) (v := .agg #[.func (.func 71) #[] #[], .bool false, .func (.func 72) #[] #[]]) (by kernel_rfl) ?_
       refine AtE.run 10 (fun W => by kernel_rfl) ?_
       refine AtE.load 0 2 (T := 47) (v := .func (.func 72) #[] #[]) (by kernel_rfl) ?_
       refine AtE.run 1 (fun W => by kernel_rfl) ?_
       refine AtE.load 1 2 (T := 9) (v := .string m1_2) (by kernel_rfl) ?_
       refine AtE.call 72 ⟨[.string m1_2]⟩ (fun W => by kernel_rfl) (by kernel_rfl) H ?_
       clear H
       rintro _ _ ⟨r421, rfl, rfl, H⟩
       refine AtE.call 50 ⟨[.pointer (some ⟨plain_b, 0, none⟩), .string r421]⟩ (fun W => by kernel_rfl) (by kernel_rfl) H ?_
       clear H
       rintro _ _ ⟨r431, r441, F20, rfl, rfl, H⟩
       refine AtE.run 2 (fun W => by kernel_rfl) ?_
       refine AtE.call 62 ⟨[.pointer (some ⟨plain_b, 0, none⟩), .int .u8 (10 : Int)]⟩ (fun W => by kernel_rfl) (by kernel_rfl) H ?_
       clear H
       rintro _ _ ⟨r451, F21, rfl, rfl, H⟩
       refine AtE.norm (k' := [.inRegion (regOps [.code (EngB8s34 [1,1,1,0,1,0,0,1,1,0,0,1,1,1,0,1])]) [], .inBlock 1, .code (EngB8s34 [1,1,1,0,1,0,0,1,1,1]), .inLoop (EngB8s34 [1,1,1,0,1,0,0]), .inBlock 0, .code (EngB8s34 [1,1,1,1])]) (e' := [(3, .map (some B5)), (4, .pointer (some ⟨plain_b, 0, none⟩)), (10, .slice (some ⟨t101_pb, t101_po, none⟩) t101_l t101_c), (11, .int .i64 t111), (12, .int .i64 t121)]) (L' := ((B18, .cells #[.func (.func 71) #[] #[], .bool false, .func (.func 72) #[] #[]] 84) :: (B13, .cells #[.int .i64 m1_0, .int .i64 m1_1, .string m1_2, .int .i64 m1_3, .int .i64 m1_4, .int .i64 m1_5, .slice m1_6_p m1_6_l m1_6_c, .int .i64 m1_7, .int .i64 m1_8] 26) :: (B5, EngB8m0) :: F21)) ?_ (by kernel_rfl)
       refine AtE.run 7 (fun W => by kernel_rfl) ?_
       exact AtE.cutT [2] 3 H (by kernel_rfl)
      ·replace H := H.2 h12'
       refine AtE.norm (k' := [.inRegion (regOps [.code (EngB8s34 [1,1,1,0,1,0,0,1,1,0,0,1,0])]) [4,5,6,7,8,9], .code (EngB8s34 [1,1,1,0,1,0,0,1,1,0,0,1,1]), .inBlock 1, .code (EngB8s34 [1,1,1,0,1,0,0,1,1,1]), .inLoop (EngB8s34 [1,1,1,0,1,0,0]), .inBlock 0, .code (EngB8s34 [1,1,1,1])]) (e' := [(3, .map (some B5)), (4, .pointer (some ⟨plain_b, 0, none⟩)), (6, .pointer (some ⟨B13, 0, none⟩)), (10, .slice (some ⟨t101_pb, t101_po, none⟩) t101_l t101_c), (11, .int .i64 t111), (12, .int .i64 t121), (20, .tuple #[.agg #[.nilFunc, .bool false, .nilFunc], .bool false])]) (L' := ((B13, .cells #[.int .i64 m1_0, .int .i64 m1_1, .string m1_2, .int .i64 m1_3, .int .i64 m1_4, .int .i64 m1_5, .slice m1_6_p m1_6_l m1_6_c, .int .i64 m1_7, .int .i64 m1_8] 26) :: (B5, EngB8m0) :: F2)) ?_ (by kernel_rfl)
       refine AtE.run 3 (fun W => by kernel_rfl) ?_
       refine AtE.new (fun B => .pointer (some ⟨B, 0, none⟩)) (.cells #[.nilFunc, .bool false, .nilFunc] 84) (fun W => by kernel_rfl) (by kernel_rfl) (fun B19 => ?_)
       replace H := H B19
       refine AtE.front ?_
       refine AtE.store 0 0 (T := 84) (v := .agg #[.nilFunc, .bool false, .nilFunc]) (by kernel_rfl) ?_
       refine AtE.run 14 (fun W => by kernel_rfl) ?_
       exact AtE.cutT [2] 3 H (by kernel_rfl)
 ·replace H := H.2 h7'
  refine AtE.run 4 (fun W => by kernel_rfl) ?_
  refine AtE.call 51 ⟨[.pointer (some ⟨plain_b, 0, none⟩)]⟩ (fun W => by kernel_rfl) (by kernel_rfl) H ?_
  clear H
  rintro _ _ ⟨r461, F22, rfl, rfl, H⟩
  refine AtE.run 2 (fun W => by kernel_rfl) ?_
  exact AtE.ret Tryd.func34 (by kernel_rfl) H
theorem plain_c2_vc (B11 : Nat) (B12 : Nat) (t102_p : Option Addr) (t102_l : Nat) (t102_c : Nat) (t112 : Int) (t122 : Int) (m01 : Option Addr) {R : Ending → World → Prop} {w0 : World}
  (H :
   ((t122 < t112) →
    ∃ t102_pb t102_po : Nat, t102_p = some ⟨t102_pb, t102_po, none⟩ ∧
    (0 ≤ t122 ∧ t122 < t102_l) ∧
    ∃ (cw2 : List Value) (m2_0 : Int) (m2_1 : Int) (m2_2 : ByteArray) (m2_3 : Int) (m2_4 : Int) (m2_5 : Int) (m2_6_p : Option Addr) (m2_6_l : Nat) (m2_6_c : Nat) (m2_7 : Int) (m2_8 : Int), blkW w0 t102_pb = some cw2 ∧ ((cw2.drop (t102_po + ((Int.toNat t122) * 9))).take 9 = [.int .i64 m2_0, .int .i64 m2_1, .string m2_2, .int .i64 m2_3, .int .i64 m2_4, .int .i64 m2_5, .slice m2_6_p m2_6_l m2_6_c, .int .i64 m2_7, .int .i64 m2_8] ∧ (t102_po + ((Int.toNat t122) * 9)) + 9 ≤ cw2.length) ∧
    ∀ B20 : Nat,
    ((m2_1 = (1 : Int)) →
     ∀ B21 : Nat,
     CallH Tryd.prog 66 ⟨[.string m2_2]⟩ [(B11, EngB8m0), (B12, .cells #[.pointer m01, .slice none 0 0] 60), (B20, .cells #[.int .i64 m2_0, .int .i64 m2_1, .string m2_2, .int .i64 m2_3, .int .i64 m2_4, .int .i64 m2_5, .slice m2_6_p m2_6_l m2_6_c, .int .i64 m2_7, .int .i64 m2_8] 26), (B21, .cells #[.func (.func 64) #[] #[], .bool false, .func (.func 66) #[] #[]] 84)] [] w0 (fun v L' => ∃ (r471 : ByteArray), v = (.string r471) ∧ L' = [(B11, EngB8m0), (B12, .cells #[.pointer m01, .slice none 0 0] 60), (B20, .cells #[.int .i64 m2_0, .int .i64 m2_1, .string m2_2, .int .i64 m2_3, .int .i64 m2_4, .int .i64 m2_5, .slice m2_6_p m2_6_l m2_6_c, .int .i64 m2_7, .int .i64 m2_8] 26), (B21, .cells #[.func (.func 64) #[] #[], .bool false, .func (.func 66) #[] #[]] 84)] ∧
      CallH Tryd.prog 50 ⟨[.pointer (some ⟨B12, 0, none⟩), .string r471]⟩ [(B11, EngB8m0), (B12, .cells #[.pointer m01, .slice none 0 0] 60), (B20, .cells #[.int .i64 m2_0, .int .i64 m2_1, .string m2_2, .int .i64 m2_3, .int .i64 m2_4, .int .i64 m2_5, .slice m2_6_p m2_6_l m2_6_c, .int .i64 m2_7, .int .i64 m2_8] 26), (B21, .cells #[.func (.func 64) #[] #[], .bool false, .func (.func 66) #[] #[]] 84)] [] w0 (fun v L' => ∃ (r481 : Int) (r491 : Value) (F23 : SHeap), v = (.tuple #[.int .i64 r481, r491]) ∧ L' = ((B11, EngB8m0) :: (B20, .cells #[.int .i64 m2_0, .int .i64 m2_1, .string m2_2, .int .i64 m2_3, .int .i64 m2_4, .int .i64 m2_5, .slice m2_6_p m2_6_l m2_6_c, .int .i64 m2_7, .int .i64 m2_8] 26) :: (B21, .cells #[.func (.func 64) #[] #[], .bool false, .func (.func 66) #[] #[]] 84) :: F23) ∧
       CallH Tryd.prog 62 ⟨[.pointer (some ⟨B12, 0, none⟩), .int .u8 (10 : Int)]⟩ ((B11, EngB8m0) :: (B20, .cells #[.int .i64 m2_0, .int .i64 m2_1, .string m2_2, .int .i64 m2_3, .int .i64 m2_4, .int .i64 m2_5, .slice m2_6_p m2_6_l m2_6_c, .int .i64 m2_7, .int .i64 m2_8] 26) :: (B21, .cells #[.func (.func 64) #[] #[], .bool false, .func (.func 66) #[] #[]] 84) :: F23) [] w0 (fun v L' => ∃ (r501 : Value) (F24 : SHeap), v = (r501) ∧ L' = ((B11, EngB8m0) :: (B20, .cells #[.int .i64 m2_0, .int .i64 m2_1, .string m2_2, .int .i64 m2_3, .int .i64 m2_4, .int .i64 m2_5, .slice m2_6_p m2_6_l m2_6_c, .int .i64 m2_7, .int .i64 m2_8] 26) :: (B21, .cells #[.func (.func 64) #[] #[], .bool false, .func (.func 66) #[] #[]] 84) :: F24) ∧
        plain_c1 B11 B12 (some ⟨t102_pb, t102_po, none⟩) t102_l t102_c t112 (IntKind.i64.wrap (t122 + (1 : Int))) F24 w0 R)))) ∧
     ((¬ m2_1 = (1 : Int)) →
     ((m2_1 = (2 : Int)) →
      ∀ B22 : Nat,
      CallH Tryd.prog 67 ⟨[.string m2_2]⟩ [(B11, EngB8m0), (B12, .cells #[.pointer m01, .slice none 0 0] 60), (B20, .cells #[.int .i64 m2_0, .int .i64 m2_1, .string m2_2, .int .i64 m2_3, .int .i64 m2_4, .int .i64 m2_5, .slice m2_6_p m2_6_l m2_6_c, .int .i64 m2_7, .int .i64 m2_8] 26), (B22, .cells #[.func (.func 64) #[] #[], .bool false, .func (.func 67) #[] #[]] 84)] [] w0 (fun v L' => ∃ (r521 : ByteArray), v = (.string r521) ∧ L' = [(B11, EngB8m0), (B12, .cells #[.pointer m01, .slice none 0 0] 60), (B20, .cells #[.int .i64 m2_0, .int .i64 m2_1, .string m2_2, .int .i64 m2_3, .int .i64 m2_4, .int .i64 m2_5, .slice m2_6_p m2_6_l m2_6_c, .int .i64 m2_7, .int .i64 m2_8] 26), (B22, .cells #[.func (.func 64) #[] #[], .bool false, .func (.func 67) #[] #[]] 84)] ∧
       CallH Tryd.prog 50 ⟨[.pointer (some ⟨B12, 0, none⟩), .string r521]⟩ [(B11, EngB8m0), (B12, .cells #[.pointer m01, .slice none 0 0] 60), (B20, .cells #[.int .i64 m2_0, .int .i64 m2_1, .string m2_2, .int .i64 m2_3, .int .i64 m2_4, .int .i64 m2_5, .slice m2_6_p m2_6_l m2_6_c, .int .i64 m2_7, .int .i64 m2_8] 26), (B22, .cells #[.func (.func 64) #[] #[], .bool false, .func (.func 67) #[] #[]] 84)] [] w0 (fun v L' => ∃ (r531 : Int) (r541 : Value) (F25 : SHeap), v = (.tuple #[.int .i64 r531, r541]) ∧ L' = ((B11, EngB8m0) :: (B20, .cells #[.int .i64 m2_0, .int .i64 m2_1, .string m2_2, .int .i64 m2_3, .int .i64 m2_4, .int .i64 m2_5, .slice m2_6_p m2_6_l m2_6_c, .int .i64 m2_7, .int .i64 m2_8] 26) :: (B22, .cells #[.func (.func 64) #[] #[], .bool false, .func (.func 67) #[] #[]] 84) :: F25) ∧
        CallH Tryd.prog 62 ⟨[.pointer (some ⟨B12, 0, none⟩), .int .u8 (10 : Int)]⟩ ((B11, EngB8m0) :: (B20, .cells #[.int .i64 m2_0, .int .i64 m2_1, .string m2_2, .int .i64 m2_3, .int .i64 m2_4, .int .i64 m2_5, .slice m2_6_p m2_6_l m2_6_c, .int .i64 m2_7, .int .i64 m2_8] 26) :: (B22, .cells #[.func (.func 64) #[] #[], .bool false, .func (.func 67) #[] #[]] 84) :: F25) [] w0 (fun v L' => ∃ (r551 : Value) (F26 : SHeap), v = (r551) ∧ L' = ((B11, EngB8m0) :: (B20, .cells #[.int .i64 m2_0, .int .i64 m2_1, .string m2_2, .int .i64 m2_3, .int .i64 m2_4, .int .i64 m2_5, .slice m2_6_p m2_6_l m2_6_c, .int .i64 m2_7, .int .i64 m2_8] 26) :: (B22, .cells #[.func (.func 64) #[] #[], .bool false, .func (.func 67) #[] #[]] 84) :: F26) ∧
         plain_c1 B11 B12 (some ⟨t102_pb, t102_po, none⟩) t102_l t102_c t112 (IntKind.i64.wrap (t122 + (1 : Int))) F26 w0 R)))) ∧
      ((¬ m2_1 = (2 : Int)) →
      ((m2_1 = (3 : Int)) →
       ∀ B23 : Nat,
       CallH Tryd.prog 69 ⟨[.string m2_2]⟩ [(B11, EngB8m0), (B12, .cells #[.pointer m01, .slice none 0 0] 60), (B20, .cells #[.int .i64 m2_0, .int .i64 m2_1, .string m2_2, .int .i64 m2_3, .int .i64 m2_4, .int .i64 m2_5, .slice m2_6_p m2_6_l m2_6_c, .int .i64 m2_7, .int .i64 m2_8] 26), (B23, .cells #[.func (.func 65) #[] #[], .bool true, .func (.func 69) #[] #[]] 84)] [] w0 (fun v L' => ∃ (r561 : ByteArray), v = (.string r561) ∧ L' = [(B11, EngB8m0), (B12, .cells #[.pointer m01, .slice none 0 0] 60), (B20, .cells #[.int .i64 m2_0, .int .i64 m2_1, .string m2_2, .int .i64 m2_3, .int .i64 m2_4, .int .i64 m2_5, .slice m2_6_p m2_6_l m2_6_c, .int .i64 m2_7, .int .i64 m2_8] 26), (B23, .cells #[.func (.func 65) #[] #[], .bool true, .func (.func 69) #[] #[]] 84)] ∧
        CallH Tryd.prog 50 ⟨[.pointer (some ⟨B12, 0, none⟩), .string r561]⟩ [(B11, EngB8m0), (B12, .cells #[.pointer m01, .slice none 0 0] 60), (B20, .cells #[.int .i64 m2_0, .int .i64 m2_1, .string m2_2, .int .i64 m2_3, .int .i64 m2_4, .int .i64 m2_5, .slice m2_6_p m2_6_l m2_6_c, .int .i64 m2_7, .int .i64 m2_8] 26), (B23, .cells #[.func (.func 65) #[] #[], .bool true, .func (.func 69) #[] #[]] 84)] [] w0 (fun v L' => ∃ (r571 : Int) (r581 : Value) (F27 : SHeap), v = (.tuple #[.int .i64 r571, r581]) ∧ L' = ((B11, EngB8m0) :: (B20, .cells #[.int .i64 m2_0, .int .i64 m2_1, .string m2_2, .int .i64 m2_3, .int .i64 m2_4, .int .i64 m2_5, .slice m2_6_p m2_6_l m2_6_c, .int .i64 m2_7, .int .i64 m2_8] 26) :: (B23, .cells #[.func (.func 65) #[] #[], .bool true, .func (.func 69) #[] #[]] 84) :: F27) ∧
         CallH Tryd.prog 62 ⟨[.pointer (some ⟨B12, 0, none⟩), .int .u8 (10 : Int)]⟩ ((B11, EngB8m0) :: (B20, .cells #[.int .i64 m2_0, .int .i64 m2_1, .string m2_2, .int .i64 m2_3, .int .i64 m2_4, .int .i64 m2_5, .slice m2_6_p m2_6_l m2_6_c, .int .i64 m2_7, .int .i64 m2_8] 26) :: (B23, .cells #[.func (.func 65) #[] #[], .bool true, .func (.func 69) #[] #[]] 84) :: F27) [] w0 (fun v L' => ∃ (r591 : Value) (F28 : SHeap), v = (r591) ∧ L' = ((B11, EngB8m0) :: (B20, .cells #[.int .i64 m2_0, .int .i64 m2_1, .string m2_2, .int .i64 m2_3, .int .i64 m2_4, .int .i64 m2_5, .slice m2_6_p m2_6_l m2_6_c, .int .i64 m2_7, .int .i64 m2_8] 26) :: (B23, .cells #[.func (.func 65) #[] #[], .bool true, .func (.func 69) #[] #[]] 84) :: F28) ∧
          plain_c1 B11 B12 (some ⟨t102_pb, t102_po, none⟩) t102_l t102_c t112 (IntKind.i64.wrap (t122 + (1 : Int))) F28 w0 R)))) ∧
       ((¬ m2_1 = (3 : Int)) →
       ((m2_1 = (4 : Int)) →
        ∀ B24 : Nat,
        CallH Tryd.prog 70 ⟨[.string m2_2]⟩ [(B11, EngB8m0), (B12, .cells #[.pointer m01, .slice none 0 0] 60), (B20, .cells #[.int .i64 m2_0, .int .i64 m2_1, .string m2_2, .int .i64 m2_3, .int .i64 m2_4, .int .i64 m2_5, .slice m2_6_p m2_6_l m2_6_c, .int .i64 m2_7, .int .i64 m2_8] 26), (B24, .cells #[.func (.func 64) #[] #[], .bool false, .func (.func 70) #[] #[]] 84)] [] w0 (fun v L' => ∃ (r601 : ByteArray), v = (.string r601) ∧ L' = [(B11, EngB8m0), (B12, .cells #[.pointer m01, .slice none 0 0] 60), (B20, .cells #[.int .i64 m2_0, .int .i64 m2_1, .string m2_2, .int .i64 m2_3, .int .i64 m2_4, .int .i64 m2_5, .slice m2_6_p m2_6_l m2_6_c, .int .i64 m2_7, .int .i64 m2_8] 26), (B24, .cells #[.func (.func 64) #[] #[], .bool false, .func (.func 70) #[] #[]] 84)] ∧
         CallH Tryd.prog 50 ⟨[.pointer (some ⟨B12, 0, none⟩), .string r601]⟩ [(B11, EngB8m0), (B12, .cells #[.pointer m01, .slice none 0 0] 60), (B20, .cells #[.int .i64 m2_0, .int .i64 m2_1, .string m2_2, .int .i64 m2_3, .int .i64 m2_4, .int .i64 m2_5, .slice m2_6_p m2_6_l m2_6_c, .int .i64 m2_7, .int .i64 m2_8] 26), (B24, .cells #[.func (.func 64) #[] #[], .bool false, .func (.func 70) #[] #[]] 84)] [] w0 (fun v L' => ∃ (r621 : Int) (r631 : Value) (F29 : SHeap), v = (.tuple #[.int .i64 r621, r631]) ∧ L' = ((B11, EngB8m0) :: (B20, .cells #[.int .i64 m2_0, .int .i64 m2_1, .string m2_2, .int .i64 m2_3, .int .i64 m2_4, .int .i64 m2_5, .slice m2_6_p m2_6_l m2_6_c, .int .i64 m2_7, .int .i64 m2_8] 26) :: (B24, .cells #[.func (.func 64) #[] #[], .bool false, .func (.func 70) #[] #[]] 84) :: F29) ∧
          CallH Tryd.prog 62 ⟨[.pointer (some ⟨B12, 0, none⟩), .int .u8 (10 : Int)]⟩ ((B11, EngB8m0) :: (B20, .cells #[.int .i64 m2_0, .int .i64 m2_1, .string m2_2, .int .i64 m2_3, .int .i64 m2_4, .int .i64 m2_5, .slice m2_6_p m2_6_l m2_6_c, .int .i64 m2_7, .int .i64 m2_8] 26) :: (B24, .cells #[.func (.func 64) #[] #[], .bool false, .func (.func 70) #[] #[]] 84) :: F29) [] w0 (fun v L' => ∃ (r641 : Value) (F30 : SHeap), v = (r641) ∧ L' = ((B11, EngB8m0) :: (B20, .cells #[.int .i64 m2_0, .int .i64 m2_1, .string m2_2, .int .i64 m2_3, .int .i64 m2_4, .int .i64 m2_5, .slice m2_6_p m2_6_l m2_6_c, .int .i64 m2_7, .int .i64 m2_8] 26) :: (B24, .cells #[.func (.func 64) #[] #[], .bool false, .func (.func 70) #[] #[]] 84) :: F30) ∧
           plain_c1 B11 B12 (some ⟨t102_pb, t102_po, none⟩) t102_l t102_c t112 (IntKind.i64.wrap (t122 + (1 : Int))) F30 w0 R)))) ∧
        ((¬ m2_1 = (4 : Int)) →
        ((m2_1 = (5 : Int)) →
         ∀ B25 : Nat,
         CallH Tryd.prog 72 ⟨[.string m2_2]⟩ [(B11, EngB8m0), (B12, .cells #[.pointer m01, .slice none 0 0] 60), (B20, .cells #[.int .i64 m2_0, .int .i64 m2_1, .string m2_2, .int .i64 m2_3, .int .i64 m2_4, .int .i64 m2_5, .slice m2_6_p m2_6_l m2_6_c, .int .i64 m2_7, .int .i64 m2_8] 26), (B25, .cells #[.func (.func 71) #[] #[], .bool false, .func (.func 72) #[] #[]] 84)] [] w0 (fun v L' => ∃ (r651 : ByteArray), v = (.string r651) ∧ L' = [(B11, EngB8m0), (B12, .cells #[.pointer m01, .slice none 0 0] 60), (B20, .cells #[.int .i64 m2_0, .int .i64 m2_1, .string m2_2, .int .i64 m2_3, .int .i64 m2_4, .int .i64 m2_5, .slice m2_6_p m2_6_l m2_6_c, .int .i64 m2_7, .int .i64 m2_8] 26), (B25, .cells #[.func (.func 71) #[] #[], .bool false, .func (.func 72) #[] #[]] 84)] ∧
          CallH Tryd.prog 50 ⟨[.pointer (some ⟨B12, 0, none⟩), .string r651]⟩ [(B11, EngB8m0), (B12, .cells #[.pointer m01, .slice none 0 0] 60), (B20, .cells #[.int .i64 m2_0, .int .i64 m2_1, .string m2_2, .int .i64 m2_3, .int .i64 m2_4, .int .i64 m2_5, .slice m2_6_p m2_6_l m2_6_c, .int .i64 m2_7, .int .i64 m2_8] 26), (B25, .cells #[.func (.func 71) #[] #[], .bool false, .func (.func 72) #[] #[]] 84)] [] w0 (fun v L' => ∃ (r661 : Int) (r671 : Value) (F31 : SHeap), v = (.tuple #[.int .i64 r661, r671]) ∧ L' = ((B11, EngB8m0) :: (B20, .cells #[.int .i64 m2_0, .int .i64 m2_1, .string m2_2, .int .i64 m2_3, .int .i64 m2_4, .int .i64 m2_5, .slice m2_6_p m2_6_l m2_6_c, .int .i64 m2_7, .int .i64 m2_8] 26) :: (B25, .cells #[.func (.func 71) #[] #[], .bool false, .func (.func 72) #[] #[]] 84) :: F31) ∧
           CallH Tryd.prog 62 ⟨[.pointer (some ⟨B12, 0, none⟩), .int .u8 (10 : Int)]⟩ ((B11, EngB8m0) :: (B20, .cells #[.int .i64 m2_0, .int .i64 m2_1, .string m2_2, .int .i64 m2_3, .int .i64 m2_4, .int .i64 m2_5, .slice m2_6_p m2_6_l m2_6_c, .int .i64 m2_7, .int .i64 m2_8] 26) :: (B25, .cells #[.func (.func 71) #[] #[], .bool false, .func (.func 72) #[] #[]] 84) :: F31) [] w0 (fun v L' => ∃ (r681 : Value) (F32 : SHeap), v = (r681) ∧ L' = ((B11, EngB8m0) :: (B20, .cells #[.int .i64 m2_0, .int .i64 m2_1, .string m2_2, .int .i64 m2_3, .int .i64 m2_4, .int .i64 m2_5, .slice m2_6_p m2_6_l m2_6_c, .int .i64 m2_7, .int .i64 m2_8] 26) :: (B25, .cells #[.func (.func 71) #[] #[], .bool false, .func (.func 72) #[] #[]] 84) :: F32) ∧
            plain_c1 B11 B12 (some ⟨t102_pb, t102_po, none⟩) t102_l t102_c t112 (IntKind.i64.wrap (t122 + (1 : Int))) F32 w0 R)))) ∧
         ((¬ m2_1 = (5 : Int)) →
         ∀ B26 : Nat,
         plain_c2 B11 B12 (some ⟨t102_pb, t102_po, none⟩) t102_l t102_c t112 (IntKind.i64.wrap (t122 + (1 : Int))) m01 w0 R)))))) ∧
    ((¬ (t122 < t112)) →
    CallH Tryd.prog 51 ⟨[.pointer (some ⟨B12, 0, none⟩)]⟩ [(B11, EngB8m0), (B12, .cells #[.pointer m01, .slice none 0 0] 60)] [] w0 (fun v L' => ∃ (r691 : ByteArray) (F33 : SHeap), v = (.string r691) ∧ L' = ((B11, EngB8m0) :: F33) ∧
     Fin R ((B11, EngB8m0) :: F33) [] w0 (.string r691)))) :
  plain_c2 B11 B12 t102_p t102_l t102_c t112 t122 m01 w0 R := by
 unfold plain_c2
 refine AtE.run 5 (fun W => by kernel_rfl) ?_
 refine AtE.splitP 13 (p := t122 < t112) (by kernel_rfl) (fun h13' => ?_) (fun h13' => ?_)
 ·replace H := H.1 h13'
  refine AtE.run 6 (fun W => by kernel_rfl) ?_
  obtain ⟨t102_pb, t102_po, rfl, H⟩ := H
  refine AtE.indexAddrL (E := 26) (b := t102_pb) (o := t102_po) (len := t102_l) (cap := t102_c) (sz := 9) (o' := (t102_po + ((Int.toNat t122) * 9))) (kd := .i64) (i := t122) (by kernel_rfl) H.1 (by omega) ?_
  replace H := H.2
  obtain ⟨cw2, m2_0, m2_1, m2_2, m2_3, m2_4, m2_5, m2_6_p, m2_6_l, m2_6_c, m2_7, m2_8, hw, hx, H⟩ := H
  refine AtE.loadW (b := t102_pb) (off := (t102_po + ((Int.toNat t122) * 9))) (T := 26) (v := .agg #[.int .i64 m2_0, .int .i64 m2_1, .string m2_2, .int .i64 m2_3, .int .i64 m2_4, .int .i64 m2_5, .slice m2_6_p m2_6_l m2_6_c, .int .i64 m2_7, .int .i64 m2_8]) (by kernel_rfl) List.not_mem_nil hw (valAt_agg hx.1 hx.2 (by kernel_rfl) (by kernel_rfl)) ?_
  refine AtE.new (fun B => .pointer (some ⟨B, 0, none⟩)) (.cells #[.int .i64 (0 : Int), .int .i64 (0 : Int), .string (⟨#[]⟩), .int .i64 (0 : Int), .int .i64 (0 : Int), .int .i64 (0 : Int), .slice none 0 0, .int .i64 (0 : Int), .int .i64 (0 : Int)] 26) (fun W => by kernel_rfl) (by kernel_rfl) (fun B20 => ?_)
  replace H := H B20
  refine AtE.store 2 0 (T := 26) (v := .agg #[.int .i64 m2_0, .int .i64 m2_1, .string m2_2, .int .i64 m2_3, .int .i64 m2_4, .int .i64 m2_5, .slice m2_6_p m2_6_l m2_6_c, .int .i64 m2_7, .int .i64 m2_8]) (by kernel_rfl) ?_
  refine AtE.run 5 (fun W => by kernel_rfl) ?_
  refine AtE.load 2 1 (T := 3) (v := .int .i64 m2_1) (by kernel_rfl) ?_
  refine AtE.norm (k' := [.inRegion (regOps [.code (EngB8s34 [1,1,1,0,1,0,0,1,1,0,0,1,0])]) [3,4,5,6,7,8,9], .code (EngB8s34 [1,1,1,0,1,0,0,1,1,0,0,1,1]), .inBlock 1, .code (EngB8s34 [1,1,1,0,1,0,0,1,1,1]), .inLoop (EngB8s34 [1,1,1,0,1,0,0]), .inBlock 0, .code (EngB8s34 [1,1,1,1])]) (e' := [(3, .map (some B11)), (4, .pointer (some ⟨B12, 0, none⟩)), (6, .pointer (some ⟨B20, 0, none⟩)), (10, .slice (some ⟨t102_pb, t102_po, none⟩) t102_l t102_c), (11, .int .i64 t112), (12, .int .i64 t122), (17, .map (some B11)), (19, .int .i64 m2_1)]) (L' := [(B11, EngB8m0), (B12, .cells #[.pointer m01, .slice none 0 0] 60), (B20, .cells #[.int .i64 m2_0, .int .i64 m2_1, .string m2_2, .int .i64 m2_3, .int .i64 m2_4, .int .i64 m2_5, .slice m2_6_p m2_6_l m2_6_c, .int .i64 m2_7, .int .i64 m2_8] 26)]) ?_ (by kernel_rfl)
  refine AtE.look 0 (b := B11) (c := 5) (es := #[{ key := .int .i64 (1 : Int), val := .agg #[.func (.func 64) #[] #[], .bool false, .func (.func 66) #[] #[]], born := 0 }, { key := .int .i64 (2 : Int), val := .agg #[.func (.func 64) #[] #[], .bool false, .func (.func 67) #[] #[]], born := 1 }, { key := .int .i64 (3 : Int), val := .agg #[.func (.func 65) #[] #[], .bool true, .func (.func 69) #[] #[]], born := 2 }, { key := .int .i64 (4 : Int), val := .agg #[.func (.func 64) #[] #[], .bool false, .func (.func 70) #[] #[]], born := 3 }, { key := .int .i64 (5 : Int), val := .agg #[.func (.func 71) #[] #[], .bool false, .func (.func 72) #[] #[]], born := 4 }]) (kt := 3) (et := 84) (kd := .i64) (n := m2_1) (z := .agg #[.nilFunc, .bool false, .nilFunc]) (by kernel_rfl) ?_
  refine LookAll.cons (fun h14' => ?_) (fun h14' => ?_)
  ·replace H := H.1 h14'
   refine AtE.norm (k' := [.inRegion (regOps [.code (EngB8s34 [1,1,1,0,1,0,0,1,1,0,0,1,0])]) [4,5,6,7,8,9], .code (EngB8s34 [1,1,1,0,1,0,0,1,1,0,0,1,1]), .inBlock 1, .code (EngB8s34 [1,1,1,0,1,0,0,1,1,1]), .inLoop (EngB8s34 [1,1,1,0,1,0,0]), .inBlock 0, .code (EngB8s34 [1,1,1,1])]) (e' := [(3, .map (some B11)), (4, .pointer (some ⟨B12, 0, none⟩)), (6, .pointer (some ⟨B20, 0, none⟩)), (10, .slice (some ⟨t102_pb, t102_po, none⟩) t102_l t102_c), (11, .int .i64 t112), (12, .int .i64 t122), (20, .tuple #[.agg #[.func (.func 64) #[] #[], .bool false, .func (.func 66) #[] #[]], .bool true])]) (L' := [(B11, EngB8m0), (B12, .cells #[.pointer m01, .slice none 0 0] 60), (B20, .cells #[.int .i64 m2_0, .int .i64 m2_1, .string m2_2, .int .i64 m2_3, .int .i64 m2_4, .int .i64 m2_5, .slice m2_6_p m2_6_l m2_6_c, .int .i64 m2_7, .int .i64 m2_8] 26)]) ?_ (by kernel_rfl)
   refine AtE.run 3 (fun W => by kernel_rfl) ?_
   refine AtE.new (fun B => .pointer (some ⟨B, 0, none⟩)) (.cells #[.nilFunc, .bool false, .nilFunc] 84) (fun W => by kernel_rfl) (by kernel_rfl) (fun B21 => ?_)
   replace H := H B21
   refine AtE.store 3 0 (T := 84) (v := .agg #[.func (.func 64) #[] #[], .bool false, .func (.func 66) #[] #[]]) (by kernel_rfl) ?_
   refine AtE.run 10 (fun W => by kernel_rfl) ?_
   refine AtE.load 3 2 (T := 47) (v := .func (.func 66) #[] #[]) (by kernel_rfl) ?_
   refine AtE.run 1 (fun W => by kernel_rfl) ?_
   refine AtE.load 2 2 (T := 9) (v := .string m2_2) (by kernel_rfl) ?_
   refine AtE.call 66 ⟨[.string m2_2]⟩ (fun W => by kernel_rfl) (by kernel_rfl) H ?_
   clear H
   rintro _ _ ⟨r471, rfl, rfl, H⟩
   refine AtE.call 50 ⟨[.pointer (some ⟨B12, 0, none⟩), .string r471]⟩ (fun W => by kernel_rfl) (by kernel_rfl) H ?_
   clear H
   rintro _ _ ⟨r481, r491, F23, rfl, rfl, H⟩
   refine AtE.run 2 (fun W => by kernel_rfl) ?_
   refine AtE.call 62 ⟨[.pointer (some ⟨B12, 0, none⟩), .int .u8 (10 : Int)]⟩ (fun W => by kernel_rfl) (by kernel_rfl) H ?_
   clear H
   rintro _ _ ⟨r501, F24, rfl, rfl, H⟩
   refine AtE.norm (k' := [.inRegion (regOps [.code (EngB8s34 [1,1,1,0,1,0,0,1,1,0,0,1,1,1,0,1])]) [], .inBlock 1, .code (EngB8s34 [1,1,1,0,1,0,0,1,1,1]), .inLoop (EngB8s34 [1,1,1,0,1,0,0]), .inBlock 0, .code (EngB8s34 [1,1,1,1])]) (e' := [(3, .map (some B11)), (4, .pointer (some ⟨B12, 0, none⟩)), (10, .slice (some ⟨t102_pb, t102_po, none⟩) t102_l t102_c), (11, .int .i64 t112), (12, .int .i64 t122)]) (L' := ((B11, EngB8m0) :: (B20, .cells #[.int .i64 m2_0, .int .i64 m2_1, .string m2_2, .int .i64 m2_3, .int .i64 m2_4, .int .i64 m2_5, .slice m2_6_p m2_6_l m2_6_c, .int .i64 m2_7, .int .i64 m2_8] 26) :: (B21, .cells #[.func (.func 64) #[] #[], .bool false, .func (.func 66) #[] #[]] 84) :: F24)) ?_ (by kernel_rfl)
   refine AtE.run 7 (fun W => by kernel_rfl) ?_
   exact AtE.cutT [0] 3 H (by kernel_rfl)
  ·replace H := H.2 h14'
   refine LookAll.cons (fun h15' => ?_) (fun h15' => ?_)
   ·replace H := H.1 h15'
    refine AtE.norm (k' := [.inRegion (regOps [.code (EngB8s34 [1,1,1,0,1,0,0,1,1,0,0,1,0])]) [4,5,6,7,8,9], .code (EngB8s34 [1,1,1,0,1,0,0,1,1,0,0,1,1]), .inBlock 1, .code (EngB8s34 [1,1,1,0,1,0,0,1,1,1]), .inLoop (EngB8s34 [1,1,1,0,1,0,0]), .inBlock 0, .code (EngB8s34 [1,1,1,1])]) (e' := [(3, .map (some B11)), (4, .pointer (some ⟨B12, 0, none⟩)), (6, .pointer (some ⟨B20, 0, none⟩)), (10, .slice (some ⟨t102_pb, t102_po, none⟩) t102_l t102_c), (11, .int .i64 t112), (12, .int .i64 t122), (20, .tuple #[.agg #[.func (.func 64) #[] #[], .bool false, .func (.func 67) #[] #[]], .bool true])]) (L' := [(B11, EngB8m0), (B12, .cells #[.pointer m01, .slice none 0 0] 60), (B20, .cells #[.int .i64 m2_0, .int .i64 m2_1, .string m2_2, .int .i64 m2_3, .int .i64 m2_4, .int .i64 m2_5, .slice m2_6_p m2_6_l m2_6_c, .int .i64 m2_7, .int .i64 m2_8] 26)]) ?_ (by kernel_rfl)
    refine AtE.run 3 (fun W => by kernel_rfl) ?_
    refine AtE.new (fun B => .pointer (some ⟨B, 0, none⟩)) (.cells #[.nilFunc, .bool false, .nilFunc] 84) (fun W => by kernel_rfl) (by kernel_rfl) (fun B22 => ?_)
    replace H := H B22
    refine AtE.store 3 0 (T := 84) (v := .agg #[.func (.func 64) #[] #[], .bool false, .func (.func 67) #[] #[]]) (by kernel_rfl) ?_
    refine AtE.run 10 (fun W => by kernel_rfl) ?_
    refine AtE.load 3 2 (T := 47) (v := .func (.func 67) #[] #[]) (by kernel_rfl) ?_
    refine AtE.run 1 (fun W => by kernel_rfl) ?_
    refine AtE.load 2 2 (T := 9) (v := .string m2_2) (by kernel_rfl) ?_
    refine AtE.call 67 ⟨[.string m2_2]⟩ (fun W => by kernel_rfl) (by kernel_rfl) H ?_
    clear H
    rintro _ _ ⟨r521, rfl, rfl, H⟩
    refine AtE.call 50 ⟨[.pointer (some ⟨B12, 0, none⟩), .string r521]⟩ (fun W => by kernel_rfl) (by kernel_rfl) H ?_
    clear H
    rintro _ _ ⟨r531, r541, F25, rfl, rfl, H⟩
    refine AtE.run 2 (fun W => by kernel_rfl) ?_
    refine AtE.call 62 ⟨[.pointer (some ⟨B12, 0, none⟩), .int .u8 (10 : Int)]⟩ (fun W => by kernel_rfl) (by kernel_rfl) H ?_
    clear H
    rintro _ _ ⟨r551, F26, rfl, rfl, H⟩
    refine AtE.norm (k' := [.inRegion (regOps [.code (EngB8s34 [1,1,1,0,1,0,0,1,1,0,0,1,1,1,0,1])]) [], .inBlock 1, .code (EngB8s34 [1,1,1,0,1,0,0,1,1,1]), .inLoop (EngB8s34 [1,1,1,0,1,0,0]), .inBlock 0, .code (EngB8s34 [1,1,1,1])]) (e' := [(3, .map (some B11)), (4, .pointer (some ⟨B12, 0, none⟩)), (10, .slice (some ⟨t102_pb, t102_po, none⟩) t102_l t102_c), (11, .int .i64 t112), (12, .int .i64 t122)]) (L' := ((B11, EngB8m0) :: (B20, .cells #[.int .i64 m2_0, .int .i64 m2_1, .string m2_2, .int .i64 m2_3, .int .i64 m2_4, .int .i64 m2_5, .slice m2_6_p m2_6_l m2_6_c, .int .i64 m2_7, .int .i64 m2_8] 26) :: (B22, .cells #[.func (.func 64) #[] #[], .bool false, .func (.func 67) #[] #[]] 84) :: F26)) ?_ (by kernel_rfl)
    refine AtE.run 7 (fun W => by kernel_rfl) ?_
    exact AtE.cutT [0] 3 H (by kernel_rfl)
   ·replace H := H.2 h15'
    refine LookAll.cons (fun h16' => ?_) (fun h16' => ?_)
    ·replace H := H.1 h16'
     refine AtE.norm (k' := [.inRegion (regOps [.code (EngB8s34 [1,1,1,0,1,0,0,1,1,0,0,1,0])]) [4,5,6,7,8,9], .code (EngB8s34 [1,1,1,0,1,0,0,1,1,0,0,1,1]), .inBlock 1, .code (EngB8s34 [1,1,1,0,1,0,0,1,1,1]), .inLoop (EngB8s34 [1,1,1,0,1,0,0]), .inBlock 0, .code (EngB8s34 [1,1,1,1])]) (e' := [(3, .map (some B11)), (4, .pointer (some ⟨B12, 0, none⟩)), (6, .pointer (some ⟨B20, 0, none⟩)), (10, .slice (some ⟨t102_pb, t102_po, none⟩) t102_l t102_c), (11, .int .i64 t112), (12, .int .i64 t122), (20, .tuple #[.agg #[.func (.func 65) #[] #[], .bool true, .func (.func 69) #[] #[]], .bool true])]) (L' := [(B11, EngB8m0), (B12, .cells #[.pointer m01, .slice none 0 0] 60), (B20, .cells #[.int .i64 m2_0, .int .i64 m2_1, .string m2_2, .int .i64 m2_3, .int .i64 m2_4, .int .i64 m2_5, .slice m2_6_p m2_6_l m2_6_c, .int .i64 m2_7, .int .i64 m2_8] 26)]) ?_ (by kernel_rfl)
     refine AtE.run 3 (fun W => by kernel_rfl) ?_
     refine AtE.new (fun B => .pointer (some ⟨B, 0, none⟩)) (.cells #[.nilFunc, .bool false, .nilFunc] 84) (fun W => by kernel_rfl) (by kernel_rfl) (fun B23 => ?_)
     replace H := H B23
     refine AtE.store 3 0 (T := 84) (v := .agg #[.func (.func 65) #[] #[], .bool true, .func (.func 69) #[] #[]]) (by kernel_rfl) ?_
     refine AtE.run 10 (fun W => by kernel_rfl) ?_
     refine AtE.load 3 2 (T := 47) (v := .func (.func 69) #[] #[]) (by kernel_rfl) ?_
     refine AtE.run 1 (fun W => by kernel_rfl) ?_
     refine AtE.load 2 2 (T := 9) (v := .string m2_2) (by kernel_rfl) ?_
     refine AtE.call 69 ⟨[.string m2_2]⟩ (fun W => by kernel_rfl) (by kernel_rfl) H ?_
     clear H
     rintro _ _ ⟨r561, rfl, rfl, H⟩
     refine AtE.call 50 ⟨[.pointer (some ⟨B12, 0, none⟩), .string r561]⟩ (fun W => by kernel_rfl) (by kernel_rfl) H ?_
     clear H
     rintro _ _ ⟨r571, r581, F27, rfl, rfl, H⟩
     refine AtE.run 2 (fun W => by kernel_rfl) ?_
     refine AtE.call 62 ⟨[.pointer (some ⟨B12, 0, none⟩), .int .u8 (10 : Int)]⟩ (fun W => by kernel_rfl) (by kernel_rfl) H ?_
     clear H
     rintro _ _ ⟨r591, F28, rfl, rfl, H⟩
     refine AtE.norm (k' := [.inRegion (regOps [.code (EngB8s34 [1,1,1,0,1,0,0,1,1,0,0,1,1,1,0,1])]) [], .inBlock 1, .code (EngB8s34 [1,1,1,0,1,0,0,1,1,1]), .inLoop (EngB8s34 [1,1,1,0,1,0,0]), .inBlock 0, .code (EngB8s34 [1,1,1,1])]) (e' := [(3, .map (some B11)), (4, .pointer (some ⟨B12, 0, none⟩)), (10, .slice (some ⟨t102_pb, t102_po, none⟩) t102_l t102_c), (11, .int .i64 t112), (12, .int .i64 t122)]) (L' := ((B11, EngB8m0) :: (B20, .cells #[.int .i64 m2_0, .int .i64 m2_1, .string m2_2, .int .i64 m2_3, .int .i64 m2_4, .int .i64 m2_5, .slice m2_6_p m2_6_l m2_6_c, .int .i64 m2_7, .int .i64 m2_8] 26) :: (B23, .cells #[.func (.func 65) #[] #[], .bool true, .func (.func 69) #[] #[]] 84) :: F28)) ?_ (by kernel_rfl)
     refine AtE.run 7 (fun W => by kernel_rfl) ?_
     exact AtE.cutT [0] 3 H (by kernel_rfl)
    ·replace H := H.2 h16'
     refine LookAll.cons (fun h17' => ?_) (fun h17' => ?_)
     ·replace H := H.1 h17'
      refine AtE.norm (k' := [.inRegion (regOps [.code (EngB8s34 [1,1,1,0,1,0,0,1,1,0,0,1,0])]) [4,5,6,7,8,9], .code (EngB8s34 [1,1,1,0,1,0,0,1,1,0,0,1,1]), .inBlock 1, .code (EngB8s34 [1,1,1,0,1,0,0,1,1,1]), .inLoop (EngB8s34 [1,1,1,0,1,0,0]), .inBlock 0, .code (EngB8s34 [1,1,1,1])]) (e' := [(3, .map (some B11)), (4, .pointer (some ⟨B12, 0, none⟩)), (6, .pointer (some ⟨B20, 0, none⟩)), (10, .slice (some ⟨t102_pb, t102_po, none⟩) t102_l t102_c), (11, .int .i64 t112), (12, .int .i64 t122), (20, .tuple #[.agg #[.func (.func 64) #[] #[], .bool false, .func (.func 70) #[] #[]], .bool true])]) (L' := [(B11, EngB8m0), (B12, .cells #[.pointer m01, .slice none 0 0] 60), (B20, .cells #[.int .i64 m2_0, .int .i64 m2_1, .string m2_2, .int .i64 m2_3, .int .i64 m2_4, .int .i64 m2_5, .slice m2_6_p m2_6_l m2_6_c, .int .i64 m2_7, .int .i64 m2_8] 26)]) ?_ (by kernel_rfl)
      refine AtE.run 3 (fun W => by kernel_rfl) ?_
      refine AtE.new (fun B => .pointer (some ⟨B, 0, none⟩)) (.cells #[.nilFunc, .bool false, .nilFunc] 84) (fun W => by kernel_rfl) (by kernel_rfl) (fun B24 => ?_)
      replace H := H B24
      refine AtE.store 3 0 (T := 84) (v := .agg #[.func (.func 64) #[] #[], .bool false, .func (.func 70) #[] #[]]) (by kernel_rfl) ?_
      refine AtE.run 10 (fun W => by kernel_rfl) ?_
      refine AtE.load 3 2 (T := 47) (v := .func (.func 70) #[] #[]) (by kernel_rfl) ?_
      refine AtE.run 1 (fun W => by kernel_rfl) ?_
      refine AtE.load 2 2 (T := 9) (v := .string m2_2) (by kernel_rfl) ?_
      refine AtE.call 70 ⟨[.string m2_2]⟩ (fun W => by kernel_rfl) (by kernel_rfl) H ?_
      clear H
      rintro _ _ ⟨r601, rfl, rfl, H⟩
      refine AtE.call 50 ⟨[.pointer (some ⟨B12, 0, none⟩), .string r601]⟩ (fun W => by kernel_rfl) (by kernel_rfl) H ?_
      clear H
      rintro _ _ ⟨r621, r631, F29, rfl, rfl, H⟩
      refine AtE.run 2 (fun W => by kernel_rfl) ?_
      refine AtE.call 62 ⟨[.pointer (some ⟨B12, 0, none⟩), .int .u8 (10 : Int)]⟩ (fun W => by kernel_rfl) (by kernel_rfl) H ?_
      clear H
      rintro _ _ ⟨r641, F30, rfl, rfl, H⟩
      refine AtE.norm (k' := [.inRegion (regOps [.code (EngB8s34 [1,1,1,0,1,0,0,1,1,0,0,1,1,1,0,1])]) [], .inBlock 1, .code (EngB8s34 [1,1,1,0,1,0,0,1,1,1]), .inLoop (EngB8s34 [1,1,1,0,1,0,0]), .inBlock 0, .code (EngB8s34 [1,1,1,1])]) (e' := [(3, .map (some B11)), (4, .pointer (some ⟨B12, 0, none⟩)), (10, .slice (some ⟨t102_pb, t102_po, none⟩) t102_l t102_c), (11, .int .i64 t112), (12, .int .i64 t122)]) (L' := ((B11, EngB8m0) :: (B20, .cells #[.int .i64 m2_0, .int .i64 m2_1, .string m2_2, .int .i64 m2_3, .int .i64 m2_4, .int .i64 m2_5, .slice m2_6_p m2_6_l m2_6_c, .int .i64 m2_7, .int .i64 m2_8] 26) :: (B24, .cells #[.func (.func 64) #[] #[], .bool false, .func (.func 70) #[] #[]] 84) :: F30)) ?_ (by kernel_rfl)
      refine AtE.run 7 (fun W => by kernel_rfl) ?_
      exact AtE.cutT [0] 3 H (by kernel_rfl)
     ·replace H := H.2 h17'
      refine LookAll.cons (fun h18' => ?_) (fun h18' => ?_)
      ·replace H := H.1 h18'
       refine AtE.norm (k' := [.inRegion (regOps [.code (EngB8s34 [1,1,1,0,1,0,0,1,1,0,0,1,0])]) [4,5,6,7,8,9], .code (EngB8s34 [1,1,1,0,1,0,0,1,1,0,0,1,1]), .inBlock 1, .code (EngB8s34 [1,1,1,0,1,0,0,1,1,1]), .inLoop (EngB8s34 [1,1,1,0,1,0,0]), .inBlock 0, .code (EngB8s34 [1,1,1,1])]) (e' := [(3, .map (some B11)), (4, .pointer (some ⟨B12, 0, none⟩)), (6, .pointer (some ⟨B20, 0, none⟩)), (10, .slice (some ⟨t102_pb, t102_po, none⟩) t102_l t102_c), (11, .int .i64 t112), (12, .int .i64 t122), (20, .tuple #[.agg #[.func (.func 71) #[] #[], .bool false, .func (.func 72) #[] #[]], .bool true])]) (L' := [(B11, EngB8m0), (B12, .cells #[.pointer m01, .slice none 0 0] 60), (B20, .cells #[.int .i64 m2_0, .int .i64 m2_1, .string m2_2, .int .i64 m2_3, .int .i64 m2_4, .int .i64 m2_5, .slice m2_6_p m2_6_l m2_6_c, .int .i64 m2_7, .int .i64 m2_8] 26)]) ?_ (by kernel_rfl)
       refine AtE.run 3 (fun W => by kernel_rfl) ?_
       refine AtE.new (fun B => .pointer (some ⟨B, 0, none⟩)) (.cells #[.nilFunc, .bool false, .nilFunc] 84) (fun W => by kernel_rfl) (by kernel_rfl) (fun B25 => ?_)
       replace H := H B25
       refine AtE.store 3 0 (T := 84) (v := .agg #[.func (.func 71) #[] #[], .bool false, .func (.func 72) #[] #[]]) (by kernel_rfl) ?_
       refine AtE.run 10 (fun W => by kernel_rfl) ?_
       refine AtE.load 3 2 (T := 47) (v := .func (.func 72) #[] #[]) (by kernel_rfl) ?_
       refine AtE.run 1 (fun W => by kernel_rfl) ?_
       refine AtE.load 2 2 (T := 9) (v := .string m2_2) (by kernel_rfl) ?_
       refine AtE.call 72 ⟨[.string m2_2]⟩ (fun W => by kernel_rfl) (by kernel_rfl) H ?_
       clear H
       rintro _ _ ⟨r651, rfl, rfl, H⟩
       refine AtE.call 50 ⟨[.pointer (some ⟨B12, 0, none⟩), .string r651]⟩ (fun W => by kernel_rfl) (by kernel_rfl) H ?_
       clear H
       rintro _ _ ⟨r661, r671, F31, rfl, rfl, H⟩
       refine AtE.run 2 (fun W => by kernel_rfl) ?_
       refine AtE.call 62 ⟨[.pointer (some ⟨B12, 0, none⟩), .int .u8 (10 : Int)]⟩ (fun W => by kernel_rfl) (by kernel_rfl) H ?_
       clear H
       rintro _ _ ⟨r681, F32, rfl, rfl, H⟩
       refine AtE.norm (k' := [.inRegion (regOps [.code (EngB8s34 [1,1,1,0,1,0,0,1,1,0,0,1,1,1,0,1])]) [], .inBlock 1, .code (EngB8s34 [1,1,1,0,1,0,0,1,1,1]), .inLoop (EngB8s34 [1,1,1,0,1,0,0]), .inBlock 0, .code (EngB8s34 [1,1,1,1])]) (e' := [(3, .map (some B11)), (4, .pointer (some ⟨B12, 0, none⟩)), (10, .slice (some ⟨t102_pb, t102_po, none⟩) t102_l t102_c), (11, .int .i64 t112), (12, .int .i64 t122)]) (L' := ((B11, EngB8m0) :: (B20, .cells #[.int .i64 m2_0, .int .i64 m2_1, .string m2_2, .int .i64 m2_3, .int .i64 m2_4, .int .i64 m2_5, .slice m2_6_p m2_6_l m2_6_c, .int .i64 m2_7, .int .i64 m2_8] 26) :: (B25, .cells #[.func (.func 71) #[] #[], .bool false, .func (.func 72) #[] #[]] 84) :: F32)) ?_ (by kernel_rfl)
       refine AtE.run 7 (fun W => by kernel_rfl) ?_
       exact AtE.cutT [0] 3 H (by kernel_rfl)
      ·replace H := H.2 h18'
       refine AtE.norm (k' := [.inRegion (regOps [.code (EngB8s34 [1,1,1,0,1,0,0,1,1,0,0,1,0])]) [4,5,6,7,8,9], .code (EngB8s34 [1,1,1,0,1,0,0,1,1,0,0,1,1]), .inBlock 1, .code (EngB8s34 [1,1,1,0,1,0,0,1,1,1]), .inLoop (EngB8s34 [1,1,1,0,1,0,0]), .inBlock 0, .code (EngB8s34 [1,1,1,1])]) (e' := [(3, .map (some B11)), (4, .pointer (some ⟨B12, 0, none⟩)), (6, .pointer (some ⟨B20, 0, none⟩)), (10, .slice (some ⟨t102_pb, t102_po, none⟩) t102_l t102_c), (11, .int .i64 t112), (12, .int .i64 t122), (20, .tuple #[.agg #[.nilFunc, .bool false, .nilFunc], .bool false])]) (L' := [(B11, EngB8m0), (B12, .cells #[.pointer m01, .slice none 0 0] 60), (B20, .cells #[.int .i64 m2_0, .int .i64 m2_1, .string m2_2, .int .i64 m2_3, .int .i64 m2_4, .int .i64 m2_5, .slice m2_6_p m2_6_l m2_6_c, .int .i64 m2_7, .int .i64 m2_8] 26)]) ?_ (by kernel_rfl)
       refine AtE.run 3 (fun W => by kernel_rfl) ?_
       refine AtE.new (fun B => .pointer (some ⟨B, 0, none⟩)) (.cells #[.nilFunc, .bool false, .nilFunc] 84) (fun W => by kernel_rfl) (by kernel_rfl) (fun B26 => ?_)
       replace H := H B26
       refine AtE.store 3 0 (T := 84) (v := .agg #[.nilFunc, .bool false, .nilFunc]) (by kernel_rfl) ?_
       refine AtE.run 14 (fun W => by kernel_rfl) ?_
       exact AtE.cut [0,1] H (by kernel_rfl)
 ·replace H := H.2 h13'
  refine AtE.run 4 (fun W => by kernel_rfl) ?_
  refine AtE.call 51 ⟨[.pointer (some ⟨B12, 0, none⟩)]⟩ (fun W => by kernel_rfl) (by kernel_rfl) H ?_
  clear H
  rintro _ _ ⟨r691, F33, rfl, rfl, H⟩
  refine AtE.run 2 (fun W => by kernel_rfl) ?_
  exact AtE.ret Tryd.func34 (by kernel_rfl) H
theorem plain_vc (l_p : Option Addr) (l_l : Nat) (l_c : Nat) {R : Ending → World → Prop} {w0 W : World} (hm : Mem [] [] w0 W)
  (H :
   CallH Tryd.prog 41 ⟨[]⟩ [] [] w0 (fun v L' => ∃ (mb : Nat), v = (.map (some mb)) ∧ L' = [(mb, EngB8m0)] ∧
    ∀ B : Nat,
    plain_c0 mb B l_p l_l l_c (l_l : Int) (0 : Int) none w0 R)) :
  Calls Tryd.prog 34 ⟨[.slice l_p l_l l_c]⟩ W R := by
 refine AtE.calls (nt := 33) Tryd.func34 (by kernel_rfl) hm ?_
 refine AtE.run 6 (fun W => by kernel_rfl) ?_
 refine AtE.call 41 ⟨[]⟩ (fun W => by kernel_rfl) (by kernel_rfl) H ?_
 clear H
 rintro _ _ ⟨mb, rfl, rfl, H⟩
 refine AtE.run 4 (fun W => by kernel_rfl) ?_
 refine AtE.new (fun B => .pointer (some ⟨B, 0, none⟩)) (.cells #[.pointer none, .slice none 0 0] 60) (fun W => by kernel_rfl) (by kernel_rfl) (fun B => ?_)
 replace H := H B
 refine AtE.run 10 (fun W => by kernel_rfl) ?_
 exact AtE.cut [0,1] H (by kernel_rfl)
end Go.Eng
namespace Go.Eng
open Go Go.RowKit Go.Proofs Wire
set_option linter.unusedVariables false
abbrev ba (l : List UInt8) : ByteArray := ⟨l.toArray⟩
theorem ba_append (a b : List UInt8) : ba a ++ ba b = ba (a ++ b) := bts_inj (by rw [bts_append, bts_mk, bts_mk, bts_mk])
theorem ba_size (a : List UInt8) : (ba a).size = a.length := by rw [← bts_len, bts_mk]
theorem encB_ba (n : Int) : encB n = ba (enc n) := bts_inj (by rw [encB_bts, bts_mk])
theorem encSB_ba (s : ByteArray) : encSB s = ba (encS (bts s)) := bts_inj (by rw [encSB_bts, bts_mk])
theorem encS_len (t : List UInt8) : (encS t).length ≤ t.length + 10 := by
  unfold encS; rw [List.length_append]; have := enc_len t.length; omega
def encIs (l : List Int) : List UInt8 := l.flatMap enc
def Blk.enc (b : Blk) : List UInt8 :=
  Wire.enc b.id ++ (Wire.enc b.kind ++ (encS (bts b.text) ++ (Wire.enc b.story ++ (Wire.enc b.ref ++ (Wire.enc b.lab.unt ++ (Wire.enc b.lab.after.length ++ (encIs b.lab.after ++ (Wire.enc b.lab.appr ++ Wire.enc b.lab.den))))))))
def encBs (l : List Blk) : List UInt8 := l.flatMap Blk.enc
def encL (l : List Blk) : List UInt8 := Wire.enc (l.length : Int) ++ encBs l
def encAns (l : List Blk) : Value := if listOk l = true then .tuple #[.string (ba (encL l)), .int .i64 0] else .tuple #[.string ⟨#[]⟩, .int .i64 30]
theorem asc_spec : ∀ (l : List Int) (last : Int), ascOk last l = true → 0 ≤ last → last ≤ 64 → last + l.length ≤ 64 ∧ ∀ x ∈ l, last < x ∧ x ≤ 64
  | [], last, _, h0, h1 => ⟨by simpa using h1, by simp⟩
  | x :: r, last, h, h0, h1 => by
    simp only [ascOk, Bool.and_eq_true, decide_eq_true_eq] at h
    obtain ⟨⟨h2, h3⟩, h4⟩ := h
    obtain ⟨h5, h6⟩ := asc_spec r x h4 (by omega) h3
    refine ⟨by simp only [List.length_cons]; omega, fun y hy => ?_⟩
    rcases List.mem_cons.1 hy with rfl | hy
    · omega
    · have := h6 y hy; omega
structure Blk.Good (b : Blk) : Prop where
  id : 1 ≤ b.id ∧ b.id ≤ 1000
  kind : 1 ≤ b.kind ∧ b.kind ≤ 5
  text : b.text.size ≤ 300
  story : 0 ≤ b.story ∧ b.story ≤ 64
  ref : 0 ≤ b.ref ∧ b.ref ≤ 1000
  unt : 0 ≤ b.lab.unt ∧ b.lab.unt ≤ 1000000000
  appr : 0 ≤ b.lab.appr ∧ b.lab.appr ≤ 5
  den : 0 ≤ b.lab.den ∧ b.lab.den ≤ 15
  len : b.lab.after.length ≤ 64
  after : ∀ x ∈ b.lab.after, 0 < x ∧ x ≤ 64
theorem Blk.good {b : Blk} (h : b.ok = true) : b.Good := by
  simp only [Blk.ok, Bool.and_eq_true, decide_eq_true_eq] at h
  obtain ⟨hid, hl, hk⟩ := h
  simp only [Lab.ok, Bool.and_eq_true, decide_eq_true_eq] at hl
  obtain ⟨hl, ha⟩ := hl
  obtain ⟨h1, h2⟩ := asc_spec _ _ ha (by omega) (by omega)
  have hkk : (1 ≤ b.kind ∧ b.kind ≤ 5) ∧ b.text.size ≤ 300 ∧ (0 ≤ b.story ∧ b.story ≤ 64) ∧ 0 ≤ b.ref ∧ b.ref ≤ 1000 := by
    unfold Blk.kindOk at hk
    simp only [fillOk, txtOk, nameOk, Blk.noRef] at hk
    repeat' split at hk
    all_goals simp only [Bool.and_eq_true, decide_eq_true_eq, Bool.false_eq_true] at hk
    all_goals omega
  exact ⟨hid, hkk.1, hkk.2.1, hkk.2.2.1, hkk.2.2.2, by omega, by omega, by omega, by omega, h2⟩
theorem listGo_all : ∀ (l seen : List Blk), listGo seen l = true → ∀ b ∈ l, b.ok = true
  | [], _, _, _, hb => by cases hb
  | x :: r, seen, h, b, hb => by
    simp only [listGo, Bool.and_eq_true] at h
    rcases List.mem_cons.1 hb with rfl | hb
    · exact h.1
    · exact listGo_all r _ h.2.2 b hb
theorem listOk_all {l : List Blk} (h : listOk l = true) : l.length ≤ 24 ∧ ∀ b ∈ l, b.ok = true := by
  simp only [listOk, Bool.and_eq_true, decide_eq_true_eq] at h
  exact ⟨h.1, listGo_all l _ h.2⟩
theorem encIs_len (l : List Int) : (encIs l).length ≤ 10 * l.length := by
  induction l with
  | nil => simp [encIs]
  | cons x r ih => simp only [encIs, List.flatMap_cons, List.length_append, List.length_cons] at *; have := enc_len x; omega
theorem encBlk_len {b : Blk} (h : b.Good) : b.enc.length ≤ 1040 := by
  have h1 := encS_len (bts b.text)
  rw [bts_len] at h1
  have h2 := encIs_len b.lab.after
  have := h.text; have := h.len
  unfold Blk.enc
  simp only [List.length_append]
  have := enc_len b.id; have := enc_len b.kind; have := enc_len b.story; have := enc_len b.ref; have := enc_len b.lab.unt; have := enc_len (b.lab.after.length : Int); have := enc_len b.lab.appr; have := enc_len b.lab.den
  omega
theorem encBs_len : ∀ (l : List Blk), (∀ b ∈ l, b.ok = true) → (encBs l).length ≤ 1040 * l.length
  | [], _ => by simp [encBs]
  | b :: r, h => by
    have ih := encBs_len r (fun x hx => h x (by simp [hx]))
    have := encBlk_len (Blk.good (h b (by simp)))
    simp only [encBs, List.flatMap_cons, List.length_append, List.length_cons] at *
    omega
theorem encBs_take {l : List Blk} {i : Nat} (h : i < l.length) : encBs (l.take (i + 1)) = encBs (l.take i) ++ l[i].enc := by
  have e : l.take (i + 1) = l.take i ++ [l[i]] := by rw [List.take_add_one, List.getElem?_eq_getElem h]; rfl
  rw [e, encBs, List.flatMap_append, List.flatMap_cons, List.flatMap_nil, List.append_nil]; rfl
theorem encIs_take {l : List Int} {i : Nat} (h : i < l.length) : encIs (l.take (i + 1)) = encIs (l.take i) ++ Wire.enc l[i] := by
  have e : l.take (i + 1) = l.take i ++ [l[i]] := by rw [List.take_add_one, List.getElem?_eq_getElem h]; rfl
  rw [e, encIs, List.flatMap_append, List.flatMap_cons, List.flatMap_nil, List.append_nil]; rfl
theorem okI {n : Int} (h : -1000000000000 ≤ n ∧ n ≤ 1000000000000) : okInt n := by unfold okInt maxInt; omega
theorem putI {n : Int} (h : okInt n) : PureC Tryd.prog 74 ⟨[.int .i64 n]⟩ (.tuple #[.string (ba (Wire.enc n)), .int .i64 0]) := by
  have := PutInt_c n
  rw [putAns, if_pos h, encB_ba] at this
  exact this
theorem putS {s : ByteArray} (h : s.size ≤ 65536) : PureC Tryd.prog 49 ⟨[.string s]⟩ (.tuple #[.string (ba (encS (bts s))), .int .i64 0]) := by
  have := PutString_c s
  rw [putSAns, if_pos h, encSB_ba] at this
  exact this
theorem CallH.effF {P : Program} {S : List Nat} {w0 : World} {g : FuncId} {args : Array Value} {F : SHeap} {K K' : Value → SHeap → Prop} (h : EffC P g args F K) (hK : ∀ v F', K v F' → K' v F') : CallH P g args F S w0 K' :=
  CallH.eff (L1 := []) h (by simp) fun v L' hk => ⟨L', by simp, hK v L' hk⟩
theorem CallH.effT {P : Program} {S : List Nat} {w0 : World} {g : FuncId} {args : Array Value} {F : SHeap} {K K' : Value → SHeap → Prop} (told : SHeap) (h : EffC P g args F K) (hK : ∀ v F', K v F' → K' v (told ++ F')) : CallH P g args (told ++ F) S w0 K' :=
  CallH.eff (L1 := told) h List.perm_append_comm fun v L' hk => ⟨told ++ L', List.perm_append_comm, hK v L' hk⟩
theorem CallH.effWT {P : Program} {S : List Nat} {w0 : World} {g : FuncId} {args : Array Value} {F : SHeap} {Pre : World → Prop} {K K' : Value → SHeap → Prop} (told : SHeap) (h : EffW P g args F Pre K) (hpre : ∀ W, Mem (told ++ F) S w0 W → Pre W) (hK : ∀ v F', K v F' → K' v (told ++ F')) : CallH P g args (told ++ F) S w0 K' :=
  CallH.effW (L1 := told) h hpre List.perm_append_comm fun v L' hk => ⟨told ++ L', List.perm_append_comm, hK v L' hk⟩
def lkX (S : List Nat) (w : World) : Lk := fun b c => b ∉ S ∧ blkW w b = some c
theorem lkX_of {told F : SHeap} {w0 W : World} (hm : Mem (told ++ F) [] w0 W) : ∀ b c, lkM told w0 b c → lkX (F.map (·.1)) W b c := by
  rintro b c (⟨t, fz, h⟩ | h)
  · refine ⟨fun hb => ?_, ?_⟩
    · have hnd := hm.nodup
      rw [List.map_append, List.nodup_append] at hnd
      exact hnd.2.2 b (List.mem_map_of_mem h) b hb rfl
    · have := hm.here _ (List.mem_append_left F h)
      simp only at this
      simp [blkW, this]
  · refine ⟨fun hb => ?_, lkW_kept hm b c h⟩
    obtain ⟨q, hq, rfl⟩ := List.mem_map.1 hb
    have h1 := hm.own q (List.mem_append_right told hq)
    simp only [List.not_mem_nil, or_false] at h1
    unfold lkW blkW at h
    rw [Array.getElem?_eq_none h1] at h
    cases h
theorem ints_told {told : SHeap} {w0 : World} {B : Nat} {ns : List Int} {t : TypeId} (h : (B, Obj.cells ⟨ns.map (.int .i64)⟩ t) ∈ told) : IntsL (lkM told w0) (some ⟨B, 0, none⟩) ns := by
  intro _
  refine ⟨B, 0, ns.map (.int .i64), rfl, .inl ⟨t, _, h⟩, fun i hi => ?_⟩
  rw [Nat.zero_add, List.getElem?_map, List.getElem?_eq_getElem hi]; rfl
theorem putInts_loop {w0 : World} {S : List Nat} {B : Nat} {p : Option Addr} {c : Nat} {ns : List Int} (hp : IntsL (lkX S w0) p ns) (hok : ∀ x ∈ ns, okInt x) (hn : ns.length ≤ 1000000) {l : List UInt8} (hl : l.length ≤ 1000000000) :
    ∀ (g i : Nat) (F : SHeap), g + i = ns.length → BRep B (l ++ encIs (ns.take i)) F →
      putInts_c0 B p ns.length c (ns.length : Int) (i : Int) F S w0 (fun e W' => ∃ v L', e = .returned v ∧ Mem L' S w0 W' ∧ v = .tuple #[] ∧ BRep B (l ++ encIs ns) L')
  | 0, i, F, hg, hF => by
    apply putInts_c0_vc
    refine no (by omega) (dkFin ⟨rfl, ?_⟩)
    rw [List.take_of_length_le (by omega)] at hF
    exact hF
  | g + 1, i, F, hg, hF => by
    apply putInts_c0_vc
    have hi : i < ns.length := by omega
    obtain ⟨b, o, cc, rfl, e2, e3⟩ := hp.get hi
    refine yes (by omega) ⟨b, o, rfl, by omega, cc, ns[i], e2.1, e2.2, by simpa using e3, ?_⟩
    refine CallH.pure (putI (hok _ (List.getElem_mem hi))) ⟨_, _, rfl, rfl, ?_⟩
    have h1 := encIs_len (ns.take i)
    rw [List.length_take] at h1
    have h2 := enc_len ns[i]
    refine CallH.effF (write_e hF (by rw [List.length_append, ba_size]; omega)) fun v F' ⟨hv, hF'⟩ => ⟨_, _, F', hv, rfl, ?_⟩
    rw [wi64 (by omega), show (i : Int) + 1 = ((i + 1 : Nat) : Int) by omega]
    refine putInts_loop hp hok hn hl g (i + 1) F' (by omega) ?_
    rw [encIs_take hi, ← List.append_assoc]
    rwa [bts_mk] at hF'
theorem putInts_e {B : Nat} {p : Option Addr} {c : Nat} {ns : List Int} (hok : ∀ x ∈ ns, okInt x) (hn : ns.length ≤ 1000000) {l : List UInt8} (hl : l.length ≤ 1000000000) {F : SHeap} (hF : BRep B l F) :
    EffW Tryd.prog 48 ⟨[.pointer (some ⟨B, 0, none⟩), .slice p ns.length c]⟩ F (fun W => IntsL (lkX (F.map (·.1)) W) p ns) (fun v F' => v = .tuple #[] ∧ BRep B (l ++ encIs ns) F') := by
  intro W hm hp
  refine putInts_vc B p ns.length c F hm (putInts_loop hp hok hn hl ns.length 0 F (by omega) ?_)
  simpa [encIs] using hF
theorem enc_parts (b : Blk) (p : List UInt8) : p ++ encIs [b.id, b.kind] ++ encS (bts b.text) ++ encIs [b.story, b.ref, b.lab.unt, (b.lab.after.length : Int)] ++ encIs b.lab.after ++ encIs [b.lab.appr, b.lab.den] = p ++ b.enc := by
  simp [Blk.enc, encIs]
theorem encode_loop {w0 : World} {B : Nat} {p : Option Addr} {c : Nat} {l : List Blk} (hl : BlksL (lkW w0) p l) (hok : listOk l = true) :
    ∀ (g i : Nat) (F : SHeap), g + i = l.length → BRep B (Wire.enc (l.length : Int) ++ encBs (l.take i)) F →
      encode_c0 B p l.length c (l.length : Int) (i : Int) F w0 (fun e W' => e = .returned (encAns l) ∧ Below w0.heap.size w0 W')
  | 0, i, F, hg, hF => by
    apply encode_c0_vc
    rw [List.take_of_length_le (by omega)] at hF
    have h1 := encBs_len l (listOk_all hok).2
    have h2 := enc_len (l.length : Int)
    have h3 := (listOk_all hok).1
    refine no (by omega) (CallH.effF (string_e hF (by rw [List.length_append]; omega)) fun v F' hv => ⟨_, F', hv, rfl, finPW ?_⟩)
    rw [encAns, if_pos hok]; rfl
  | g + 1, i, F, hg, hF => by
    apply encode_c0_vc
    have hi : i < l.length := by omega
    obtain ⟨B1, o1, c1, rfl, e2, e3, p6, c6, e4, e5, e6⟩ := hl.get hi
    have hall := listOk_all hok
    have hgd := Blk.good (hall.2 _ (List.getElem_mem hi))
    have k1 := encBs_len (l.take i) (fun b hb => hall.2 b (List.mem_of_mem_take hb))
    rw [List.length_take] at k1
    have k2 := enc_len (l.length : Int)
    have k3 := hall.1
    have i1 := hgd.id; have i2 := hgd.kind; have i3 := hgd.text; have i4 := hgd.story; have i5 := hgd.ref; have i6 := hgd.unt; have i7 := hgd.appr; have i8 := hgd.den; have i9 := hgd.len
    refine yes (by omega) ⟨B1, o1, rfl, by omega, c1, l[i].id, l[i].kind, l[i].text, l[i].story, l[i].ref, l[i].lab.unt, p6, l[i].lab.after.length, c6, l[i].lab.appr, l[i].lab.den, e2, ⟨by simpa using e4, by simpa using e3⟩, fun B2 B3 => ?_⟩
    have m1 := encIs_len [l[i].id, l[i].kind]
    have m2 := encS_len (bts l[i].text); rw [bts_len] at m2
    have m3 := encIs_len [l[i].story, l[i].ref, l[i].lab.unt, (l[i].lab.after.length : Int)]
    have m4 := encIs_len l[i].lab.after
    simp only [List.length_cons, List.length_nil] at m1 m3
    refine CallH.effWT [_, _] (putInts_e (ns := [l[i].id, l[i].kind]) (fun x hx => ?_) (by simp) (by rw [List.length_append]; omega) hF) (fun W' hm' => (ints_told (told := [_, _]) (ns := [l[i].id, l[i].kind]) (t := 3) (by simp)).mono (lkX_of hm')) fun v F2 ⟨hv, hF2⟩ => ⟨F2, hv, rfl, ?_⟩
    · rcases List.mem_cons.1 hx with rfl | hx
      · exact okI (by omega)
      · rw [List.mem_singleton.1 hx]; exact okI (by omega)
    refine CallH.pure (putS (by omega)) ⟨_, _, rfl, rfl, ?_⟩
    refine CallH.effT [_, _] (write_e hF2 (by simp only [List.length_append, ba_size]; omega)) fun v F3 ⟨hv, hF3⟩ => ⟨_, _, F3, hv, rfl, fun B4 => ?_⟩
    rw [bts_mk] at hF3
    refine CallH.effWT [_, _, _] (putInts_e (ns := [l[i].story, l[i].ref, l[i].lab.unt, (l[i].lab.after.length : Int)]) (fun x hx => ?_) (by simp) (by simp only [List.length_append]; omega) hF3) (fun W' hm' => (ints_told (told := [_, _, _]) (ns := [l[i].story, l[i].ref, l[i].lab.unt, (l[i].lab.after.length : Int)]) (t := 3) (by simp)).mono (lkX_of hm')) fun v F4 ⟨hv, hF4⟩ => ⟨F4, hv, rfl, ?_⟩
    · simp only [List.mem_cons, List.not_mem_nil, or_false] at hx
      rcases hx with rfl | rfl | rfl | rfl <;> exact okI (by omega)
    refine CallH.effWT [_, _, _] (putInts_e (ns := l[i].lab.after) (fun x hx => ?_) (by omega) (by simp only [List.length_append]; omega) hF4) (fun W' hm' => (e5.mono lkM_old).mono (lkX_of hm')) fun v F5 ⟨hv, hF5⟩ => ⟨F5, hv, rfl, fun B5 => ?_⟩
    · have := hgd.after x hx; exact okI (by omega)
    refine CallH.effWT [_, _, _, _] (putInts_e (ns := [l[i].lab.appr, l[i].lab.den]) (fun x hx => ?_) (by simp) (by simp only [List.length_append]; omega) hF5) (fun W' hm' => (ints_told (told := [_, _, _, _]) (ns := [l[i].lab.appr, l[i].lab.den]) (t := 3) (by simp)).mono (lkX_of hm')) fun v F6 ⟨hv, hF6⟩ => ⟨F6, hv, rfl, ?_⟩
    · rcases List.mem_cons.1 hx with rfl | hx
      · exact okI (by omega)
      · rw [List.mem_singleton.1 hx]; exact okI (by omega)
    rw [wi64 (by omega), show (i : Int) + 1 = ((i + 1 : Nat) : Int) by omega]
    refine encode_loop hl hok g (i + 1) F6 (by omega) ?_
    rw [encBs_take hi, ← List.append_assoc, ← enc_parts]
    exact hF6
theorem encode_c {W : World} {p : Option Addr} {c : Nat} {l : List Blk} (hl : BlksL (lkW W) p l) (hc : l.length ≤ c) : PW Tryd.prog 27 ⟨[.slice p l.length c]⟩ W (encAns l) := by
  refine encode_vc p l.length c (Mem.start [] W) (CallH.pw (fun W' hm' => validL_c (hl.mono (lkW_kept hm')) hc) ⟨_, rfl, rfl, fun h B B1 => ?_, fun h => finPW ?_⟩)
  · have h3 := (listOk_all h).1
    refine CallH.effW (L0 := [bHdr B (.pointer none) (.slice none 0 0)]) (L1 := [(B1, .cells #[.int .i64 (l.length : Int)] 3)]) (putInts_e (ns := [(l.length : Int)]) (l := []) (fun x hx => ?_) (by simp) (by simp) (BRep.new B)) (fun W' hm' => (ints_told (told := [(B1, .cells #[.int .i64 (l.length : Int)] 3)]) (ns := [(l.length : Int)]) (t := 3) (by simp)).mono (lkX_of (hm'.perm (List.perm_append_comm (l₁ := [(B1, Obj.cells #[.int .i64 (l.length : Int)] 3)]) (l₂ := [bHdr B (.pointer none) (.slice none 0 0)]))))) (List.Perm.refl _) fun v F ⟨hv, hF⟩ => ⟨_, List.perm_append_comm, F, hv, rfl, ?_⟩
    · rw [List.mem_singleton.1 hx]; exact okI (by omega)
    · refine encode_loop hl h l.length 0 F (by omega) ?_
      simpa [encIs, encBs] using hF
  · rw [encAns, if_neg (by rw [h]; simp)]
end Go.Eng
namespace Go.Eng
open Go Go.RowKit Wire
set_option linter.unusedVariables false
abbrev RS := Nat × Int
def rdI (s : List UInt8) (st : RS) : Int × RS :=
  if st.2 = 0 then match rdInt (s.drop st.1) with
    | none => (0, (st.1, 10))
    | some (n, k) => (n, (st.1 + k, 0))
  else (0, st)
def rdT (s : List UInt8) (st : RS) : ByteArray × RS :=
  if st.2 = 0 then match rdStr (s.drop st.1) with
    | none => (⟨#[]⟩, (st.1, 10))
    | some (t, k) => (⟨t.toArray⟩, (st.1 + k, 0))
  else (⟨#[]⟩, st)
def rdMany {α : Type} (f : RS → α × RS) : Nat → RS → List α × RS
  | 0, st => ([], st)
  | n + 1, st => if st.2 = 0 then ((f st).1 :: (rdMany f n (f st).2).1, (rdMany f n (f st).2).2) else ([], st)
def rdCount (s : List UInt8) (most : Int) (st : RS) : Int × RS :=
  if (rdI s st).2.2 = 0 ∧ ((rdI s st).1 < 0 ∨ most < (rdI s st).1) then ((rdI s st).1, ((rdI s st).2.1, 30)) else rdI s st
def rdList {α : Type} (f : RS → α × RS) (s : List UInt8) (most : Int) (st : RS) : List α × RS := rdMany f (rdCount s most st).1.toNat (rdCount s most st).2
def rdB1 (s : List UInt8) (st : RS) := rdI s st
def rdB2 (s : List UInt8) (st : RS) := rdI s (rdB1 s st).2
def rdB3 (s : List UInt8) (st : RS) := rdT s (rdB2 s st).2
def rdB4 (s : List UInt8) (st : RS) := rdI s (rdB3 s st).2
def rdB5 (s : List UInt8) (st : RS) := rdI s (rdB4 s st).2
def rdB6 (s : List UInt8) (st : RS) := rdI s (rdB5 s st).2
def rdB7 (s : List UInt8) (st : RS) := rdList (rdI s) s 64 (rdB6 s st).2
def rdB8 (s : List UInt8) (st : RS) := rdI s (rdB7 s st).2
def rdB9 (s : List UInt8) (st : RS) := rdI s (rdB8 s st).2
def rdBlk (s : List UInt8) (st : RS) : Blk × RS :=
  (⟨(rdB1 s st).1, (rdB2 s st).1, (rdB3 s st).1, (rdB4 s st).1, (rdB5 s st).1, ⟨(rdB6 s st).1, (rdB7 s st).1, (rdB8 s st).1, (rdB9 s st).1⟩⟩, (rdB9 s st).2)
def decRun (s : List UInt8) : List Blk × RS := rdList (rdBlk s) s 24 (0, 0)
def decSpec (s : List UInt8) : List Blk × Int :=
  if ¬ (decRun s).2.2 = 0 then ([], (decRun s).2.2) else if (decRun s).2.1 < s.length then ([], 10) else if listOk (decRun s).1 = true then ((decRun s).1, 0) else ([], 30)
theorem rdStr_inv' {l t : List UInt8} {k : Nat} (h : rdStr l = some (t, k)) : k ≤ l.length ∧ t.length ≤ 65536 := by
  unfold rdStr at h
  split at h
  · cases h
  · next n j hr =>
    split at h
    · next hc =>
      have := (rdInt_inv hr).2.1
      simp only [Option.some.injEq, Prod.mk.injEq] at h
      obtain ⟨rfl, rfl⟩ := h
      refine ⟨by omega, ?_⟩
      rw [List.length_take]; omega
    · cases h
theorem rdI_le {s : List UInt8} {st : RS} (h : st.1 ≤ s.length) : (rdI s st).2.1 ≤ s.length := by
  unfold rdI
  split
  · split
    · exact h
    · next n k hr =>
      have := (rdInt_inv hr).2.1
      rw [List.length_drop] at this
      simp only; omega
  · exact h
theorem rdT_le {s : List UInt8} {st : RS} (h : st.1 ≤ s.length) : (rdT s st).2.1 ≤ s.length ∧ (rdT s st).1.size ≤ 65536 := by
  unfold rdT
  split
  · split
    · exact ⟨h, (show (0 : Nat) ≤ 65536 by decide)⟩
    · next n k hr =>
      have := rdStr_inv' hr
      rw [List.length_drop] at this
      exact ⟨by simp only; omega, by rw [ba_size]; exact this.2⟩
  · exact ⟨h, (show (0 : Nat) ≤ 65536 by decide)⟩
theorem rdMany_le {α : Type} {f : RS → α × RS} {s : List UInt8} (hf : ∀ st, st.1 ≤ s.length → (f st).2.1 ≤ s.length) : ∀ (n : Nat) (st : RS), st.1 ≤ s.length → (rdMany f n st).2.1 ≤ s.length ∧ (rdMany f n st).1.length ≤ n
  | 0, st, h => ⟨h, Nat.le_refl _⟩
  | n + 1, st, h => by
    unfold rdMany
    split
    · have := rdMany_le hf n (f st).2 (hf st h)
      exact ⟨this.1, by simp only [List.length_cons]; omega⟩
    · exact ⟨h, by simp⟩
theorem rdMany_err {α : Type} {f : RS → α × RS} {n : Nat} {st : RS} (h : ¬ st.2 = 0) : rdMany f n st = ([], st) := by
  cases n with
  | zero => rfl
  | succ n => rw [rdMany, if_neg h]
theorem rdCount_le {s : List UInt8} {most : Int} {st : RS} (h : st.1 ≤ s.length) : (rdCount s most st).2.1 ≤ s.length := by
  unfold rdCount
  split
  · exact rdI_le h
  · exact rdI_le h
theorem rdCount_ok {s : List UInt8} {most : Int} {st : RS} (h : (rdCount s most st).2.2 = 0) : 0 ≤ (rdCount s most st).1 ∧ (rdCount s most st).1 ≤ most := by
  unfold rdCount at *
  split at h
  · simp at h
  · next hn =>
    rw [if_neg hn]
    omega
theorem rdList_le {α : Type} {f : RS → α × RS} {s : List UInt8} {most : Nat} (hf : ∀ st, st.1 ≤ s.length → (f st).2.1 ≤ s.length) {st : RS} (h : st.1 ≤ s.length) : (rdList f s most st).2.1 ≤ s.length ∧ (rdList f s most st).1.length ≤ most := by
  unfold rdList
  have := rdMany_le hf (rdCount s most st).1.toNat (rdCount s most st).2 (rdCount_le h)
  refine ⟨this.1, ?_⟩
  by_cases he : (rdCount s most st).2.2 = 0
  · have := rdCount_ok he
    omega
  · rw [rdMany_err he]; simp
theorem rdB_le {s : List UInt8} {st : RS} (h : st.1 ≤ s.length) : (rdB1 s st).2.1 ≤ s.length ∧ (rdB2 s st).2.1 ≤ s.length ∧ (rdB3 s st).2.1 ≤ s.length ∧ (rdB4 s st).2.1 ≤ s.length ∧ (rdB5 s st).2.1 ≤ s.length ∧ (rdB6 s st).2.1 ≤ s.length ∧ (rdB7 s st).2.1 ≤ s.length ∧ (rdB8 s st).2.1 ≤ s.length ∧ (rdB9 s st).2.1 ≤ s.length := by
  have h1 := rdI_le h
  have h2 := rdI_le (s := s) h1
  have h3 := (rdT_le (s := s) h2).1
  have h4 := rdI_le (s := s) h3
  have h5 := rdI_le (s := s) h4
  have h6 := rdI_le (s := s) h5
  have h7 := (rdList_le (f := rdI s) (most := 64) (fun st => rdI_le) h6).1
  have h8 := rdI_le (s := s) h7
  have h9 := rdI_le (s := s) h8
  exact ⟨h1, h2, h3, h4, h5, h6, h7, h8, h9⟩
theorem rdBlk_le {s : List UInt8} {st : RS} (h : st.1 ≤ s.length) : (rdBlk s st).2.1 ≤ s.length := (rdB_le h).2.2.2.2.2.2.2.2
theorem rdBlk_fits {s : List UInt8} {st : RS} (h : st.1 ≤ s.length) : (rdBlk s st).1.Fits := by
  obtain ⟨h1, h2, h3, h4, h5, h6, h7, h8, h9⟩ := rdB_le h
  refine ⟨?_, ?_⟩
  · have := (rdT_le (s := s) h2).2
    show (rdB3 s st).1.size ≤ _
    unfold rdB3; omega
  · have := (rdList_le (f := rdI s) (most := 64) (fun st => rdI_le) h6).2
    show (rdB7 s st).1.length ≤ _
    exact Nat.le_trans this (by decide)
end Go.Eng
