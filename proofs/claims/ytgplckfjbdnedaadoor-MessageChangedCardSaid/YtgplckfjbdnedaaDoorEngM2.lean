/- Verification conditions of the functions, written by a program of the prover, checked here. -/
import Derived.Test.YtgplckfjbdnedaaDoorEngInl

import Derived.Test.YtgplckfjbdnedaaDoorEngEq

import Derived.Test.YtgplckfjbdnedaaDoorChecked

namespace Go.Eng

open Go Go.RowKit Go.Proofs

set_option linter.unusedVariables false

set_option maxRecDepth 100000

theorem mEncode_vc (mk : Int) (mp : Int) (mq : Int) (mt : Int) (mb : Int) (mv : Int) (md : ByteArray) {R : Ending → World → Prop} {w0 W : World} (hm : Mem [] [] w0 W)
    (H :
      ∀ B : Nat,
      CallH Tryd.prog 14 ⟨[.agg #[.int .i64 mk, .int .i64 mp, .int .i64 mq, .int .i64 mt, .int .i64 mb, .int .i64 mv, .string md]]⟩ [(B, .cells #[.int .i64 mk, .int .i64 mp, .int .i64 mq, .int .i64 mt, .int .i64 mb, .int .i64 mv, .string md] 23)] [] w0 (fun v L' => ∃ (r1 : Bool), v = (.bool r1) ∧ L' = [(B, .cells #[.int .i64 mk, .int .i64 mp, .int .i64 mq, .int .i64 mt, .int .i64 mb, .int .i64 mv, .string md] 23)] ∧
        ((r1 = true) →
          CallH Tryd.prog 18 ⟨[.int .i64 mk]⟩ [(B, .cells #[.int .i64 mk, .int .i64 mp, .int .i64 mq, .int .i64 mt, .int .i64 mb, .int .i64 mv, .string md] 23)] [] w0 (fun v L' => ∃ (r21 : ByteArray) (r31 : Int), v = (.tuple #[.string r21, .int .i64 r31]) ∧ L' = [(B, .cells #[.int .i64 mk, .int .i64 mp, .int .i64 mq, .int .i64 mt, .int .i64 mb, .int .i64 mv, .string md] 23)] ∧
            ((⟨#[]⟩ : ByteArray).size + r21.size ≤ 9223372036854775807) ∧
            ∀ body : ByteArray, body = ((⟨#[]⟩ : ByteArray) ++ r21) →
            CallH Tryd.prog 18 ⟨[.int .i64 mp]⟩ [(B, .cells #[.int .i64 mk, .int .i64 mp, .int .i64 mq, .int .i64 mt, .int .i64 mb, .int .i64 mv, .string md] 23)] [] w0 (fun v L' => ∃ (r41 : ByteArray) (r51 : Int), v = (.tuple #[.string r41, .int .i64 r51]) ∧ L' = [(B, .cells #[.int .i64 mk, .int .i64 mp, .int .i64 mq, .int .i64 mt, .int .i64 mb, .int .i64 mv, .string md] 23)] ∧
              (body.size + r41.size ≤ 9223372036854775807) ∧
              ∀ body1 : ByteArray, body1 = (body ++ r41) →
              CallH Tryd.prog 18 ⟨[.int .i64 mq]⟩ [(B, .cells #[.int .i64 mk, .int .i64 mp, .int .i64 mq, .int .i64 mt, .int .i64 mb, .int .i64 mv, .string md] 23)] [] w0 (fun v L' => ∃ (r61 : ByteArray) (r71 : Int), v = (.tuple #[.string r61, .int .i64 r71]) ∧ L' = [(B, .cells #[.int .i64 mk, .int .i64 mp, .int .i64 mq, .int .i64 mt, .int .i64 mb, .int .i64 mv, .string md] 23)] ∧
                (body1.size + r61.size ≤ 9223372036854775807) ∧
                ∀ body2 : ByteArray, body2 = (body1 ++ r61) →
                CallH Tryd.prog 18 ⟨[.int .i64 mt]⟩ [(B, .cells #[.int .i64 mk, .int .i64 mp, .int .i64 mq, .int .i64 mt, .int .i64 mb, .int .i64 mv, .string md] 23)] [] w0 (fun v L' => ∃ (r81 : ByteArray) (r91 : Int), v = (.tuple #[.string r81, .int .i64 r91]) ∧ L' = [(B, .cells #[.int .i64 mk, .int .i64 mp, .int .i64 mq, .int .i64 mt, .int .i64 mb, .int .i64 mv, .string md] 23)] ∧
                  (body2.size + r81.size ≤ 9223372036854775807) ∧
                  ∀ body3 : ByteArray, body3 = (body2 ++ r81) →
                  CallH Tryd.prog 18 ⟨[.int .i64 mb]⟩ [(B, .cells #[.int .i64 mk, .int .i64 mp, .int .i64 mq, .int .i64 mt, .int .i64 mb, .int .i64 mv, .string md] 23)] [] w0 (fun v L' => ∃ (r101 : ByteArray) (r111 : Int), v = (.tuple #[.string r101, .int .i64 r111]) ∧ L' = [(B, .cells #[.int .i64 mk, .int .i64 mp, .int .i64 mq, .int .i64 mt, .int .i64 mb, .int .i64 mv, .string md] 23)] ∧
                    (body3.size + r101.size ≤ 9223372036854775807) ∧
                    ∀ body4 : ByteArray, body4 = (body3 ++ r101) →
                    CallH Tryd.prog 18 ⟨[.int .i64 mv]⟩ [(B, .cells #[.int .i64 mk, .int .i64 mp, .int .i64 mq, .int .i64 mt, .int .i64 mb, .int .i64 mv, .string md] 23)] [] w0 (fun v L' => ∃ (r121 : ByteArray) (r131 : Int), v = (.tuple #[.string r121, .int .i64 r131]) ∧ L' = [(B, .cells #[.int .i64 mk, .int .i64 mp, .int .i64 mq, .int .i64 mt, .int .i64 mb, .int .i64 mv, .string md] 23)] ∧
                      (body4.size + r121.size ≤ 9223372036854775807) ∧
                      ∀ body5 : ByteArray, body5 = (body4 ++ r121) →
                      CallH Tryd.prog 22 ⟨[.string md]⟩ [(B, .cells #[.int .i64 mk, .int .i64 mp, .int .i64 mq, .int .i64 mt, .int .i64 mb, .int .i64 mv, .string md] 23)] [] w0 (fun v L' => ∃ (r141 : ByteArray) (r151 : Int), v = (.tuple #[.string r141, .int .i64 r151]) ∧ L' = [(B, .cells #[.int .i64 mk, .int .i64 mp, .int .i64 mq, .int .i64 mt, .int .i64 mb, .int .i64 mv, .string md] 23)] ∧
                        (body5.size + r141.size ≤ 9223372036854775807) ∧
                        ∀ body6 : ByteArray, body6 = (body5 ++ r141) →
                        CallH Tryd.prog 19 ⟨[.string body6]⟩ [(B, .cells #[.int .i64 mk, .int .i64 mp, .int .i64 mq, .int .i64 mt, .int .i64 mb, .int .i64 mv, .string md] 23)] [] w0 (fun v L' => ∃ (r161 : Int), v = (.int .i64 r161) ∧ L' = [(B, .cells #[.int .i64 mk, .int .i64 mp, .int .i64 mq, .int .i64 mt, .int .i64 mb, .int .i64 mv, .string md] 23)] ∧
                          CallH Tryd.prog 18 ⟨[.int .i64 r161]⟩ [(B, .cells #[.int .i64 mk, .int .i64 mp, .int .i64 mq, .int .i64 mt, .int .i64 mb, .int .i64 mv, .string md] 23)] [] w0 (fun v L' => ∃ (r171 : ByteArray) (r181 : Int), v = (.tuple #[.string r171, .int .i64 r181]) ∧ L' = [(B, .cells #[.int .i64 mk, .int .i64 mp, .int .i64 mq, .int .i64 mt, .int .i64 mb, .int .i64 mv, .string md] 23)] ∧
                            (r171.size + body6.size ≤ 9223372036854775807) ∧
                            ∀ t2 : ByteArray, t2 = (r171 ++ body6) →
                            Fin R [(B, .cells #[.int .i64 mk, .int .i64 mp, .int .i64 mq, .int .i64 mt, .int .i64 mb, .int .i64 mv, .string md] 23)] [] w0 (.tuple #[.string t2, .int .i64 (0 : Int)]))))))))))) ∧
         ((r1 = false) →
          Fin R [(B, .cells #[.int .i64 mk, .int .i64 mp, .int .i64 mq, .int .i64 mt, .int .i64 mb, .int .i64 mv, .string md] 23)] [] w0 (.tuple #[.string (⟨#[]⟩), .int .i64 (200 : Int)])))) :
    Calls Tryd.prog 12 ⟨[.agg #[.int .i64 mk, .int .i64 mp, .int .i64 mq, .int .i64 mt, .int .i64 mb, .int .i64 mv, .string md]]⟩ W R := by
  refine AtE.calls (nt := 59) Tryd.func12 (by kernel_rfl) hm ?_
  refine AtE.run 2 (fun W => by kernel_rfl) ?_
  refine AtE.new (fun B => .pointer (some ⟨B, 0, none⟩)) (.cells #[.int .i64 mk, .int .i64 mp, .int .i64 mq, .int .i64 mt, .int .i64 mb, .int .i64 mv, .string md] 23) (fun W => by kernel_rfl) (by kernel_rfl) (fun B => ?_)
  replace H := H B
  refine AtE.run 6 (fun W => by kernel_rfl) ?_
  refine AtE.load 0 0 (T := 23) (v := .agg #[.int .i64 mk, .int .i64 mp, .int .i64 mq, .int .i64 mt, .int .i64 mb, .int .i64 mv, .string md]) (by kernel_rfl) ?_
  refine AtE.call 14 ⟨[.agg #[.int .i64 mk, .int .i64 mp, .int .i64 mq, .int .i64 mt, .int .i64 mb, .int .i64 mv, .string md]]⟩ (fun W => by kernel_rfl) (by kernel_rfl) H ?_
  clear H
  rintro _ _ ⟨r1, rfl, rfl, H⟩
  refine AtE.split 14 (b := r1) (by kernel_rfl) (fun h1' => ?_) (fun h1' => ?_)
  · replace H := H.1 h1'
    refine AtE.run 12 (fun W => by kernel_rfl) ?_
    refine AtE.load 0 0 (T := 3) (v := .int .i64 mk) (by kernel_rfl) ?_
    refine AtE.run 1 (fun W => by kernel_rfl) ?_
    refine AtE.load 0 1 (T := 3) (v := .int .i64 mp) (by kernel_rfl) ?_
    refine AtE.run 1 (fun W => by kernel_rfl) ?_
    refine AtE.load 0 2 (T := 3) (v := .int .i64 mq) (by kernel_rfl) ?_
    refine AtE.norm (k' := [.inRegion (regOps [.code (sub (Eng.body Tryd.f12) [1, 1, 1, 0, 0])]) [6, 7, 8, 9, 10, 11, 12, 13], .code (sub (Eng.body Tryd.f12) [1, 1, 1, 0, 1]), .code (sub (Eng.body Tryd.f12) [1, 1, 1, 1])]) (e' := [(1, .pointer (some ⟨B, 0, none⟩)), (4, .string (⟨#[]⟩)), (17, .int .i64 mk), (19, .int .i64 mp), (21, .int .i64 mq)]) (L' := [(B, .cells #[.int .i64 mk, .int .i64 mp, .int .i64 mq, .int .i64 mt, .int .i64 mb, .int .i64 mv, .string md] 23)]) ?_ (by kernel_rfl)
    refine AtE.run 1 (fun W => by kernel_rfl) ?_
    refine AtE.load 0 3 (T := 3) (v := .int .i64 mt) (by kernel_rfl) ?_
    refine AtE.run 1 (fun W => by kernel_rfl) ?_
    refine AtE.load 0 4 (T := 3) (v := .int .i64 mb) (by kernel_rfl) ?_
    refine AtE.run 1 (fun W => by kernel_rfl) ?_
    refine AtE.load 0 5 (T := 3) (v := .int .i64 mv) (by kernel_rfl) ?_
    refine AtE.run 22 (fun W => by kernel_rfl) ?_
    refine AtE.call 18 ⟨[.int .i64 mk]⟩ (fun W => by kernel_rfl) (by kernel_rfl) H ?_
    clear H
    rintro _ _ ⟨r21, r31, rfl, rfl, H⟩
    refine AtE.run 9 (fun W => by kernel_rfl) ?_
    refine AtE.concat (x := ⟨#[]⟩) (y := r21) (by kernel_rfl) H.1 ?_
    replace H := H.2
    refine AtE.run 1 (fun W => by kernel_rfl) ?_
    refine AtE.letS 4 (n := ((⟨#[]⟩ : ByteArray) ++ r21)) (by kernel_rfl) (fun body hbody => ?_)
    replace H := H body hbody
    refine AtE.run 24 (fun W => by kernel_rfl) ?_
    refine AtE.call 18 ⟨[.int .i64 mp]⟩ (fun W => by kernel_rfl) (by kernel_rfl) H ?_
    clear H
    rintro _ _ ⟨r41, r51, rfl, rfl, H⟩
    refine AtE.norm (k' := [.inRegion (regOps [.code (sub (Eng.body Tryd.f12) [1, 1, 1, 0, 1, 0, 0, 1, 1, 0, 0, 1, 0])]) [2, 3, 4, 5, 6], .code (sub (Eng.body Tryd.f12) [1, 1, 1, 0, 1, 0, 0, 1, 1, 0, 0, 1, 1]), .inBlock 1, .code (sub (Eng.body Tryd.f12) [1, 1, 1, 0, 1, 0, 0, 1, 1, 1]), .inLoop (sub (Eng.body Tryd.f12) [1, 1, 1, 0, 1, 0, 0]), .inBlock 0, .code (sub (Eng.body Tryd.f12) [1, 1, 1, 1])]) (e' := [(1, .pointer (some ⟨B, 0, none⟩)), (4, .string body), (28, .agg #[.int .i64 mk, .int .i64 mp, .int .i64 mq, .int .i64 mt, .int .i64 mb, .int .i64 mv]), (29, .int .i64 (1 : Int)), (34, .tuple #[.string r41, .int .i64 r51])]) (L' := [(B, .cells #[.int .i64 mk, .int .i64 mp, .int .i64 mq, .int .i64 mt, .int .i64 mb, .int .i64 mv, .string md] 23)]) ?_ (by kernel_rfl)
    refine AtE.run 9 (fun W => by kernel_rfl) ?_
    refine AtE.concat (x := body) (y := r41) (by kernel_rfl) H.1 ?_
    replace H := H.2
    refine AtE.run 1 (fun W => by kernel_rfl) ?_
    refine AtE.letS 4 (n := (body ++ r41)) (by kernel_rfl) (fun body1 hbody1 => ?_)
    replace H := H body1 hbody1
    refine AtE.run 24 (fun W => by kernel_rfl) ?_
    refine AtE.call 18 ⟨[.int .i64 mq]⟩ (fun W => by kernel_rfl) (by kernel_rfl) H ?_
    clear H
    rintro _ _ ⟨r61, r71, rfl, rfl, H⟩
    refine AtE.run 9 (fun W => by kernel_rfl) ?_
    refine AtE.concat (x := body1) (y := r61) (by kernel_rfl) H.1 ?_
    replace H := H.2
    refine AtE.run 1 (fun W => by kernel_rfl) ?_
    refine AtE.letS 4 (n := (body1 ++ r61)) (by kernel_rfl) (fun body2 hbody2 => ?_)
    replace H := H body2 hbody2
    refine AtE.run 24 (fun W => by kernel_rfl) ?_
    refine AtE.call 18 ⟨[.int .i64 mt]⟩ (fun W => by kernel_rfl) (by kernel_rfl) H ?_
    clear H
    rintro _ _ ⟨r81, r91, rfl, rfl, H⟩
    refine AtE.run 9 (fun W => by kernel_rfl) ?_
    refine AtE.concat (x := body2) (y := r81) (by kernel_rfl) H.1 ?_
    replace H := H.2
    refine AtE.norm (k' := [.inRegion (regOps [.code (sub (Eng.body Tryd.f12) [1, 1, 1, 0, 1, 0, 0, 1, 1, 0, 0, 1, 1])]) [3], .inBlock 1, .code (sub (Eng.body Tryd.f12) [1, 1, 1, 0, 1, 0, 0, 1, 1, 1]), .inLoop (sub (Eng.body Tryd.f12) [1, 1, 1, 0, 1, 0, 0]), .inBlock 0, .code (sub (Eng.body Tryd.f12) [1, 1, 1, 1])]) (e' := [(1, .pointer (some ⟨B, 0, none⟩)), (28, .agg #[.int .i64 mk, .int .i64 mp, .int .i64 mq, .int .i64 mt, .int .i64 mb, .int .i64 mv]), (29, .int .i64 (3 : Int)), (39, .string (body2 ++ r81))]) (L' := [(B, .cells #[.int .i64 mk, .int .i64 mp, .int .i64 mq, .int .i64 mt, .int .i64 mb, .int .i64 mv, .string md] 23)]) ?_ (by kernel_rfl)
    refine AtE.run 1 (fun W => by kernel_rfl) ?_
    refine AtE.letS 4 (n := (body2 ++ r81)) (by kernel_rfl) (fun body3 hbody3 => ?_)
    replace H := H body3 hbody3
    refine AtE.run 24 (fun W => by kernel_rfl) ?_
    refine AtE.call 18 ⟨[.int .i64 mb]⟩ (fun W => by kernel_rfl) (by kernel_rfl) H ?_
    clear H
    rintro _ _ ⟨r101, r111, rfl, rfl, H⟩
    refine AtE.run 9 (fun W => by kernel_rfl) ?_
    refine AtE.concat (x := body3) (y := r101) (by kernel_rfl) H.1 ?_
    replace H := H.2
    refine AtE.run 1 (fun W => by kernel_rfl) ?_
    refine AtE.letS 4 (n := (body3 ++ r101)) (by kernel_rfl) (fun body4 hbody4 => ?_)
    replace H := H body4 hbody4
    refine AtE.run 24 (fun W => by kernel_rfl) ?_
    refine AtE.call 18 ⟨[.int .i64 mv]⟩ (fun W => by kernel_rfl) (by kernel_rfl) H ?_
    clear H
    rintro _ _ ⟨r121, r131, rfl, rfl, H⟩
    refine AtE.run 9 (fun W => by kernel_rfl) ?_
    refine AtE.concat (x := body4) (y := r121) (by kernel_rfl) H.1 ?_
    replace H := H.2
    refine AtE.run 1 (fun W => by kernel_rfl) ?_
    refine AtE.letS 4 (n := (body4 ++ r121)) (by kernel_rfl) (fun body5 hbody5 => ?_)
    replace H := H body5 hbody5
    refine AtE.norm (k' := [.inRegion (regOps [.code (sub (Eng.body Tryd.f12) [1, 1, 1, 0, 1, 0, 0, 1, 1, 0, 0, 1, 1])]) [], .inBlock 1, .code (sub (Eng.body Tryd.f12) [1, 1, 1, 0, 1, 0, 0, 1, 1, 1]), .inLoop (sub (Eng.body Tryd.f12) [1, 1, 1, 0, 1, 0, 0]), .inBlock 0, .code (sub (Eng.body Tryd.f12) [1, 1, 1, 1])]) (e' := [(1, .pointer (some ⟨B, 0, none⟩)), (4, .string body5), (28, .agg #[.int .i64 mk, .int .i64 mp, .int .i64 mq, .int .i64 mt, .int .i64 mb, .int .i64 mv]), (29, .int .i64 (5 : Int))]) (L' := [(B, .cells #[.int .i64 mk, .int .i64 mp, .int .i64 mq, .int .i64 mt, .int .i64 mb, .int .i64 mv, .string md] 23)]) ?_ (by kernel_rfl)
    refine AtE.run 17 (fun W => by kernel_rfl) ?_
    refine AtE.load 0 6 (T := 9) (v := .string md) (by kernel_rfl) ?_
    refine AtE.call 22 ⟨[.string md]⟩ (fun W => by kernel_rfl) (by kernel_rfl) H ?_
    clear H
    rintro _ _ ⟨r141, r151, rfl, rfl, H⟩
    refine AtE.run 10 (fun W => by kernel_rfl) ?_
    refine AtE.concat (x := body5) (y := r141) (by kernel_rfl) H.1 ?_
    replace H := H.2
    refine AtE.run 1 (fun W => by kernel_rfl) ?_
    refine AtE.letS 4 (n := (body5 ++ r141)) (by kernel_rfl) (fun body6 hbody6 => ?_)
    replace H := H body6 hbody6
    refine AtE.run 4 (fun W => by kernel_rfl) ?_
    refine AtE.call 19 ⟨[.string body6]⟩ (fun W => by kernel_rfl) (by kernel_rfl) H ?_
    clear H
    rintro _ _ ⟨r161, rfl, rfl, H⟩
    refine AtE.call 18 ⟨[.int .i64 r161]⟩ (fun W => by kernel_rfl) (by kernel_rfl) H ?_
    clear H
    rintro _ _ ⟨r171, r181, rfl, rfl, H⟩
    refine AtE.run 10 (fun W => by kernel_rfl) ?_
    refine AtE.concat (x := r171) (y := body6) (by kernel_rfl) H.1 ?_
    replace H := H.2
    refine AtE.norm (k' := [.inRegion (regOps [.code (sub (Eng.body Tryd.f12) [1, 1, 1, 1, 1, 1, 1, 0])]) [3, 4], .code (sub (Eng.body Tryd.f12) [1, 1, 1, 1, 1, 1, 1, 1])]) (e' := [(58, .string (r171 ++ body6))]) (L' := [(B, .cells #[.int .i64 mk, .int .i64 mp, .int .i64 mq, .int .i64 mt, .int .i64 mb, .int .i64 mv, .string md] 23)]) ?_ (by kernel_rfl)
    refine AtE.run 1 (fun W => by kernel_rfl) ?_
    refine AtE.letS 2 (n := (r171 ++ body6)) (by kernel_rfl) (fun t2 ht2 => ?_)
    replace H := H t2 ht2
    refine AtE.run 2 (fun W => by kernel_rfl) ?_
    exact AtE.ret Tryd.func12 (by kernel_rfl) H
  · replace H := H.2 h1'
    refine AtE.run 8 (fun W => by kernel_rfl) ?_
    exact AtE.ret Tryd.func12 (by kernel_rfl) H

def qBody_c0 (B2 : Nat) (B3 : Nat) (l_l : Nat) (l_c : Nat) (out : ByteArray) (i : Int) (cs : List Value) (m0 : Int) (m1 : Int) (m2 : Int) (m3 : Int) (m4 : Int) (m5 : Int) (w0 : World) (R : Ending → World → Prop) : Prop :=
  AtE Tryd.prog 23 49 [.code (sub (Eng.body Tryd.f23) [1, 1, 1, 0, 1, 0, 0]), .inLoop (sub (Eng.body Tryd.f23) [1, 1, 1, 0, 1, 0, 0]), .inBlock 0, .code (sub (Eng.body Tryd.f23) [1, 1, 1, 1])] [(1, .pointer (some ⟨B2, 0, none⟩)), (3, .slice (some ⟨B3, 0, none⟩) l_l l_c), (4, .string out), (5, .int .i64 i)] [(B2, .cells ⟨cs⟩ 23), (B3, .cells #[.int .i64 m0, .int .i64 m1, .int .i64 m2, .int .i64 m3, .int .i64 m4, .int .i64 m5] 3)] [] w0 (nrm R)

theorem qBody_c0_vc (B2 : Nat) (B3 : Nat) (l_l : Nat) (l_c : Nat) (out : ByteArray) (i : Int) (cs : List Value) (m0 : Int) (m1 : Int) (m2 : Int) (m3 : Int) (m4 : Int) (m5 : Int) {R : Ending → World → Prop} {w0 : World}
    (H :
      ((i < (l_l : Int)) →
        (0 ≤ i ∧ i < l_l) ∧
        ∃ (m6 : Int), (([.int .i64 m0, .int .i64 m1, .int .i64 m2, .int .i64 m3, .int .i64 m4, .int .i64 m5] : List Value))[(Int.toNat i)]? = some (.int .i64 m6) ∧
        CallH Tryd.prog 24 ⟨[.int .i64 m6]⟩ [(B2, .cells ⟨cs⟩ 23), (B3, .cells #[.int .i64 m0, .int .i64 m1, .int .i64 m2, .int .i64 m3, .int .i64 m4, .int .i64 m5] 3)] [] w0 (fun v L' => ∃ (r1 : ByteArray) (r21 : Int), v = (.tuple #[.string r1, .int .i64 r21]) ∧ L' = [(B2, .cells ⟨cs⟩ 23), (B3, .cells #[.int .i64 m0, .int .i64 m1, .int .i64 m2, .int .i64 m3, .int .i64 m4, .int .i64 m5] 3)] ∧
          (out.size + r1.size ≤ 9223372036854775807) ∧
          ∀ out1 : ByteArray, out1 = (out ++ r1) →
          ∀ i1 : Int, i1 = (IntKind.i64.wrap (i + (1 : Int))) →
          qBody_c0 B2 B3 l_l l_c out1 i1 cs m0 m1 m2 m3 m4 m5 w0 R)) ∧
       ((¬ (i < (l_l : Int))) →
        ∃ (m71 : ByteArray), (cs)[6]? = some (.string m71) ∧
        CallH Tryd.prog 34 ⟨[.string m71]⟩ [(B2, .cells ⟨cs⟩ 23), (B3, .cells #[.int .i64 m0, .int .i64 m1, .int .i64 m2, .int .i64 m3, .int .i64 m4, .int .i64 m5] 3)] [] w0 (fun v L' => ∃ (r31 : ByteArray) (r41 : Int), v = (.tuple #[.string r31, .int .i64 r41]) ∧ L' = [(B2, .cells ⟨cs⟩ 23), (B3, .cells #[.int .i64 m0, .int .i64 m1, .int .i64 m2, .int .i64 m3, .int .i64 m4, .int .i64 m5] 3)] ∧
          (out.size + r31.size ≤ 9223372036854775807) ∧
          ∀ t2 : ByteArray, t2 = (out ++ r31) →
          Fin R [(B2, .cells ⟨cs⟩ 23), (B3, .cells #[.int .i64 m0, .int .i64 m1, .int .i64 m2, .int .i64 m3, .int .i64 m4, .int .i64 m5] 3)] [] w0 (.string t2)))) :
    qBody_c0 B2 B3 l_l l_c out i cs m0 m1 m2 m3 m4 m5 w0 R := by
  unfold qBody_c0
  refine AtE.run 8 (fun W => by kernel_rfl) ?_
  refine AtE.splitP 26 (p := i < (l_l : Int)) (by kernel_rfl) (fun h1' => ?_) (fun h1' => ?_)
  · replace H := H.1 h1'
    refine AtE.run 8 (fun W => by kernel_rfl) ?_
    refine AtE.indexAddrL (E := 3) (b := B3) (o := 0) (len := l_l) (cap := l_c) (sz := 1) (o' := (Int.toNat i)) (kd := .i64) (i := i) (by kernel_rfl) H.1 (by omega) ?_
    replace H := H.2
    obtain ⟨m6, hx, H⟩ := H
    refine AtE.loadS 1 (off := (Int.toNat i)) (T := 3) (v := .int .i64 m6) (by kernel_rfl) (valAt_one hx (by kernel_rfl)) ?_
    refine AtE.call 24 ⟨[.int .i64 m6]⟩ (fun W => by kernel_rfl) (by kernel_rfl) H ?_
    clear H
    rintro _ _ ⟨r1, r21, rfl, rfl, H⟩
    refine AtE.run 9 (fun W => by kernel_rfl) ?_
    refine AtE.concat (x := out) (y := r1) (by kernel_rfl) H.1 ?_
    replace H := H.2
    refine AtE.run 1 (fun W => by kernel_rfl) ?_
    refine AtE.letS 4 (n := (out ++ r1)) (by kernel_rfl) (fun out1 hout1 => ?_)
    replace H := H out1 hout1
    refine AtE.run 6 (fun W => by kernel_rfl) ?_
    refine AtE.letI 5 (kd := .i64) (n := (IntKind.i64.wrap (i + (1 : Int)))) (by kernel_rfl) (fun i1 hi1 => ?_)
    replace H := H i1 hi1
    refine AtE.norm (k' := [.inRegion (regOps [.code (sub (Eng.body Tryd.f23) [1, 1, 1, 0, 1, 0, 0, 1, 1])]) [], .inLoop (sub (Eng.body Tryd.f23) [1, 1, 1, 0, 1, 0, 0]), .inBlock 0, .code (sub (Eng.body Tryd.f23) [1, 1, 1, 1])]) (e' := [(1, .pointer (some ⟨B2, 0, none⟩)), (3, .slice (some ⟨B3, 0, none⟩) l_l l_c), (4, .string out1), (5, .int .i64 i1)]) (L' := [(B2, .cells ⟨cs⟩ 23), (B3, .cells #[.int .i64 m0, .int .i64 m1, .int .i64 m2, .int .i64 m3, .int .i64 m4, .int .i64 m5] 3)]) ?_ (by kernel_rfl)
    refine AtE.run 2 (fun W => by kernel_rfl) ?_
    exact AtE.cut [0, 1] H (by kernel_rfl)
  · replace H := H.2 h1'
    refine AtE.run 5 (fun W => by kernel_rfl) ?_
    obtain ⟨m71, hx, H⟩ := H
    refine AtE.loadS 0 (off := 6) (T := 9) (v := .string m71) (by kernel_rfl) (valAt_one hx (by kernel_rfl)) ?_
    refine AtE.call 34 ⟨[.string m71]⟩ (fun W => by kernel_rfl) (by kernel_rfl) H ?_
    clear H
    rintro _ _ ⟨r31, r41, rfl, rfl, H⟩
    refine AtE.run 10 (fun W => by kernel_rfl) ?_
    refine AtE.concat (x := out) (y := r31) (by kernel_rfl) H.1 ?_
    replace H := H.2
    refine AtE.run 1 (fun W => by kernel_rfl) ?_
    refine AtE.letS 2 (n := (out ++ r31)) (by kernel_rfl) (fun t2 ht2 => ?_)
    replace H := H t2 ht2
    refine AtE.run 1 (fun W => by kernel_rfl) ?_
    exact AtE.ret Tryd.func23 (by kernel_rfl) H

theorem qBody_vc (mk : Int) (mp : Int) (mq : Int) (mt : Int) (mb : Int) (mv : Int) (md : ByteArray) {R : Ending → World → Prop} {w0 W : World} (hm : Mem [] [] w0 W)
    (H :
      ∀ B : Nat,
      ∀ B1 : Nat,
      qBody_c0 B B1 6 6 (⟨#[]⟩) (0 : Int) ([.int .i64 mk, .int .i64 mp, .int .i64 mq, .int .i64 mt, .int .i64 mb, .int .i64 mv, .string md]) mk mp mq mt mb mv w0 R) :
    Calls Tryd.prog 23 ⟨[.agg #[.int .i64 mk, .int .i64 mp, .int .i64 mq, .int .i64 mt, .int .i64 mb, .int .i64 mv, .string md]]⟩ W R := by
  refine AtE.calls (nt := 49) Tryd.func23 (by kernel_rfl) hm ?_
  refine AtE.run 2 (fun W => by kernel_rfl) ?_
  refine AtE.new (fun B => .pointer (some ⟨B, 0, none⟩)) (.cells #[.int .i64 mk, .int .i64 mp, .int .i64 mq, .int .i64 mt, .int .i64 mb, .int .i64 mv, .string md] 23) (fun W => by kernel_rfl) (by kernel_rfl) (fun B => ?_)
  replace H := H B
  refine AtE.run 5 (fun W => by kernel_rfl) ?_
  refine AtE.load 0 0 (T := 3) (v := .int .i64 mk) (by kernel_rfl) ?_
  refine AtE.run 1 (fun W => by kernel_rfl) ?_
  refine AtE.load 0 1 (T := 3) (v := .int .i64 mp) (by kernel_rfl) ?_
  refine AtE.run 1 (fun W => by kernel_rfl) ?_
  refine AtE.load 0 2 (T := 3) (v := .int .i64 mq) (by kernel_rfl) ?_
  refine AtE.run 1 (fun W => by kernel_rfl) ?_
  refine AtE.load 0 3 (T := 3) (v := .int .i64 mt) (by kernel_rfl) ?_
  refine AtE.run 1 (fun W => by kernel_rfl) ?_
  refine AtE.load 0 4 (T := 3) (v := .int .i64 mb) (by kernel_rfl) ?_
  refine AtE.run 1 (fun W => by kernel_rfl) ?_
  refine AtE.load 0 5 (T := 3) (v := .int .i64 mv) (by kernel_rfl) ?_
  refine AtE.norm (k' := [.inRegion (regOps [.code (sub (Eng.body Tryd.f23) [1, 0])]) [12, 13], .code (sub (Eng.body Tryd.f23) [1, 1])]) (e' := [(1, .pointer (some ⟨B, 0, none⟩)), (11, .int .i64 mk), (13, .int .i64 mp), (15, .int .i64 mq), (17, .int .i64 mt), (19, .int .i64 mb), (21, .int .i64 mv)]) (L' := [(B, .cells #[.int .i64 mk, .int .i64 mp, .int .i64 mq, .int .i64 mt, .int .i64 mb, .int .i64 mv, .string md] 23)]) ?_ (by kernel_rfl)
  refine AtE.new (fun B => .slice (some ⟨B, 0, none⟩) 6 6) (.cells #[.int .i64 mk, .int .i64 mp, .int .i64 mq, .int .i64 mt, .int .i64 mb, .int .i64 mv] 3) (fun W => by kernel_rfl) (by kernel_rfl) (fun B1 => ?_)
  replace H := H B1
  refine AtE.run 13 (fun W => by kernel_rfl) ?_
  exact AtE.cut [0, 1] H (by kernel_rfl)

theorem qEncode_vc (mk : Int) (mp : Int) (mq : Int) (mt : Int) (mb : Int) (mv : Int) (md : ByteArray) {R : Ending → World → Prop} {w0 W : World} (hm : Mem [] [] w0 W)
    (H :
      ∀ B : Nat,
      CallH Tryd.prog 15 ⟨[.agg #[.int .i64 mk, .int .i64 mp, .int .i64 mq, .int .i64 mt, .int .i64 mb, .int .i64 mv, .string md]]⟩ [(B, .cells #[.int .i64 mk, .int .i64 mp, .int .i64 mq, .int .i64 mt, .int .i64 mb, .int .i64 mv, .string md] 23)] [] w0 (fun v L' => ∃ (r1 : Bool), v = (.bool r1) ∧ L' = [(B, .cells #[.int .i64 mk, .int .i64 mp, .int .i64 mq, .int .i64 mt, .int .i64 mb, .int .i64 mv, .string md] 23)] ∧
        ((r1 = true) →
          CallH Tryd.prog 23 ⟨[.agg #[.int .i64 mk, .int .i64 mp, .int .i64 mq, .int .i64 mt, .int .i64 mb, .int .i64 mv, .string md]]⟩ [(B, .cells #[.int .i64 mk, .int .i64 mp, .int .i64 mq, .int .i64 mt, .int .i64 mb, .int .i64 mv, .string md] 23)] [] w0 (fun v L' => ∃ (r21 : ByteArray), v = (.string r21) ∧ L' = [(B, .cells #[.int .i64 mk, .int .i64 mp, .int .i64 mq, .int .i64 mt, .int .i64 mb, .int .i64 mv, .string md] 23)] ∧
            CallH Tryd.prog 25 ⟨[.string r21]⟩ [(B, .cells #[.int .i64 mk, .int .i64 mp, .int .i64 mq, .int .i64 mt, .int .i64 mb, .int .i64 mv, .string md] 23)] [] w0 (fun v L' => ∃ (r31 : Int), v = (.int .i64 r31) ∧ L' = [(B, .cells #[.int .i64 mk, .int .i64 mp, .int .i64 mq, .int .i64 mt, .int .i64 mb, .int .i64 mv, .string md] 23)] ∧
              CallH Tryd.prog 24 ⟨[.int .i64 r31]⟩ [(B, .cells #[.int .i64 mk, .int .i64 mp, .int .i64 mq, .int .i64 mt, .int .i64 mb, .int .i64 mv, .string md] 23)] [] w0 (fun v L' => ∃ (r41 : ByteArray) (r51 : Int), v = (.tuple #[.string r41, .int .i64 r51]) ∧ L' = [(B, .cells #[.int .i64 mk, .int .i64 mp, .int .i64 mq, .int .i64 mt, .int .i64 mb, .int .i64 mv, .string md] 23)] ∧
                (r41.size + r21.size ≤ 9223372036854775807) ∧
                ∀ t2 : ByteArray, t2 = (r41 ++ r21) →
                Fin R [(B, .cells #[.int .i64 mk, .int .i64 mp, .int .i64 mq, .int .i64 mt, .int .i64 mb, .int .i64 mv, .string md] 23)] [] w0 (.tuple #[.string t2, .int .i64 (0 : Int)]))))) ∧
         ((r1 = false) →
          Fin R [(B, .cells #[.int .i64 mk, .int .i64 mp, .int .i64 mq, .int .i64 mt, .int .i64 mb, .int .i64 mv, .string md] 23)] [] w0 (.tuple #[.string (⟨#[]⟩), .int .i64 (200 : Int)])))) :
    Calls Tryd.prog 13 ⟨[.agg #[.int .i64 mk, .int .i64 mp, .int .i64 mq, .int .i64 mt, .int .i64 mb, .int .i64 mv, .string md]]⟩ W R := by
  refine AtE.calls (nt := 23) Tryd.func13 (by kernel_rfl) hm ?_
  refine AtE.run 2 (fun W => by kernel_rfl) ?_
  refine AtE.new (fun B => .pointer (some ⟨B, 0, none⟩)) (.cells #[.int .i64 mk, .int .i64 mp, .int .i64 mq, .int .i64 mt, .int .i64 mb, .int .i64 mv, .string md] 23) (fun W => by kernel_rfl) (by kernel_rfl) (fun B => ?_)
  replace H := H B
  refine AtE.run 5 (fun W => by kernel_rfl) ?_
  refine AtE.load 0 0 (T := 23) (v := .agg #[.int .i64 mk, .int .i64 mp, .int .i64 mq, .int .i64 mt, .int .i64 mb, .int .i64 mv, .string md]) (by kernel_rfl) ?_
  refine AtE.call 15 ⟨[.agg #[.int .i64 mk, .int .i64 mp, .int .i64 mq, .int .i64 mt, .int .i64 mb, .int .i64 mv, .string md]]⟩ (fun W => by kernel_rfl) (by kernel_rfl) H ?_
  clear H
  rintro _ _ ⟨r1, rfl, rfl, H⟩
  refine AtE.run 6 (fun W => by kernel_rfl) ?_
  refine AtE.split 10 (b := r1) (by kernel_rfl) (fun h1' => ?_) (fun h1' => ?_)
  · replace H := H.1 h1'
    refine AtE.run 6 (fun W => by kernel_rfl) ?_
    refine AtE.load 0 0 (T := 23) (v := .agg #[.int .i64 mk, .int .i64 mp, .int .i64 mq, .int .i64 mt, .int .i64 mb, .int .i64 mv, .string md]) (by kernel_rfl) ?_
    refine AtE.call 23 ⟨[.agg #[.int .i64 mk, .int .i64 mp, .int .i64 mq, .int .i64 mt, .int .i64 mb, .int .i64 mv, .string md]]⟩ (fun W => by kernel_rfl) (by kernel_rfl) H ?_
    clear H
    rintro _ _ ⟨r21, rfl, rfl, H⟩
    refine AtE.run 5 (fun W => by kernel_rfl) ?_
    refine AtE.call 25 ⟨[.string r21]⟩ (fun W => by kernel_rfl) (by kernel_rfl) H ?_
    clear H
    rintro _ _ ⟨r31, rfl, rfl, H⟩
    refine AtE.norm (k' := [.inRegion (regOps [.code (sub (Eng.body Tryd.f13) [1, 1, 1, 1, 0])]) [2, 3, 4, 5, 6, 7], .code (sub (Eng.body Tryd.f13) [1, 1, 1, 1, 1])]) (e' := [(5, .string r21), (16, .int .i64 r31)]) (L' := [(B, .cells #[.int .i64 mk, .int .i64 mp, .int .i64 mq, .int .i64 mt, .int .i64 mb, .int .i64 mv, .string md] 23)]) ?_ (by kernel_rfl)
    refine AtE.call 24 ⟨[.int .i64 r31]⟩ (fun W => by kernel_rfl) (by kernel_rfl) H ?_
    clear H
    rintro _ _ ⟨r41, r51, rfl, rfl, H⟩
    refine AtE.run 10 (fun W => by kernel_rfl) ?_
    refine AtE.concat (x := r41) (y := r21) (by kernel_rfl) H.1 ?_
    replace H := H.2
    refine AtE.run 1 (fun W => by kernel_rfl) ?_
    refine AtE.letS 2 (n := (r41 ++ r21)) (by kernel_rfl) (fun t2 ht2 => ?_)
    replace H := H t2 ht2
    refine AtE.run 2 (fun W => by kernel_rfl) ?_
    exact AtE.ret Tryd.func13 (by kernel_rfl) H
  · replace H := H.2 h1'
    refine AtE.run 8 (fun W => by kernel_rfl) ?_
    exact AtE.ret Tryd.func13 (by kernel_rfl) H

theorem qDecode_vc (s : ByteArray) {R : Ending → World → Prop} {w0 W : World} (hm : Mem [] [] w0 W)
    (H :
      ∀ B : Nat,
      CallH Tryd.prog 31 ⟨[.string s, .int .i64 (0 : Int)]⟩ [(B, .cells #[.int .i64 (0 : Int), .int .i64 (0 : Int), .int .i64 (0 : Int), .int .i64 (0 : Int), .int .i64 (0 : Int), .int .i64 (0 : Int), .string (⟨#[]⟩)] 23)] [] w0 (fun v L' => ∃ (r1 : Int) (r21 : Int) (r31 : Int), v = (.tuple #[.int .i64 r1, .int .i64 r21, .int .i64 r31]) ∧ L' = [(B, .cells #[.int .i64 (0 : Int), .int .i64 (0 : Int), .int .i64 (0 : Int), .int .i64 (0 : Int), .int .i64 (0 : Int), .int .i64 (0 : Int), .string (⟨#[]⟩)] 23)] ∧
        ((¬ (r31 = (0 : Int))) →
          Fin R [(B, .cells #[.int .i64 (0 : Int), .int .i64 (0 : Int), .int .i64 (0 : Int), .int .i64 (0 : Int), .int .i64 (0 : Int), .int .i64 (0 : Int), .string (⟨#[]⟩)] 23)] [] w0 (.tuple #[.agg #[.int .i64 (0 : Int), .int .i64 (0 : Int), .int .i64 (0 : Int), .int .i64 (0 : Int), .int .i64 (0 : Int), .int .i64 (0 : Int), .string (⟨#[]⟩)], .int .i64 (10 : Int)])) ∧
         ((r31 = (0 : Int)) →
          (0 ≤ r21 ∧ r21 ≤ (s.size : Int) ∧ (s.size : Int) ≤ s.size) ∧
          CallH Tryd.prog 25 ⟨[.string (s.extract (Int.toNat r21) s.size)]⟩ [(B, .cells #[.int .i64 (0 : Int), .int .i64 (0 : Int), .int .i64 (0 : Int), .int .i64 (0 : Int), .int .i64 (0 : Int), .int .i64 (0 : Int), .string (⟨#[]⟩)] 23)] [] w0 (fun v L' => ∃ (r41 : Int), v = (.int .i64 r41) ∧ L' = [(B, .cells #[.int .i64 (0 : Int), .int .i64 (0 : Int), .int .i64 (0 : Int), .int .i64 (0 : Int), .int .i64 (0 : Int), .int .i64 (0 : Int), .string (⟨#[]⟩)] 23)] ∧
            ((¬ (r41 = r1)) →
              Fin R [(B, .cells #[.int .i64 (0 : Int), .int .i64 (0 : Int), .int .i64 (0 : Int), .int .i64 (0 : Int), .int .i64 (0 : Int), .int .i64 (0 : Int), .string (⟨#[]⟩)] 23)] [] w0 (.tuple #[.agg #[.int .i64 (0 : Int), .int .i64 (0 : Int), .int .i64 (0 : Int), .int .i64 (0 : Int), .int .i64 (0 : Int), .int .i64 (0 : Int), .string (⟨#[]⟩)], .int .i64 (200 : Int)])) ∧
             ((r41 = r1) →
              CallH Tryd.prog 31 ⟨[.string s, .int .i64 r21]⟩ [(B, .cells #[.int .i64 (0 : Int), .int .i64 (0 : Int), .int .i64 (0 : Int), .int .i64 (0 : Int), .int .i64 (0 : Int), .int .i64 (0 : Int), .string (⟨#[]⟩)] 23)] [] w0 (fun v L' => ∃ (r51 : Int) (r61 : Int) (r71 : Int), v = (.tuple #[.int .i64 r51, .int .i64 r61, .int .i64 r71]) ∧ L' = [(B, .cells #[.int .i64 (0 : Int), .int .i64 (0 : Int), .int .i64 (0 : Int), .int .i64 (0 : Int), .int .i64 (0 : Int), .int .i64 (0 : Int), .string (⟨#[]⟩)] 23)] ∧
                ((¬ (r71 = (0 : Int))) →
                  Fin R [(B, .cells #[.int .i64 (0 : Int), .int .i64 (0 : Int), .int .i64 (0 : Int), .int .i64 (0 : Int), .int .i64 (0 : Int), .int .i64 (0 : Int), .string (⟨#[]⟩)] 23)] [] w0 (.tuple #[.agg #[.int .i64 (0 : Int), .int .i64 (0 : Int), .int .i64 (0 : Int), .int .i64 (0 : Int), .int .i64 (0 : Int), .int .i64 (0 : Int), .string (⟨#[]⟩)], .int .i64 (10 : Int)])) ∧
                 ((r71 = (0 : Int)) →
                  ∀ B1 : Nat,
                  ∀ (B2 cap : Nat) (r8 : List Value), 1 ≤ cap → (([.int .i64 r51] : List Value) ++ r8).length = cap * 1 →
                  CallH Tryd.prog 31 ⟨[.string s, .int .i64 r61]⟩ [(B, .cells #[.int .i64 (0 : Int), .int .i64 (0 : Int), .int .i64 (0 : Int), .int .i64 (0 : Int), .int .i64 (0 : Int), .int .i64 (0 : Int), .string (⟨#[]⟩)] 23), (B1, .cells #[.int .i64 r51] 3), (B2, .cells ⟨(([.int .i64 r51] : List Value) ++ r8)⟩ 3)] [] w0 (fun v L' => ∃ (r91 : Int) (r101 : Int) (r111 : Int), v = (.tuple #[.int .i64 r91, .int .i64 r101, .int .i64 r111]) ∧ L' = [(B, .cells #[.int .i64 (0 : Int), .int .i64 (0 : Int), .int .i64 (0 : Int), .int .i64 (0 : Int), .int .i64 (0 : Int), .int .i64 (0 : Int), .string (⟨#[]⟩)] 23), (B1, .cells #[.int .i64 r51] 3), (B2, .cells ⟨(([.int .i64 r51] : List Value) ++ r8)⟩ 3)] ∧
                    ((¬ (r111 = (0 : Int))) →
                      Fin R [(B, .cells #[.int .i64 (0 : Int), .int .i64 (0 : Int), .int .i64 (0 : Int), .int .i64 (0 : Int), .int .i64 (0 : Int), .int .i64 (0 : Int), .string (⟨#[]⟩)] 23), (B1, .cells #[.int .i64 r51] 3), (B2, .cells ⟨(([.int .i64 r51] : List Value) ++ r8)⟩ 3)] [] w0 (.tuple #[.agg #[.int .i64 (0 : Int), .int .i64 (0 : Int), .int .i64 (0 : Int), .int .i64 (0 : Int), .int .i64 (0 : Int), .int .i64 (0 : Int), .string (⟨#[]⟩)], .int .i64 (10 : Int)])) ∧
                     ((r111 = (0 : Int)) →
                      ∀ B3 : Nat,
                      (1 ≤ cap ∧ ((([.int .i64 r51] : List Value) ++ r8)).length = cap * 1) ∧ ((1 + 1) ≤ 9223372036854775807 ∧ (1 + 1) * 8 ≤ 140737488355328) ∧
                      ∀ (B4 cap1 : Nat) (r12 : List Value), (1 + 1) ≤ cap1 → (((([.int .i64 r51] : List Value) ++ r8)).take (1 * 1) ++ ([.int .i64 r91] : List Value) ++ r12).length = cap1 * 1 →
                      CallH Tryd.prog 31 ⟨[.string s, .int .i64 r101]⟩ [(B, .cells #[.int .i64 (0 : Int), .int .i64 (0 : Int), .int .i64 (0 : Int), .int .i64 (0 : Int), .int .i64 (0 : Int), .int .i64 (0 : Int), .string (⟨#[]⟩)] 23), (B1, .cells #[.int .i64 r51] 3), (B3, .cells #[.int .i64 r91] 3), (B4, .cells ⟨(((([.int .i64 r51] : List Value) ++ r8)).take (1 * 1) ++ ([.int .i64 r91] : List Value) ++ r12)⟩ 3)] [] w0 (fun v L' => ∃ (r131 : Int) (r141 : Int) (r151 : Int), v = (.tuple #[.int .i64 r131, .int .i64 r141, .int .i64 r151]) ∧ L' = [(B, .cells #[.int .i64 (0 : Int), .int .i64 (0 : Int), .int .i64 (0 : Int), .int .i64 (0 : Int), .int .i64 (0 : Int), .int .i64 (0 : Int), .string (⟨#[]⟩)] 23), (B1, .cells #[.int .i64 r51] 3), (B3, .cells #[.int .i64 r91] 3), (B4, .cells ⟨(((([.int .i64 r51] : List Value) ++ r8)).take (1 * 1) ++ ([.int .i64 r91] : List Value) ++ r12)⟩ 3)] ∧
                        ((¬ (r151 = (0 : Int))) →
                          Fin R [(B, .cells #[.int .i64 (0 : Int), .int .i64 (0 : Int), .int .i64 (0 : Int), .int .i64 (0 : Int), .int .i64 (0 : Int), .int .i64 (0 : Int), .string (⟨#[]⟩)] 23), (B1, .cells #[.int .i64 r51] 3), (B3, .cells #[.int .i64 r91] 3), (B4, .cells ⟨(((([.int .i64 r51] : List Value) ++ r8)).take (1 * 1) ++ ([.int .i64 r91] : List Value) ++ r12)⟩ 3)] [] w0 (.tuple #[.agg #[.int .i64 (0 : Int), .int .i64 (0 : Int), .int .i64 (0 : Int), .int .i64 (0 : Int), .int .i64 (0 : Int), .int .i64 (0 : Int), .string (⟨#[]⟩)], .int .i64 (10 : Int)])) ∧
                         ((r151 = (0 : Int)) →
                          ∀ B5 : Nat,
                          ((1 + 1) ≤ cap1 ∧ ((((([.int .i64 r51] : List Value) ++ r8)).take (1 * 1) ++ ([.int .i64 r91] : List Value) ++ r12)).length = cap1 * 1) ∧ (((1 + 1) + 1) ≤ 9223372036854775807 ∧ ((1 + 1) + 1) * 8 ≤ 140737488355328) ∧
                          ∀ (B6 cap2 : Nat) (r16 : List Value), ((1 + 1) + 1) ≤ cap2 → (((((([.int .i64 r51] : List Value) ++ r8)).take (1 * 1) ++ ([.int .i64 r91] : List Value) ++ r12)).take ((1 + 1) * 1) ++ ([.int .i64 r131] : List Value) ++ r16).length = cap2 * 1 →
                          CallH Tryd.prog 31 ⟨[.string s, .int .i64 r141]⟩ [(B, .cells #[.int .i64 (0 : Int), .int .i64 (0 : Int), .int .i64 (0 : Int), .int .i64 (0 : Int), .int .i64 (0 : Int), .int .i64 (0 : Int), .string (⟨#[]⟩)] 23), (B1, .cells #[.int .i64 r51] 3), (B3, .cells #[.int .i64 r91] 3), (B5, .cells #[.int .i64 r131] 3), (B6, .cells ⟨(((((([.int .i64 r51] : List Value) ++ r8)).take (1 * 1) ++ ([.int .i64 r91] : List Value) ++ r12)).take ((1 + 1) * 1) ++ ([.int .i64 r131] : List Value) ++ r16)⟩ 3)] [] w0 (fun v L' => ∃ (r171 : Int) (r181 : Int) (r191 : Int), v = (.tuple #[.int .i64 r171, .int .i64 r181, .int .i64 r191]) ∧ L' = [(B, .cells #[.int .i64 (0 : Int), .int .i64 (0 : Int), .int .i64 (0 : Int), .int .i64 (0 : Int), .int .i64 (0 : Int), .int .i64 (0 : Int), .string (⟨#[]⟩)] 23), (B1, .cells #[.int .i64 r51] 3), (B3, .cells #[.int .i64 r91] 3), (B5, .cells #[.int .i64 r131] 3), (B6, .cells ⟨(((((([.int .i64 r51] : List Value) ++ r8)).take (1 * 1) ++ ([.int .i64 r91] : List Value) ++ r12)).take ((1 + 1) * 1) ++ ([.int .i64 r131] : List Value) ++ r16)⟩ 3)] ∧
                            ((¬ (r191 = (0 : Int))) →
                              Fin R [(B, .cells #[.int .i64 (0 : Int), .int .i64 (0 : Int), .int .i64 (0 : Int), .int .i64 (0 : Int), .int .i64 (0 : Int), .int .i64 (0 : Int), .string (⟨#[]⟩)] 23), (B1, .cells #[.int .i64 r51] 3), (B3, .cells #[.int .i64 r91] 3), (B5, .cells #[.int .i64 r131] 3), (B6, .cells ⟨(((((([.int .i64 r51] : List Value) ++ r8)).take (1 * 1) ++ ([.int .i64 r91] : List Value) ++ r12)).take ((1 + 1) * 1) ++ ([.int .i64 r131] : List Value) ++ r16)⟩ 3)] [] w0 (.tuple #[.agg #[.int .i64 (0 : Int), .int .i64 (0 : Int), .int .i64 (0 : Int), .int .i64 (0 : Int), .int .i64 (0 : Int), .int .i64 (0 : Int), .string (⟨#[]⟩)], .int .i64 (10 : Int)])) ∧
                             ((r191 = (0 : Int)) →
                              ∀ B7 : Nat,
                              (((1 + 1) + 1) ≤ cap2 ∧ ((((((([.int .i64 r51] : List Value) ++ r8)).take (1 * 1) ++ ([.int .i64 r91] : List Value) ++ r12)).take ((1 + 1) * 1) ++ ([.int .i64 r131] : List Value) ++ r16)).length = cap2 * 1) ∧ ((((1 + 1) + 1) + 1) ≤ 9223372036854775807 ∧ (((1 + 1) + 1) + 1) * 8 ≤ 140737488355328) ∧
                              ∀ (B8 cap3 : Nat) (r20 : List Value), (((1 + 1) + 1) + 1) ≤ cap3 → (((((((([.int .i64 r51] : List Value) ++ r8)).take (1 * 1) ++ ([.int .i64 r91] : List Value) ++ r12)).take ((1 + 1) * 1) ++ ([.int .i64 r131] : List Value) ++ r16)).take (((1 + 1) + 1) * 1) ++ ([.int .i64 r171] : List Value) ++ r20).length = cap3 * 1 →
                              CallH Tryd.prog 31 ⟨[.string s, .int .i64 r181]⟩ [(B, .cells #[.int .i64 (0 : Int), .int .i64 (0 : Int), .int .i64 (0 : Int), .int .i64 (0 : Int), .int .i64 (0 : Int), .int .i64 (0 : Int), .string (⟨#[]⟩)] 23), (B1, .cells #[.int .i64 r51] 3), (B3, .cells #[.int .i64 r91] 3), (B5, .cells #[.int .i64 r131] 3), (B7, .cells #[.int .i64 r171] 3), (B8, .cells ⟨(((((((([.int .i64 r51] : List Value) ++ r8)).take (1 * 1) ++ ([.int .i64 r91] : List Value) ++ r12)).take ((1 + 1) * 1) ++ ([.int .i64 r131] : List Value) ++ r16)).take (((1 + 1) + 1) * 1) ++ ([.int .i64 r171] : List Value) ++ r20)⟩ 3)] [] w0 (fun v L' => ∃ (r221 : Int) (r231 : Int) (r241 : Int), v = (.tuple #[.int .i64 r221, .int .i64 r231, .int .i64 r241]) ∧ L' = [(B, .cells #[.int .i64 (0 : Int), .int .i64 (0 : Int), .int .i64 (0 : Int), .int .i64 (0 : Int), .int .i64 (0 : Int), .int .i64 (0 : Int), .string (⟨#[]⟩)] 23), (B1, .cells #[.int .i64 r51] 3), (B3, .cells #[.int .i64 r91] 3), (B5, .cells #[.int .i64 r131] 3), (B7, .cells #[.int .i64 r171] 3), (B8, .cells ⟨(((((((([.int .i64 r51] : List Value) ++ r8)).take (1 * 1) ++ ([.int .i64 r91] : List Value) ++ r12)).take ((1 + 1) * 1) ++ ([.int .i64 r131] : List Value) ++ r16)).take (((1 + 1) + 1) * 1) ++ ([.int .i64 r171] : List Value) ++ r20)⟩ 3)] ∧
                                ((¬ (r241 = (0 : Int))) →
                                  Fin R [(B, .cells #[.int .i64 (0 : Int), .int .i64 (0 : Int), .int .i64 (0 : Int), .int .i64 (0 : Int), .int .i64 (0 : Int), .int .i64 (0 : Int), .string (⟨#[]⟩)] 23), (B1, .cells #[.int .i64 r51] 3), (B3, .cells #[.int .i64 r91] 3), (B5, .cells #[.int .i64 r131] 3), (B7, .cells #[.int .i64 r171] 3), (B8, .cells ⟨(((((((([.int .i64 r51] : List Value) ++ r8)).take (1 * 1) ++ ([.int .i64 r91] : List Value) ++ r12)).take ((1 + 1) * 1) ++ ([.int .i64 r131] : List Value) ++ r16)).take (((1 + 1) + 1) * 1) ++ ([.int .i64 r171] : List Value) ++ r20)⟩ 3)] [] w0 (.tuple #[.agg #[.int .i64 (0 : Int), .int .i64 (0 : Int), .int .i64 (0 : Int), .int .i64 (0 : Int), .int .i64 (0 : Int), .int .i64 (0 : Int), .string (⟨#[]⟩)], .int .i64 (10 : Int)])) ∧
                                 ((r241 = (0 : Int)) →
                                  ∀ B9 : Nat,
                                  ((((1 + 1) + 1) + 1) ≤ cap3 ∧ ((((((((([.int .i64 r51] : List Value) ++ r8)).take (1 * 1) ++ ([.int .i64 r91] : List Value) ++ r12)).take ((1 + 1) * 1) ++ ([.int .i64 r131] : List Value) ++ r16)).take (((1 + 1) + 1) * 1) ++ ([.int .i64 r171] : List Value) ++ r20)).length = cap3 * 1) ∧ (((((1 + 1) + 1) + 1) + 1) ≤ 9223372036854775807 ∧ ((((1 + 1) + 1) + 1) + 1) * 8 ≤ 140737488355328) ∧
                                  ∀ (B10 cap4 : Nat) (r25 : List Value), ((((1 + 1) + 1) + 1) + 1) ≤ cap4 → (((((((((([.int .i64 r51] : List Value) ++ r8)).take (1 * 1) ++ ([.int .i64 r91] : List Value) ++ r12)).take ((1 + 1) * 1) ++ ([.int .i64 r131] : List Value) ++ r16)).take (((1 + 1) + 1) * 1) ++ ([.int .i64 r171] : List Value) ++ r20)).take ((((1 + 1) + 1) + 1) * 1) ++ ([.int .i64 r221] : List Value) ++ r25).length = cap4 * 1 →
                                  CallH Tryd.prog 31 ⟨[.string s, .int .i64 r231]⟩ [(B, .cells #[.int .i64 (0 : Int), .int .i64 (0 : Int), .int .i64 (0 : Int), .int .i64 (0 : Int), .int .i64 (0 : Int), .int .i64 (0 : Int), .string (⟨#[]⟩)] 23), (B1, .cells #[.int .i64 r51] 3), (B3, .cells #[.int .i64 r91] 3), (B5, .cells #[.int .i64 r131] 3), (B7, .cells #[.int .i64 r171] 3), (B9, .cells #[.int .i64 r221] 3), (B10, .cells ⟨(((((((((([.int .i64 r51] : List Value) ++ r8)).take (1 * 1) ++ ([.int .i64 r91] : List Value) ++ r12)).take ((1 + 1) * 1) ++ ([.int .i64 r131] : List Value) ++ r16)).take (((1 + 1) + 1) * 1) ++ ([.int .i64 r171] : List Value) ++ r20)).take ((((1 + 1) + 1) + 1) * 1) ++ ([.int .i64 r221] : List Value) ++ r25)⟩ 3)] [] w0 (fun v L' => ∃ (r261 : Int) (r271 : Int) (r281 : Int), v = (.tuple #[.int .i64 r261, .int .i64 r271, .int .i64 r281]) ∧ L' = [(B, .cells #[.int .i64 (0 : Int), .int .i64 (0 : Int), .int .i64 (0 : Int), .int .i64 (0 : Int), .int .i64 (0 : Int), .int .i64 (0 : Int), .string (⟨#[]⟩)] 23), (B1, .cells #[.int .i64 r51] 3), (B3, .cells #[.int .i64 r91] 3), (B5, .cells #[.int .i64 r131] 3), (B7, .cells #[.int .i64 r171] 3), (B9, .cells #[.int .i64 r221] 3), (B10, .cells ⟨(((((((((([.int .i64 r51] : List Value) ++ r8)).take (1 * 1) ++ ([.int .i64 r91] : List Value) ++ r12)).take ((1 + 1) * 1) ++ ([.int .i64 r131] : List Value) ++ r16)).take (((1 + 1) + 1) * 1) ++ ([.int .i64 r171] : List Value) ++ r20)).take ((((1 + 1) + 1) + 1) * 1) ++ ([.int .i64 r221] : List Value) ++ r25)⟩ 3)] ∧
                                    ((¬ (r281 = (0 : Int))) →
                                      Fin R [(B, .cells #[.int .i64 (0 : Int), .int .i64 (0 : Int), .int .i64 (0 : Int), .int .i64 (0 : Int), .int .i64 (0 : Int), .int .i64 (0 : Int), .string (⟨#[]⟩)] 23), (B1, .cells #[.int .i64 r51] 3), (B3, .cells #[.int .i64 r91] 3), (B5, .cells #[.int .i64 r131] 3), (B7, .cells #[.int .i64 r171] 3), (B9, .cells #[.int .i64 r221] 3), (B10, .cells ⟨(((((((((([.int .i64 r51] : List Value) ++ r8)).take (1 * 1) ++ ([.int .i64 r91] : List Value) ++ r12)).take ((1 + 1) * 1) ++ ([.int .i64 r131] : List Value) ++ r16)).take (((1 + 1) + 1) * 1) ++ ([.int .i64 r171] : List Value) ++ r20)).take ((((1 + 1) + 1) + 1) * 1) ++ ([.int .i64 r221] : List Value) ++ r25)⟩ 3)] [] w0 (.tuple #[.agg #[.int .i64 (0 : Int), .int .i64 (0 : Int), .int .i64 (0 : Int), .int .i64 (0 : Int), .int .i64 (0 : Int), .int .i64 (0 : Int), .string (⟨#[]⟩)], .int .i64 (10 : Int)])) ∧
                                     ((r281 = (0 : Int)) →
                                      ∀ B11 : Nat,
                                      (((((1 + 1) + 1) + 1) + 1) ≤ cap4 ∧ ((((((((((([.int .i64 r51] : List Value) ++ r8)).take (1 * 1) ++ ([.int .i64 r91] : List Value) ++ r12)).take ((1 + 1) * 1) ++ ([.int .i64 r131] : List Value) ++ r16)).take (((1 + 1) + 1) * 1) ++ ([.int .i64 r171] : List Value) ++ r20)).take ((((1 + 1) + 1) + 1) * 1) ++ ([.int .i64 r221] : List Value) ++ r25)).length = cap4 * 1) ∧ ((((((1 + 1) + 1) + 1) + 1) + 1) ≤ 9223372036854775807 ∧ (((((1 + 1) + 1) + 1) + 1) + 1) * 8 ≤ 140737488355328) ∧
                                      ∀ (B12 cap5 : Nat) (r29 : List Value), (((((1 + 1) + 1) + 1) + 1) + 1) ≤ cap5 → (((((((((((([.int .i64 r51] : List Value) ++ r8)).take (1 * 1) ++ ([.int .i64 r91] : List Value) ++ r12)).take ((1 + 1) * 1) ++ ([.int .i64 r131] : List Value) ++ r16)).take (((1 + 1) + 1) * 1) ++ ([.int .i64 r171] : List Value) ++ r20)).take ((((1 + 1) + 1) + 1) * 1) ++ ([.int .i64 r221] : List Value) ++ r25)).take (((((1 + 1) + 1) + 1) + 1) * 1) ++ ([.int .i64 r261] : List Value) ++ r29).length = cap5 * 1 →
                                      CallH Tryd.prog 32 ⟨[.string s, .int .i64 r271]⟩ [(B, .cells #[.int .i64 (0 : Int), .int .i64 (0 : Int), .int .i64 (0 : Int), .int .i64 (0 : Int), .int .i64 (0 : Int), .int .i64 (0 : Int), .string (⟨#[]⟩)] 23), (B1, .cells #[.int .i64 r51] 3), (B3, .cells #[.int .i64 r91] 3), (B5, .cells #[.int .i64 r131] 3), (B7, .cells #[.int .i64 r171] 3), (B9, .cells #[.int .i64 r221] 3), (B11, .cells #[.int .i64 r261] 3), (B12, .cells ⟨(((((((((((([.int .i64 r51] : List Value) ++ r8)).take (1 * 1) ++ ([.int .i64 r91] : List Value) ++ r12)).take ((1 + 1) * 1) ++ ([.int .i64 r131] : List Value) ++ r16)).take (((1 + 1) + 1) * 1) ++ ([.int .i64 r171] : List Value) ++ r20)).take ((((1 + 1) + 1) + 1) * 1) ++ ([.int .i64 r221] : List Value) ++ r25)).take (((((1 + 1) + 1) + 1) + 1) * 1) ++ ([.int .i64 r261] : List Value) ++ r29)⟩ 3)] [] w0 (fun v L' => ∃ (r301 : ByteArray) (r321 : Int) (r331 : Int), v = (.tuple #[.string r301, .int .i64 r321, .int .i64 r331]) ∧ L' = [(B, .cells #[.int .i64 (0 : Int), .int .i64 (0 : Int), .int .i64 (0 : Int), .int .i64 (0 : Int), .int .i64 (0 : Int), .int .i64 (0 : Int), .string (⟨#[]⟩)] 23), (B1, .cells #[.int .i64 r51] 3), (B3, .cells #[.int .i64 r91] 3), (B5, .cells #[.int .i64 r131] 3), (B7, .cells #[.int .i64 r171] 3), (B9, .cells #[.int .i64 r221] 3), (B11, .cells #[.int .i64 r261] 3), (B12, .cells ⟨(((((((((((([.int .i64 r51] : List Value) ++ r8)).take (1 * 1) ++ ([.int .i64 r91] : List Value) ++ r12)).take ((1 + 1) * 1) ++ ([.int .i64 r131] : List Value) ++ r16)).take (((1 + 1) + 1) * 1) ++ ([.int .i64 r171] : List Value) ++ r20)).take ((((1 + 1) + 1) + 1) * 1) ++ ([.int .i64 r221] : List Value) ++ r25)).take (((((1 + 1) + 1) + 1) + 1) * 1) ++ ([.int .i64 r261] : List Value) ++ r29)⟩ 3)] ∧
                                        ((¬ (r331 = (0 : Int))) →
                                          Fin R [(B, .cells #[.int .i64 (0 : Int), .int .i64 (0 : Int), .int .i64 (0 : Int), .int .i64 (0 : Int), .int .i64 (0 : Int), .int .i64 (0 : Int), .string (⟨#[]⟩)] 23), (B1, .cells #[.int .i64 r51] 3), (B3, .cells #[.int .i64 r91] 3), (B5, .cells #[.int .i64 r131] 3), (B7, .cells #[.int .i64 r171] 3), (B9, .cells #[.int .i64 r221] 3), (B11, .cells #[.int .i64 r261] 3), (B12, .cells ⟨(((((((((((([.int .i64 r51] : List Value) ++ r8)).take (1 * 1) ++ ([.int .i64 r91] : List Value) ++ r12)).take ((1 + 1) * 1) ++ ([.int .i64 r131] : List Value) ++ r16)).take (((1 + 1) + 1) * 1) ++ ([.int .i64 r171] : List Value) ++ r20)).take ((((1 + 1) + 1) + 1) * 1) ++ ([.int .i64 r221] : List Value) ++ r25)).take (((((1 + 1) + 1) + 1) + 1) * 1) ++ ([.int .i64 r261] : List Value) ++ r29)⟩ 3)] [] w0 (.tuple #[.agg #[.int .i64 (0 : Int), .int .i64 (0 : Int), .int .i64 (0 : Int), .int .i64 (0 : Int), .int .i64 (0 : Int), .int .i64 (0 : Int), .string (⟨#[]⟩)], .int .i64 (10 : Int)])) ∧
                                         ((r331 = (0 : Int)) →
                                          ((¬ (r321 = (s.size : Int))) →
                                            Fin R [(B, .cells #[.int .i64 (0 : Int), .int .i64 (0 : Int), .int .i64 (0 : Int), .int .i64 (0 : Int), .int .i64 (0 : Int), .int .i64 (0 : Int), .string (⟨#[]⟩)] 23), (B1, .cells #[.int .i64 r51] 3), (B3, .cells #[.int .i64 r91] 3), (B5, .cells #[.int .i64 r131] 3), (B7, .cells #[.int .i64 r171] 3), (B9, .cells #[.int .i64 r221] 3), (B11, .cells #[.int .i64 r261] 3), (B12, .cells ⟨(((((((((((([.int .i64 r51] : List Value) ++ r8)).take (1 * 1) ++ ([.int .i64 r91] : List Value) ++ r12)).take ((1 + 1) * 1) ++ ([.int .i64 r131] : List Value) ++ r16)).take (((1 + 1) + 1) * 1) ++ ([.int .i64 r171] : List Value) ++ r20)).take ((((1 + 1) + 1) + 1) * 1) ++ ([.int .i64 r221] : List Value) ++ r25)).take (((((1 + 1) + 1) + 1) + 1) * 1) ++ ([.int .i64 r261] : List Value) ++ r29)⟩ 3)] [] w0 (.tuple #[.agg #[.int .i64 (0 : Int), .int .i64 (0 : Int), .int .i64 (0 : Int), .int .i64 (0 : Int), .int .i64 (0 : Int), .int .i64 (0 : Int), .string (⟨#[]⟩)], .int .i64 (10 : Int)])) ∧
                                           ((r321 = (s.size : Int)) →
                                            (0 ≤ (0 : Int) ∧ (0 : Int) < (((((1 + 1) + 1) + 1) + 1) + 1)) ∧
                                            ∃ (m1 : Int), ((((((((((((([.int .i64 r51] : List Value) ++ r8)).take (1 * 1) ++ ([.int .i64 r91] : List Value) ++ r12)).take ((1 + 1) * 1) ++ ([.int .i64 r131] : List Value) ++ r16)).take (((1 + 1) + 1) * 1) ++ ([.int .i64 r171] : List Value) ++ r20)).take ((((1 + 1) + 1) + 1) * 1) ++ ([.int .i64 r221] : List Value) ++ r25)).take (((((1 + 1) + 1) + 1) + 1) * 1) ++ ([.int .i64 r261] : List Value) ++ r29))[0]? = some (.int .i64 m1) ∧
                                            (0 ≤ (1 : Int) ∧ (1 : Int) < (((((1 + 1) + 1) + 1) + 1) + 1)) ∧
                                            ∃ (m21 : Int), ((((((((((((([.int .i64 r51] : List Value) ++ r8)).take (1 * 1) ++ ([.int .i64 r91] : List Value) ++ r12)).take ((1 + 1) * 1) ++ ([.int .i64 r131] : List Value) ++ r16)).take (((1 + 1) + 1) * 1) ++ ([.int .i64 r171] : List Value) ++ r20)).take ((((1 + 1) + 1) + 1) * 1) ++ ([.int .i64 r221] : List Value) ++ r25)).take (((((1 + 1) + 1) + 1) + 1) * 1) ++ ([.int .i64 r261] : List Value) ++ r29))[1]? = some (.int .i64 m21) ∧
                                            (0 ≤ (2 : Int) ∧ (2 : Int) < (((((1 + 1) + 1) + 1) + 1) + 1)) ∧
                                            ∃ (m31 : Int), ((((((((((((([.int .i64 r51] : List Value) ++ r8)).take (1 * 1) ++ ([.int .i64 r91] : List Value) ++ r12)).take ((1 + 1) * 1) ++ ([.int .i64 r131] : List Value) ++ r16)).take (((1 + 1) + 1) * 1) ++ ([.int .i64 r171] : List Value) ++ r20)).take ((((1 + 1) + 1) + 1) * 1) ++ ([.int .i64 r221] : List Value) ++ r25)).take (((((1 + 1) + 1) + 1) + 1) * 1) ++ ([.int .i64 r261] : List Value) ++ r29))[2]? = some (.int .i64 m31) ∧
                                            (0 ≤ (3 : Int) ∧ (3 : Int) < (((((1 + 1) + 1) + 1) + 1) + 1)) ∧
                                            ∃ (m41 : Int), ((((((((((((([.int .i64 r51] : List Value) ++ r8)).take (1 * 1) ++ ([.int .i64 r91] : List Value) ++ r12)).take ((1 + 1) * 1) ++ ([.int .i64 r131] : List Value) ++ r16)).take (((1 + 1) + 1) * 1) ++ ([.int .i64 r171] : List Value) ++ r20)).take ((((1 + 1) + 1) + 1) * 1) ++ ([.int .i64 r221] : List Value) ++ r25)).take (((((1 + 1) + 1) + 1) + 1) * 1) ++ ([.int .i64 r261] : List Value) ++ r29))[3]? = some (.int .i64 m41) ∧
                                            (0 ≤ (4 : Int) ∧ (4 : Int) < (((((1 + 1) + 1) + 1) + 1) + 1)) ∧
                                            ∃ (m51 : Int), ((((((((((((([.int .i64 r51] : List Value) ++ r8)).take (1 * 1) ++ ([.int .i64 r91] : List Value) ++ r12)).take ((1 + 1) * 1) ++ ([.int .i64 r131] : List Value) ++ r16)).take (((1 + 1) + 1) * 1) ++ ([.int .i64 r171] : List Value) ++ r20)).take ((((1 + 1) + 1) + 1) * 1) ++ ([.int .i64 r221] : List Value) ++ r25)).take (((((1 + 1) + 1) + 1) + 1) * 1) ++ ([.int .i64 r261] : List Value) ++ r29))[4]? = some (.int .i64 m51) ∧
                                            (0 ≤ (5 : Int) ∧ (5 : Int) < (((((1 + 1) + 1) + 1) + 1) + 1)) ∧
                                            ∃ (m61 : Int), ((((((((((((([.int .i64 r51] : List Value) ++ r8)).take (1 * 1) ++ ([.int .i64 r91] : List Value) ++ r12)).take ((1 + 1) * 1) ++ ([.int .i64 r131] : List Value) ++ r16)).take (((1 + 1) + 1) * 1) ++ ([.int .i64 r171] : List Value) ++ r20)).take ((((1 + 1) + 1) + 1) * 1) ++ ([.int .i64 r221] : List Value) ++ r25)).take (((((1 + 1) + 1) + 1) + 1) * 1) ++ ([.int .i64 r261] : List Value) ++ r29))[5]? = some (.int .i64 m61) ∧
                                            ∀ B13 : Nat,
                                            CallH Tryd.prog 15 ⟨[.agg #[.int .i64 m1, .int .i64 m21, .int .i64 m31, .int .i64 m41, .int .i64 m51, .int .i64 m61, .string r301]]⟩ [(B, .cells #[.int .i64 (0 : Int), .int .i64 (0 : Int), .int .i64 (0 : Int), .int .i64 (0 : Int), .int .i64 (0 : Int), .int .i64 (0 : Int), .string (⟨#[]⟩)] 23), (B1, .cells #[.int .i64 r51] 3), (B3, .cells #[.int .i64 r91] 3), (B5, .cells #[.int .i64 r131] 3), (B7, .cells #[.int .i64 r171] 3), (B9, .cells #[.int .i64 r221] 3), (B11, .cells #[.int .i64 r261] 3), (B12, .cells ⟨(((((((((((([.int .i64 r51] : List Value) ++ r8)).take (1 * 1) ++ ([.int .i64 r91] : List Value) ++ r12)).take ((1 + 1) * 1) ++ ([.int .i64 r131] : List Value) ++ r16)).take (((1 + 1) + 1) * 1) ++ ([.int .i64 r171] : List Value) ++ r20)).take ((((1 + 1) + 1) + 1) * 1) ++ ([.int .i64 r221] : List Value) ++ r25)).take (((((1 + 1) + 1) + 1) + 1) * 1) ++ ([.int .i64 r261] : List Value) ++ r29)⟩ 3), (B13, .cells #[.int .i64 m1, .int .i64 m21, .int .i64 m31, .int .i64 m41, .int .i64 m51, .int .i64 m61, .string r301] 23)] [] w0 (fun v L' => ∃ (r341 : Bool), v = (.bool r341) ∧ L' = [(B, .cells #[.int .i64 (0 : Int), .int .i64 (0 : Int), .int .i64 (0 : Int), .int .i64 (0 : Int), .int .i64 (0 : Int), .int .i64 (0 : Int), .string (⟨#[]⟩)] 23), (B1, .cells #[.int .i64 r51] 3), (B3, .cells #[.int .i64 r91] 3), (B5, .cells #[.int .i64 r131] 3), (B7, .cells #[.int .i64 r171] 3), (B9, .cells #[.int .i64 r221] 3), (B11, .cells #[.int .i64 r261] 3), (B12, .cells ⟨(((((((((((([.int .i64 r51] : List Value) ++ r8)).take (1 * 1) ++ ([.int .i64 r91] : List Value) ++ r12)).take ((1 + 1) * 1) ++ ([.int .i64 r131] : List Value) ++ r16)).take (((1 + 1) + 1) * 1) ++ ([.int .i64 r171] : List Value) ++ r20)).take ((((1 + 1) + 1) + 1) * 1) ++ ([.int .i64 r221] : List Value) ++ r25)).take (((((1 + 1) + 1) + 1) + 1) * 1) ++ ([.int .i64 r261] : List Value) ++ r29)⟩ 3), (B13, .cells #[.int .i64 m1, .int .i64 m21, .int .i64 m31, .int .i64 m41, .int .i64 m51, .int .i64 m61, .string r301] 23)] ∧
                                              ((r341 = true) →
                                                Fin R [(B, .cells #[.int .i64 m1, .int .i64 m21, .int .i64 m31, .int .i64 m41, .int .i64 m51, .int .i64 m61, .string r301] 23), (B1, .cells #[.int .i64 r51] 3), (B3, .cells #[.int .i64 r91] 3), (B5, .cells #[.int .i64 r131] 3), (B7, .cells #[.int .i64 r171] 3), (B9, .cells #[.int .i64 r221] 3), (B11, .cells #[.int .i64 r261] 3), (B12, .cells ⟨(((((((((((([.int .i64 r51] : List Value) ++ r8)).take (1 * 1) ++ ([.int .i64 r91] : List Value) ++ r12)).take ((1 + 1) * 1) ++ ([.int .i64 r131] : List Value) ++ r16)).take (((1 + 1) + 1) * 1) ++ ([.int .i64 r171] : List Value) ++ r20)).take ((((1 + 1) + 1) + 1) * 1) ++ ([.int .i64 r221] : List Value) ++ r25)).take (((((1 + 1) + 1) + 1) + 1) * 1) ++ ([.int .i64 r261] : List Value) ++ r29)⟩ 3), (B13, .cells #[.int .i64 m1, .int .i64 m21, .int .i64 m31, .int .i64 m41, .int .i64 m51, .int .i64 m61, .string r301] 23)] [] w0 (.tuple #[.agg #[.int .i64 m1, .int .i64 m21, .int .i64 m31, .int .i64 m41, .int .i64 m51, .int .i64 m61, .string r301], .int .i64 (0 : Int)])) ∧
                                               ((r341 = false) →
                                                Fin R [(B, .cells #[.int .i64 (0 : Int), .int .i64 (0 : Int), .int .i64 (0 : Int), .int .i64 (0 : Int), .int .i64 (0 : Int), .int .i64 (0 : Int), .string (⟨#[]⟩)] 23), (B1, .cells #[.int .i64 r51] 3), (B3, .cells #[.int .i64 r91] 3), (B5, .cells #[.int .i64 r131] 3), (B7, .cells #[.int .i64 r171] 3), (B9, .cells #[.int .i64 r221] 3), (B11, .cells #[.int .i64 r261] 3), (B12, .cells ⟨(((((((((((([.int .i64 r51] : List Value) ++ r8)).take (1 * 1) ++ ([.int .i64 r91] : List Value) ++ r12)).take ((1 + 1) * 1) ++ ([.int .i64 r131] : List Value) ++ r16)).take (((1 + 1) + 1) * 1) ++ ([.int .i64 r171] : List Value) ++ r20)).take ((((1 + 1) + 1) + 1) * 1) ++ ([.int .i64 r221] : List Value) ++ r25)).take (((((1 + 1) + 1) + 1) + 1) * 1) ++ ([.int .i64 r261] : List Value) ++ r29)⟩ 3), (B13, .cells #[.int .i64 m1, .int .i64 m21, .int .i64 m31, .int .i64 m41, .int .i64 m51, .int .i64 m61, .string r301] 23)] [] w0 (.tuple #[.agg #[.int .i64 (0 : Int), .int .i64 (0 : Int), .int .i64 (0 : Int), .int .i64 (0 : Int), .int .i64 (0 : Int), .int .i64 (0 : Int), .string (⟨#[]⟩)], .int .i64 (200 : Int)]))))))))))))))))))))))) :
    Calls Tryd.prog 17 ⟨[.string s]⟩ W R := by
  refine AtE.calls (nt := 94) Tryd.func17 (by kernel_rfl) hm ?_
  refine AtE.run 2 (fun W => by kernel_rfl) ?_
  refine AtE.new (fun B => .pointer (some ⟨B, 0, none⟩)) (.cells #[.int .i64 (0 : Int), .int .i64 (0 : Int), .int .i64 (0 : Int), .int .i64 (0 : Int), .int .i64 (0 : Int), .int .i64 (0 : Int), .string (⟨#[]⟩)] 23) (fun W => by kernel_rfl) (by kernel_rfl) (fun B => ?_)
  replace H := H B
  refine AtE.run 5 (fun W => by kernel_rfl) ?_
  refine AtE.call 31 ⟨[.string s, .int .i64 (0 : Int)]⟩ (fun W => by kernel_rfl) (by kernel_rfl) H ?_
  clear H
  rintro _ _ ⟨r1, r21, r31, rfl, rfl, H⟩
  refine AtE.run 14 (fun W => by kernel_rfl) ?_
  refine AtE.splitN 24 (p := r31 = (0 : Int)) (by kernel_rfl) (fun h1' => ?_) (fun h1' => ?_)
  · replace H := H.1 h1'
    refine AtE.run 4 (fun W => by kernel_rfl) ?_
    refine AtE.store 0 0 (T := 23) (v := .agg #[.int .i64 (0 : Int), .int .i64 (0 : Int), .int .i64 (0 : Int), .int .i64 (0 : Int), .int .i64 (0 : Int), .int .i64 (0 : Int), .string (⟨#[]⟩)]) (by kernel_rfl) ?_
    refine AtE.run 2 (fun W => by kernel_rfl) ?_
    exact AtE.retR Tryd.func17 (by kernel_rfl) (ResOk.ct (a := 2) (b := 3) (T := 23) (u := .agg #[.int .i64 (0 : Int), .int .i64 (0 : Int), .int .i64 (0 : Int), .int .i64 (0 : Int), .int .i64 (0 : Int), .int .i64 (0 : Int), .string (⟨#[]⟩)]) (v := .int .i64 (10 : Int)) 0 0 (by kernel_rfl) (by kernel_rfl)) H
  · replace H := H.2 h1'
    refine AtE.run 7 (fun W => by kernel_rfl) ?_
    refine AtE.sliceS (s := s) (lo := some (.int .i64 r21)) (hi := none) (a := r21) (b := (s.size : Int)) (by kernel_rfl) (.inl ⟨.i64, rfl⟩) (.inr ⟨rfl, rfl⟩) H.1 ?_
    replace H := H.2
    refine AtE.call 25 ⟨[.string (s.extract (Int.toNat r21) s.size)]⟩ (fun W => by kernel_rfl) (by kernel_rfl) H ?_
    clear H
    rintro _ _ ⟨r41, rfl, rfl, H⟩
    refine AtE.run 3 (fun W => by kernel_rfl) ?_
    refine AtE.splitN 31 (p := r41 = r1) (by kernel_rfl) (fun h2' => ?_) (fun h2' => ?_)
    · replace H := H.1 h2'
      refine AtE.run 4 (fun W => by kernel_rfl) ?_
      refine AtE.store 0 0 (T := 23) (v := .agg #[.int .i64 (0 : Int), .int .i64 (0 : Int), .int .i64 (0 : Int), .int .i64 (0 : Int), .int .i64 (0 : Int), .int .i64 (0 : Int), .string (⟨#[]⟩)]) (by kernel_rfl) ?_
      refine AtE.norm (k' := [.inRegion (regOps [.code (sub (Eng.body Tryd.f17) [1, 1, 1, 0, 1, 0, 0])]) [2], .code (sub (Eng.body Tryd.f17) [1, 1, 1, 0, 1, 0, 1]), .code (sub (Eng.body Tryd.f17) [1, 1, 1, 1])]) (e' := [(2, .pointer (some ⟨B, 0, none⟩))]) (L' := [(B, .cells #[.int .i64 (0 : Int), .int .i64 (0 : Int), .int .i64 (0 : Int), .int .i64 (0 : Int), .int .i64 (0 : Int), .int .i64 (0 : Int), .string (⟨#[]⟩)] 23)]) ?_ (by kernel_rfl)
      refine AtE.run 2 (fun W => by kernel_rfl) ?_
      exact AtE.retR Tryd.func17 (by kernel_rfl) (ResOk.ct (a := 2) (b := 3) (T := 23) (u := .agg #[.int .i64 (0 : Int), .int .i64 (0 : Int), .int .i64 (0 : Int), .int .i64 (0 : Int), .int .i64 (0 : Int), .int .i64 (0 : Int), .string (⟨#[]⟩)]) (v := .int .i64 (200 : Int)) 0 0 (by kernel_rfl) (by kernel_rfl)) H
    · replace H := H.2 h2'
      refine AtE.run 27 (fun W => by kernel_rfl) ?_
      refine AtE.call 31 ⟨[.string s, .int .i64 r21]⟩ (fun W => by kernel_rfl) (by kernel_rfl) H ?_
      clear H
      rintro _ _ ⟨r51, r61, r71, rfl, rfl, H⟩
      refine AtE.norm (k' := [.inRegion (regOps [.code (sub (Eng.body Tryd.f17) [1, 1, 1, 1, 1, 0, 1, 0, 0, 1, 0, 0, 0])]) [3, 4, 5, 6, 7, 8, 9], .code (sub (Eng.body Tryd.f17) [1, 1, 1, 1, 1, 0, 1, 0, 0, 1, 0, 0, 1]), .inBlock 1, .code (sub (Eng.body Tryd.f17) [1, 1, 1, 1, 1, 0, 1, 0, 0, 1, 1]), .inLoop (sub (Eng.body Tryd.f17) [1, 1, 1, 1, 1, 0, 1, 0, 0]), .inBlock 0, .code (sub (Eng.body Tryd.f17) [1, 1, 1, 1, 1, 1])]) (e' := [(0, .string s), (2, .pointer (some ⟨B, 0, none⟩)), (7, .slice none 0 0), (8, .int .i64 (0 : Int)), (40, .tuple #[.int .i64 r51, .int .i64 r61, .int .i64 r71])]) (L' := [(B, .cells #[.int .i64 (0 : Int), .int .i64 (0 : Int), .int .i64 (0 : Int), .int .i64 (0 : Int), .int .i64 (0 : Int), .int .i64 (0 : Int), .string (⟨#[]⟩)] 23)]) ?_ (by kernel_rfl)
      refine AtE.run 14 (fun W => by kernel_rfl) ?_
      refine AtE.splitN 45 (p := r71 = (0 : Int)) (by kernel_rfl) (fun h3' => ?_) (fun h3' => ?_)
      · replace H := H.1 h3'
        refine AtE.run 4 (fun W => by kernel_rfl) ?_
        refine AtE.store 0 0 (T := 23) (v := .agg #[.int .i64 (0 : Int), .int .i64 (0 : Int), .int .i64 (0 : Int), .int .i64 (0 : Int), .int .i64 (0 : Int), .int .i64 (0 : Int), .string (⟨#[]⟩)]) (by kernel_rfl) ?_
        refine AtE.run 2 (fun W => by kernel_rfl) ?_
        exact AtE.retR Tryd.func17 (by kernel_rfl) (ResOk.ct (a := 2) (b := 3) (T := 23) (u := .agg #[.int .i64 (0 : Int), .int .i64 (0 : Int), .int .i64 (0 : Int), .int .i64 (0 : Int), .int .i64 (0 : Int), .int .i64 (0 : Int), .string (⟨#[]⟩)]) (v := .int .i64 (10 : Int)) 0 0 (by kernel_rfl) (by kernel_rfl)) H
      · replace H := H.2 h3'
        refine AtE.run 6 (fun W => by kernel_rfl) ?_
        refine AtE.new (fun B => .slice (some ⟨B, 0, none⟩) 1 1) (.cells #[.int .i64 r51] 3) (fun W => by kernel_rfl) (by kernel_rfl) (fun B1 => ?_)
        replace H := H B1
        refine AtE.appendN (T := 55) (E := 3) (z := .int .i64 (0 : Int)) (sz := 1) (bytes := 8) (a := ⟨B1, 0, none⟩) (m := 1) (c := 1) ([.int .i64 r51] : List Value) (by kernel_rfl) (show Src _ _ _ _ ([.int .i64 r51] : List Value) from Src.own (j := 1) (o := 0) (n := 1) (c := ([.int .i64 r51] : List Value)) (by kernel_rfl)) (by simp) (by omega) (by omega) (fun B2 cap r8 h1 h2 => ?_)
        replace H := H B2 cap r8 h1 h2
        refine AtE.run 27 (fun W => by kernel_rfl) ?_
        refine AtE.call 31 ⟨[.string s, .int .i64 r61]⟩ (fun W => by kernel_rfl) (by kernel_rfl) H ?_
        clear H
        rintro _ _ ⟨r91, r101, r111, rfl, rfl, H⟩
        refine AtE.run 14 (fun W => by kernel_rfl) ?_
        refine AtE.splitN 45 (p := r111 = (0 : Int)) (by kernel_rfl) (fun h4' => ?_) (fun h4' => ?_)
        · replace H := H.1 h4'
          refine AtE.run 4 (fun W => by kernel_rfl) ?_
          refine AtE.store 0 0 (T := 23) (v := .agg #[.int .i64 (0 : Int), .int .i64 (0 : Int), .int .i64 (0 : Int), .int .i64 (0 : Int), .int .i64 (0 : Int), .int .i64 (0 : Int), .string (⟨#[]⟩)]) (by kernel_rfl) ?_
          refine AtE.run 2 (fun W => by kernel_rfl) ?_
          exact AtE.retR Tryd.func17 (by kernel_rfl) (ResOk.ct (a := 2) (b := 3) (T := 23) (u := .agg #[.int .i64 (0 : Int), .int .i64 (0 : Int), .int .i64 (0 : Int), .int .i64 (0 : Int), .int .i64 (0 : Int), .int .i64 (0 : Int), .string (⟨#[]⟩)]) (v := .int .i64 (10 : Int)) 0 0 (by kernel_rfl) (by kernel_rfl)) H
        · replace H := H.2 h4'
          refine AtE.run 6 (fun W => by kernel_rfl) ?_
          refine AtE.new (fun B => .slice (some ⟨B, 0, none⟩) 1 1) (.cells #[.int .i64 r91] 3) (fun W => by kernel_rfl) (by kernel_rfl) (fun B3 => ?_)
          replace H := H B3
          refine AtE.appendO 2 (T := 55) (E := 3) (z := .int .i64 (0 : Int)) (sz := 1) (bytes := 8) (n := 1) (cap := cap) (a := ⟨B3, 0, none⟩) (m := 1) (c := 1) (cs := (([.int .i64 r51] : List Value) ++ r8)) ([.int .i64 r91] : List Value) (by kernel_rfl) (show Src _ _ _ _ ([.int .i64 r91] : List Value) from Src.own (j := 3) (o := 0) (n := 1) (c := ([.int .i64 r91] : List Value)) (by kernel_rfl)) (by simp) (by simp [Value.oneCell']) H.1 H.2.1 (fun B4 cap1 r12 h1 h2 => ?_)
          replace H := H.2.2 B4 cap1 r12 h1 h2
          refine AtE.norm (k' := [.inRegion (regOps [.code (sub (Eng.body Tryd.f17) [1, 1, 1, 1, 1, 0, 1, 0, 0, 1, 0, 0, 1, 1, 0])]) [4], .code (sub (Eng.body Tryd.f17) [1, 1, 1, 1, 1, 0, 1, 0, 0, 1, 0, 0, 1, 1, 1]), .inBlock 1, .code (sub (Eng.body Tryd.f17) [1, 1, 1, 1, 1, 0, 1, 0, 0, 1, 1]), .inLoop (sub (Eng.body Tryd.f17) [1, 1, 1, 1, 1, 0, 1, 0, 0]), .inBlock 0, .code (sub (Eng.body Tryd.f17) [1, 1, 1, 1, 1, 1])]) (e' := [(0, .string s), (2, .pointer (some ⟨B, 0, none⟩)), (8, .int .i64 (1 : Int)), (10, .int .i64 r101), (50, .slice (some ⟨B4, 0, none⟩) (1 + 1) cap1)]) (L' := [(B, .cells #[.int .i64 (0 : Int), .int .i64 (0 : Int), .int .i64 (0 : Int), .int .i64 (0 : Int), .int .i64 (0 : Int), .int .i64 (0 : Int), .string (⟨#[]⟩)] 23), (B1, .cells #[.int .i64 r51] 3), (B3, .cells #[.int .i64 r91] 3), (B4, .cells ⟨(((([.int .i64 r51] : List Value) ++ r8)).take (1 * 1) ++ ([.int .i64 r91] : List Value) ++ r12)⟩ 3)]) ?_ (by kernel_rfl)
          refine AtE.run 27 (fun W => by kernel_rfl) ?_
          refine AtE.call 31 ⟨[.string s, .int .i64 r101]⟩ (fun W => by kernel_rfl) (by kernel_rfl) H ?_
          clear H
          rintro _ _ ⟨r131, r141, r151, rfl, rfl, H⟩
          refine AtE.run 14 (fun W => by kernel_rfl) ?_
          refine AtE.splitN 45 (p := r151 = (0 : Int)) (by kernel_rfl) (fun h5' => ?_) (fun h5' => ?_)
          · replace H := H.1 h5'
            refine AtE.run 4 (fun W => by kernel_rfl) ?_
            refine AtE.store 0 0 (T := 23) (v := .agg #[.int .i64 (0 : Int), .int .i64 (0 : Int), .int .i64 (0 : Int), .int .i64 (0 : Int), .int .i64 (0 : Int), .int .i64 (0 : Int), .string (⟨#[]⟩)]) (by kernel_rfl) ?_
            refine AtE.run 2 (fun W => by kernel_rfl) ?_
            exact AtE.retR Tryd.func17 (by kernel_rfl) (ResOk.ct (a := 2) (b := 3) (T := 23) (u := .agg #[.int .i64 (0 : Int), .int .i64 (0 : Int), .int .i64 (0 : Int), .int .i64 (0 : Int), .int .i64 (0 : Int), .int .i64 (0 : Int), .string (⟨#[]⟩)]) (v := .int .i64 (10 : Int)) 0 0 (by kernel_rfl) (by kernel_rfl)) H
          · replace H := H.2 h5'
            refine AtE.run 6 (fun W => by kernel_rfl) ?_
            refine AtE.new (fun B => .slice (some ⟨B, 0, none⟩) 1 1) (.cells #[.int .i64 r131] 3) (fun W => by kernel_rfl) (by kernel_rfl) (fun B5 => ?_)
            replace H := H B5
            refine AtE.appendO 3 (T := 55) (E := 3) (z := .int .i64 (0 : Int)) (sz := 1) (bytes := 8) (n := (1 + 1)) (cap := cap1) (a := ⟨B5, 0, none⟩) (m := 1) (c := 1) (cs := (((([.int .i64 r51] : List Value) ++ r8)).take (1 * 1) ++ ([.int .i64 r91] : List Value) ++ r12)) ([.int .i64 r131] : List Value) (by kernel_rfl) (show Src _ _ _ _ ([.int .i64 r131] : List Value) from Src.own (j := 4) (o := 0) (n := 1) (c := ([.int .i64 r131] : List Value)) (by kernel_rfl)) (by simp) (by simp [Value.oneCell']) H.1 H.2.1 (fun B6 cap2 r16 h1 h2 => ?_)
            replace H := H.2.2 B6 cap2 r16 h1 h2
            refine AtE.run 27 (fun W => by kernel_rfl) ?_
            refine AtE.call 31 ⟨[.string s, .int .i64 r141]⟩ (fun W => by kernel_rfl) (by kernel_rfl) H ?_
            clear H
            rintro _ _ ⟨r171, r181, r191, rfl, rfl, H⟩
            refine AtE.run 14 (fun W => by kernel_rfl) ?_
            refine AtE.splitN 45 (p := r191 = (0 : Int)) (by kernel_rfl) (fun h6' => ?_) (fun h6' => ?_)
            · replace H := H.1 h6'
              refine AtE.run 4 (fun W => by kernel_rfl) ?_
              refine AtE.store 0 0 (T := 23) (v := .agg #[.int .i64 (0 : Int), .int .i64 (0 : Int), .int .i64 (0 : Int), .int .i64 (0 : Int), .int .i64 (0 : Int), .int .i64 (0 : Int), .string (⟨#[]⟩)]) (by kernel_rfl) ?_
              refine AtE.norm (k' := [.inRegion (regOps [.code (sub (Eng.body Tryd.f17) [1, 1, 1, 1, 1, 0, 1, 0, 0, 1, 0, 0, 1, 0, 1, 0, 0])]) [2], .code (sub (Eng.body Tryd.f17) [1, 1, 1, 1, 1, 0, 1, 0, 0, 1, 0, 0, 1, 0, 1, 0, 1]), .code (sub (Eng.body Tryd.f17) [1, 1, 1, 1, 1, 0, 1, 0, 0, 1, 0, 0, 1, 1]), .inBlock 1, .code (sub (Eng.body Tryd.f17) [1, 1, 1, 1, 1, 0, 1, 0, 0, 1, 1]), .inLoop (sub (Eng.body Tryd.f17) [1, 1, 1, 1, 1, 0, 1, 0, 0]), .inBlock 0, .code (sub (Eng.body Tryd.f17) [1, 1, 1, 1, 1, 1])]) (e' := [(2, .pointer (some ⟨B, 0, none⟩))]) (L' := [(B, .cells #[.int .i64 (0 : Int), .int .i64 (0 : Int), .int .i64 (0 : Int), .int .i64 (0 : Int), .int .i64 (0 : Int), .int .i64 (0 : Int), .string (⟨#[]⟩)] 23), (B1, .cells #[.int .i64 r51] 3), (B3, .cells #[.int .i64 r91] 3), (B5, .cells #[.int .i64 r131] 3), (B6, .cells ⟨(((((([.int .i64 r51] : List Value) ++ r8)).take (1 * 1) ++ ([.int .i64 r91] : List Value) ++ r12)).take ((1 + 1) * 1) ++ ([.int .i64 r131] : List Value) ++ r16)⟩ 3)]) ?_ (by kernel_rfl)
              refine AtE.run 2 (fun W => by kernel_rfl) ?_
              exact AtE.retR Tryd.func17 (by kernel_rfl) (ResOk.ct (a := 2) (b := 3) (T := 23) (u := .agg #[.int .i64 (0 : Int), .int .i64 (0 : Int), .int .i64 (0 : Int), .int .i64 (0 : Int), .int .i64 (0 : Int), .int .i64 (0 : Int), .string (⟨#[]⟩)]) (v := .int .i64 (10 : Int)) 0 0 (by kernel_rfl) (by kernel_rfl)) H
            · replace H := H.2 h6'
              refine AtE.run 6 (fun W => by kernel_rfl) ?_
              refine AtE.new (fun B => .slice (some ⟨B, 0, none⟩) 1 1) (.cells #[.int .i64 r171] 3) (fun W => by kernel_rfl) (by kernel_rfl) (fun B7 => ?_)
              replace H := H B7
              refine AtE.norm (k' := [.inRegion (regOps [.code (sub (Eng.body Tryd.f17) [1, 1, 1, 1, 1, 0, 1, 0, 0, 1, 0, 0, 1, 1, 0])]) [3, 4], .code (sub (Eng.body Tryd.f17) [1, 1, 1, 1, 1, 0, 1, 0, 0, 1, 0, 0, 1, 1, 1]), .inBlock 1, .code (sub (Eng.body Tryd.f17) [1, 1, 1, 1, 1, 0, 1, 0, 0, 1, 1]), .inLoop (sub (Eng.body Tryd.f17) [1, 1, 1, 1, 1, 0, 1, 0, 0]), .inBlock 0, .code (sub (Eng.body Tryd.f17) [1, 1, 1, 1, 1, 1])]) (e' := [(0, .string s), (2, .pointer (some ⟨B, 0, none⟩)), (8, .int .i64 (3 : Int)), (10, .int .i64 r181), (47, .slice (some ⟨B6, 0, none⟩) ((1 + 1) + 1) cap2), (49, .slice (some ⟨B7, 0, none⟩) 1 1)]) (L' := [(B, .cells #[.int .i64 (0 : Int), .int .i64 (0 : Int), .int .i64 (0 : Int), .int .i64 (0 : Int), .int .i64 (0 : Int), .int .i64 (0 : Int), .string (⟨#[]⟩)] 23), (B1, .cells #[.int .i64 r51] 3), (B3, .cells #[.int .i64 r91] 3), (B5, .cells #[.int .i64 r131] 3), (B6, .cells ⟨(((((([.int .i64 r51] : List Value) ++ r8)).take (1 * 1) ++ ([.int .i64 r91] : List Value) ++ r12)).take ((1 + 1) * 1) ++ ([.int .i64 r131] : List Value) ++ r16)⟩ 3), (B7, .cells #[.int .i64 r171] 3)]) ?_ (by kernel_rfl)
              refine AtE.appendO 4 (T := 55) (E := 3) (z := .int .i64 (0 : Int)) (sz := 1) (bytes := 8) (n := ((1 + 1) + 1)) (cap := cap2) (a := ⟨B7, 0, none⟩) (m := 1) (c := 1) (cs := (((((([.int .i64 r51] : List Value) ++ r8)).take (1 * 1) ++ ([.int .i64 r91] : List Value) ++ r12)).take ((1 + 1) * 1) ++ ([.int .i64 r131] : List Value) ++ r16)) ([.int .i64 r171] : List Value) (by kernel_rfl) (show Src _ _ _ _ ([.int .i64 r171] : List Value) from Src.own (j := 5) (o := 0) (n := 1) (c := ([.int .i64 r171] : List Value)) (by kernel_rfl)) (by simp) (by simp [Value.oneCell']) H.1 H.2.1 (fun B8 cap3 r20 h1 h2 => ?_)
              replace H := H.2.2 B8 cap3 r20 h1 h2
              refine AtE.run 27 (fun W => by kernel_rfl) ?_
              refine AtE.call 31 ⟨[.string s, .int .i64 r181]⟩ (fun W => by kernel_rfl) (by kernel_rfl) H ?_
              clear H
              rintro _ _ ⟨r221, r231, r241, rfl, rfl, H⟩
              refine AtE.run 14 (fun W => by kernel_rfl) ?_
              refine AtE.splitN 45 (p := r241 = (0 : Int)) (by kernel_rfl) (fun h7' => ?_) (fun h7' => ?_)
              · replace H := H.1 h7'
                refine AtE.run 4 (fun W => by kernel_rfl) ?_
                refine AtE.store 0 0 (T := 23) (v := .agg #[.int .i64 (0 : Int), .int .i64 (0 : Int), .int .i64 (0 : Int), .int .i64 (0 : Int), .int .i64 (0 : Int), .int .i64 (0 : Int), .string (⟨#[]⟩)]) (by kernel_rfl) ?_
                refine AtE.run 2 (fun W => by kernel_rfl) ?_
                exact AtE.retR Tryd.func17 (by kernel_rfl) (ResOk.ct (a := 2) (b := 3) (T := 23) (u := .agg #[.int .i64 (0 : Int), .int .i64 (0 : Int), .int .i64 (0 : Int), .int .i64 (0 : Int), .int .i64 (0 : Int), .int .i64 (0 : Int), .string (⟨#[]⟩)]) (v := .int .i64 (10 : Int)) 0 0 (by kernel_rfl) (by kernel_rfl)) H
              · replace H := H.2 h7'
                refine AtE.run 6 (fun W => by kernel_rfl) ?_
                refine AtE.new (fun B => .slice (some ⟨B, 0, none⟩) 1 1) (.cells #[.int .i64 r221] 3) (fun W => by kernel_rfl) (by kernel_rfl) (fun B9 => ?_)
                replace H := H B9
                refine AtE.appendO 5 (T := 55) (E := 3) (z := .int .i64 (0 : Int)) (sz := 1) (bytes := 8) (n := (((1 + 1) + 1) + 1)) (cap := cap3) (a := ⟨B9, 0, none⟩) (m := 1) (c := 1) (cs := (((((((([.int .i64 r51] : List Value) ++ r8)).take (1 * 1) ++ ([.int .i64 r91] : List Value) ++ r12)).take ((1 + 1) * 1) ++ ([.int .i64 r131] : List Value) ++ r16)).take (((1 + 1) + 1) * 1) ++ ([.int .i64 r171] : List Value) ++ r20)) ([.int .i64 r221] : List Value) (by kernel_rfl) (show Src _ _ _ _ ([.int .i64 r221] : List Value) from Src.own (j := 6) (o := 0) (n := 1) (c := ([.int .i64 r221] : List Value)) (by kernel_rfl)) (by simp) (by simp [Value.oneCell']) H.1 H.2.1 (fun B10 cap4 r25 h1 h2 => ?_)
                replace H := H.2.2 B10 cap4 r25 h1 h2
                refine AtE.run 27 (fun W => by kernel_rfl) ?_
                refine AtE.call 31 ⟨[.string s, .int .i64 r231]⟩ (fun W => by kernel_rfl) (by kernel_rfl) H ?_
                clear H
                rintro _ _ ⟨r261, r271, r281, rfl, rfl, H⟩
                refine AtE.run 14 (fun W => by kernel_rfl) ?_
                refine AtE.splitN 45 (p := r281 = (0 : Int)) (by kernel_rfl) (fun h8' => ?_) (fun h8' => ?_)
                · replace H := H.1 h8'
                  refine AtE.norm (k' := [.code (sub (Eng.body Tryd.f17) [1, 1, 1, 1, 1, 0, 1, 0, 0, 1, 0, 0, 1, 0, 1]), .code (sub (Eng.body Tryd.f17) [1, 1, 1, 1, 1, 0, 1, 0, 0, 1, 0, 0, 1, 1]), .inBlock 1, .code (sub (Eng.body Tryd.f17) [1, 1, 1, 1, 1, 0, 1, 0, 0, 1, 1]), .inLoop (sub (Eng.body Tryd.f17) [1, 1, 1, 1, 1, 0, 1, 0, 0]), .inBlock 0, .code (sub (Eng.body Tryd.f17) [1, 1, 1, 1, 1, 1])]) (e' := [(0, .string s), (2, .pointer (some ⟨B, 0, none⟩)), (7, .slice (some ⟨B10, 0, none⟩) ((((1 + 1) + 1) + 1) + 1) cap4), (8, .int .i64 (5 : Int)), (9, .int .i64 r261), (10, .int .i64 r271), (45, .bool true)]) (L' := [(B, .cells #[.int .i64 (0 : Int), .int .i64 (0 : Int), .int .i64 (0 : Int), .int .i64 (0 : Int), .int .i64 (0 : Int), .int .i64 (0 : Int), .string (⟨#[]⟩)] 23), (B1, .cells #[.int .i64 r51] 3), (B3, .cells #[.int .i64 r91] 3), (B5, .cells #[.int .i64 r131] 3), (B7, .cells #[.int .i64 r171] 3), (B9, .cells #[.int .i64 r221] 3), (B10, .cells ⟨(((((((((([.int .i64 r51] : List Value) ++ r8)).take (1 * 1) ++ ([.int .i64 r91] : List Value) ++ r12)).take ((1 + 1) * 1) ++ ([.int .i64 r131] : List Value) ++ r16)).take (((1 + 1) + 1) * 1) ++ ([.int .i64 r171] : List Value) ++ r20)).take ((((1 + 1) + 1) + 1) * 1) ++ ([.int .i64 r221] : List Value) ++ r25)⟩ 3)]) ?_ (by kernel_rfl)
                  refine AtE.run 4 (fun W => by kernel_rfl) ?_
                  refine AtE.store 0 0 (T := 23) (v := .agg #[.int .i64 (0 : Int), .int .i64 (0 : Int), .int .i64 (0 : Int), .int .i64 (0 : Int), .int .i64 (0 : Int), .int .i64 (0 : Int), .string (⟨#[]⟩)]) (by kernel_rfl) ?_
                  refine AtE.run 2 (fun W => by kernel_rfl) ?_
                  exact AtE.retR Tryd.func17 (by kernel_rfl) (ResOk.ct (a := 2) (b := 3) (T := 23) (u := .agg #[.int .i64 (0 : Int), .int .i64 (0 : Int), .int .i64 (0 : Int), .int .i64 (0 : Int), .int .i64 (0 : Int), .int .i64 (0 : Int), .string (⟨#[]⟩)]) (v := .int .i64 (10 : Int)) 0 0 (by kernel_rfl) (by kernel_rfl)) H
                · replace H := H.2 h8'
                  refine AtE.norm (k' := [.code (sub (Eng.body Tryd.f17) [1, 1, 1, 1, 1, 0, 1, 0, 0, 1, 0, 0, 1, 0, 1]), .code (sub (Eng.body Tryd.f17) [1, 1, 1, 1, 1, 0, 1, 0, 0, 1, 0, 0, 1, 1]), .inBlock 1, .code (sub (Eng.body Tryd.f17) [1, 1, 1, 1, 1, 0, 1, 0, 0, 1, 1]), .inLoop (sub (Eng.body Tryd.f17) [1, 1, 1, 1, 1, 0, 1, 0, 0]), .inBlock 0, .code (sub (Eng.body Tryd.f17) [1, 1, 1, 1, 1, 1])]) (e' := [(0, .string s), (2, .pointer (some ⟨B, 0, none⟩)), (7, .slice (some ⟨B10, 0, none⟩) ((((1 + 1) + 1) + 1) + 1) cap4), (8, .int .i64 (5 : Int)), (9, .int .i64 r261), (10, .int .i64 r271), (45, .bool false)]) (L' := [(B, .cells #[.int .i64 (0 : Int), .int .i64 (0 : Int), .int .i64 (0 : Int), .int .i64 (0 : Int), .int .i64 (0 : Int), .int .i64 (0 : Int), .string (⟨#[]⟩)] 23), (B1, .cells #[.int .i64 r51] 3), (B3, .cells #[.int .i64 r91] 3), (B5, .cells #[.int .i64 r131] 3), (B7, .cells #[.int .i64 r171] 3), (B9, .cells #[.int .i64 r221] 3), (B10, .cells ⟨(((((((((([.int .i64 r51] : List Value) ++ r8)).take (1 * 1) ++ ([.int .i64 r91] : List Value) ++ r12)).take ((1 + 1) * 1) ++ ([.int .i64 r131] : List Value) ++ r16)).take (((1 + 1) + 1) * 1) ++ ([.int .i64 r171] : List Value) ++ r20)).take ((((1 + 1) + 1) + 1) * 1) ++ ([.int .i64 r221] : List Value) ++ r25)⟩ 3)]) ?_ (by kernel_rfl)
                  refine AtE.run 6 (fun W => by kernel_rfl) ?_
                  refine AtE.new (fun B => .slice (some ⟨B, 0, none⟩) 1 1) (.cells #[.int .i64 r261] 3) (fun W => by kernel_rfl) (by kernel_rfl) (fun B11 => ?_)
                  replace H := H B11
                  refine AtE.appendO 6 (T := 55) (E := 3) (z := .int .i64 (0 : Int)) (sz := 1) (bytes := 8) (n := ((((1 + 1) + 1) + 1) + 1)) (cap := cap4) (a := ⟨B11, 0, none⟩) (m := 1) (c := 1) (cs := (((((((((([.int .i64 r51] : List Value) ++ r8)).take (1 * 1) ++ ([.int .i64 r91] : List Value) ++ r12)).take ((1 + 1) * 1) ++ ([.int .i64 r131] : List Value) ++ r16)).take (((1 + 1) + 1) * 1) ++ ([.int .i64 r171] : List Value) ++ r20)).take ((((1 + 1) + 1) + 1) * 1) ++ ([.int .i64 r221] : List Value) ++ r25)) ([.int .i64 r261] : List Value) (by kernel_rfl) (show Src _ _ _ _ ([.int .i64 r261] : List Value) from Src.own (j := 7) (o := 0) (n := 1) (c := ([.int .i64 r261] : List Value)) (by kernel_rfl)) (by simp) (by simp [Value.oneCell']) H.1 H.2.1 (fun B12 cap5 r29 h1 h2 => ?_)
                  replace H := H.2.2 B12 cap5 r29 h1 h2
                  refine AtE.run 25 (fun W => by kernel_rfl) ?_
                  refine AtE.call 32 ⟨[.string s, .int .i64 r271]⟩ (fun W => by kernel_rfl) (by kernel_rfl) H ?_
                  clear H
                  rintro _ _ ⟨r301, r321, r331, rfl, rfl, H⟩
                  refine AtE.run 14 (fun W => by kernel_rfl) ?_
                  refine AtE.splitN 61 (p := r331 = (0 : Int)) (by kernel_rfl) (fun h9' => ?_) (fun h9' => ?_)
                  · replace H := H.1 h9'
                    refine AtE.run 10 (fun W => by kernel_rfl) ?_
                    refine AtE.store 0 0 (T := 23) (v := .agg #[.int .i64 (0 : Int), .int .i64 (0 : Int), .int .i64 (0 : Int), .int .i64 (0 : Int), .int .i64 (0 : Int), .int .i64 (0 : Int), .string (⟨#[]⟩)]) (by kernel_rfl) ?_
                    refine AtE.run 2 (fun W => by kernel_rfl) ?_
                    exact AtE.retR Tryd.func17 (by kernel_rfl) (ResOk.ct (a := 2) (b := 3) (T := 23) (u := .agg #[.int .i64 (0 : Int), .int .i64 (0 : Int), .int .i64 (0 : Int), .int .i64 (0 : Int), .int .i64 (0 : Int), .int .i64 (0 : Int), .string (⟨#[]⟩)]) (v := .int .i64 (10 : Int)) 0 0 (by kernel_rfl) (by kernel_rfl)) H
                  · replace H := H.2 h9'
                    refine AtE.run 6 (fun W => by kernel_rfl) ?_
                    refine AtE.splitN 66 (p := r321 = (s.size : Int)) (by kernel_rfl) (fun h10' => ?_) (fun h10' => ?_)
                    · replace H := H.1 h10'
                      refine AtE.run 4 (fun W => by kernel_rfl) ?_
                      refine AtE.store 0 0 (T := 23) (v := .agg #[.int .i64 (0 : Int), .int .i64 (0 : Int), .int .i64 (0 : Int), .int .i64 (0 : Int), .int .i64 (0 : Int), .int .i64 (0 : Int), .string (⟨#[]⟩)]) (by kernel_rfl) ?_
                      refine AtE.run 2 (fun W => by kernel_rfl) ?_
                      exact AtE.retR Tryd.func17 (by kernel_rfl) (ResOk.ct (a := 2) (b := 3) (T := 23) (u := .agg #[.int .i64 (0 : Int), .int .i64 (0 : Int), .int .i64 (0 : Int), .int .i64 (0 : Int), .int .i64 (0 : Int), .int .i64 (0 : Int), .string (⟨#[]⟩)]) (v := .int .i64 (10 : Int)) 0 0 (by kernel_rfl) (by kernel_rfl)) H
                    · replace H := H.2 h10'
                      refine AtE.run 3 (fun W => by kernel_rfl) ?_
                      refine AtE.norm (k' := [.code (sub (Eng.body Tryd.f17) [1, 1, 1, 1, 1, 1, 1, 1, 0]), .code (sub (Eng.body Tryd.f17) [1, 1, 1, 1, 1, 1, 1, 1, 1])]) (e' := [(2, .pointer (some ⟨B, 0, none⟩)), (7, .slice (some ⟨B12, 0, none⟩) (((((1 + 1) + 1) + 1) + 1) + 1) cap5), (12, .string r301)]) (L' := [(B, .cells #[.int .i64 (0 : Int), .int .i64 (0 : Int), .int .i64 (0 : Int), .int .i64 (0 : Int), .int .i64 (0 : Int), .int .i64 (0 : Int), .string (⟨#[]⟩)] 23), (B1, .cells #[.int .i64 r51] 3), (B3, .cells #[.int .i64 r91] 3), (B5, .cells #[.int .i64 r131] 3), (B7, .cells #[.int .i64 r171] 3), (B9, .cells #[.int .i64 r221] 3), (B11, .cells #[.int .i64 r261] 3), (B12, .cells ⟨(((((((((((([.int .i64 r51] : List Value) ++ r8)).take (1 * 1) ++ ([.int .i64 r91] : List Value) ++ r12)).take ((1 + 1) * 1) ++ ([.int .i64 r131] : List Value) ++ r16)).take (((1 + 1) + 1) * 1) ++ ([.int .i64 r171] : List Value) ++ r20)).take ((((1 + 1) + 1) + 1) * 1) ++ ([.int .i64 r221] : List Value) ++ r25)).take (((((1 + 1) + 1) + 1) + 1) * 1) ++ ([.int .i64 r261] : List Value) ++ r29)⟩ 3)]) ?_ (by kernel_rfl)
                      refine AtE.drawD (by kernel_rfl) ?_
                      refine AtD.norm (e' := [(2, .pointer (some ⟨B, 0, none⟩)), (7, .slice (some ⟨B12, 0, none⟩) (((((1 + 1) + 1) + 1) + 1) + 1) cap5), (12, .string r301)]) (L' := [(B, .cells #[.int .i64 (0 : Int), .int .i64 (0 : Int), .int .i64 (0 : Int), .int .i64 (0 : Int), .int .i64 (0 : Int), .int .i64 (0 : Int), .string (⟨#[]⟩)] 23), (B1, .cells #[.int .i64 r51] 3), (B3, .cells #[.int .i64 r91] 3), (B5, .cells #[.int .i64 r131] 3), (B7, .cells #[.int .i64 r171] 3), (B9, .cells #[.int .i64 r221] 3), (B11, .cells #[.int .i64 r261] 3), (B12, .cells ⟨(((((((((((([.int .i64 r51] : List Value) ++ r8)).take (1 * 1) ++ ([.int .i64 r91] : List Value) ++ r12)).take ((1 + 1) * 1) ++ ([.int .i64 r131] : List Value) ++ r16)).take (((1 + 1) + 1) * 1) ++ ([.int .i64 r171] : List Value) ++ r20)).take ((((1 + 1) + 1) + 1) * 1) ++ ([.int .i64 r221] : List Value) ++ r25)).take (((((1 + 1) + 1) + 1) + 1) * 1) ++ ([.int .i64 r261] : List Value) ++ r29)⟩ 3)]) ?_ (by kernel_rfl)
                      refine AtD.phase 21 [0, 1, 2, 3, 4, 5, 6, 7, 8, 9, 10, 11, 12, 13, 14, 15, 16, 17, 18, 19] [20] [(B, .cells #[.int .i64 (0 : Int), .int .i64 (0 : Int), .int .i64 (0 : Int), .int .i64 (0 : Int), .int .i64 (0 : Int), .int .i64 (0 : Int), .string (⟨#[]⟩)] 23), (B1, .cells #[.int .i64 r51] 3), (B3, .cells #[.int .i64 r91] 3), (B5, .cells #[.int .i64 r131] 3), (B7, .cells #[.int .i64 r171] 3), (B9, .cells #[.int .i64 r221] 3), (B11, .cells #[.int .i64 r261] 3), (B12, .cells ⟨(((((((((((([.int .i64 r51] : List Value) ++ r8)).take (1 * 1) ++ ([.int .i64 r91] : List Value) ++ r12)).take ((1 + 1) * 1) ++ ([.int .i64 r131] : List Value) ++ r16)).take (((1 + 1) + 1) * 1) ++ ([.int .i64 r171] : List Value) ++ r20)).take ((((1 + 1) + 1) + 1) * 1) ++ ([.int .i64 r221] : List Value) ++ r25)).take (((((1 + 1) + 1) + 1) + 1) * 1) ++ ([.int .i64 r261] : List Value) ++ r29)⟩ 3)] (by kernel_rfl) rfl ?_
                      refine AtF.pure (by kernel_rfl) (fun W => by kernel_rfl) ?_
                      refine AtF.indexAddrL (E := 3) (b := B12) (o := 0) (len := (((((1 + 1) + 1) + 1) + 1) + 1)) (cap := cap5) (sz := 1) (o' := 0) (kd := .i64) (i := (0 : Int)) (by kernel_rfl) H.1 (by omega) ?_
                      replace H := H.2
                      obtain ⟨m1, hx, H⟩ := H
                      refine AtF.loadS 7 (off := 0) (T := 3) (v := .int .i64 m1) (by kernel_rfl) (valAt_one hx (by kernel_rfl)) ?_
                      refine AtF.pure (by kernel_rfl) (fun W => by kernel_rfl) ?_
                      refine AtF.indexAddrL (E := 3) (b := B12) (o := 0) (len := (((((1 + 1) + 1) + 1) + 1) + 1)) (cap := cap5) (sz := 1) (o' := 1) (kd := .i64) (i := (1 : Int)) (by kernel_rfl) H.1 (by omega) ?_
                      replace H := H.2
                      obtain ⟨m21, hx, H⟩ := H
                      refine AtF.loadS 7 (off := 1) (T := 3) (v := .int .i64 m21) (by kernel_rfl) (valAt_one hx (by kernel_rfl)) ?_
                      refine AtF.pure (by kernel_rfl) (fun W => by kernel_rfl) ?_
                      refine AtF.indexAddrL (E := 3) (b := B12) (o := 0) (len := (((((1 + 1) + 1) + 1) + 1) + 1)) (cap := cap5) (sz := 1) (o' := 2) (kd := .i64) (i := (2 : Int)) (by kernel_rfl) H.1 (by omega) ?_
                      replace H := H.2
                      obtain ⟨m31, hx, H⟩ := H
                      refine AtF.loadS 7 (off := 2) (T := 3) (v := .int .i64 m31) (by kernel_rfl) (valAt_one hx (by kernel_rfl)) ?_
                      refine AtF.pure (by kernel_rfl) (fun W => by kernel_rfl) ?_
                      refine AtF.indexAddrL (E := 3) (b := B12) (o := 0) (len := (((((1 + 1) + 1) + 1) + 1) + 1)) (cap := cap5) (sz := 1) (o' := 3) (kd := .i64) (i := (3 : Int)) (by kernel_rfl) H.1 (by omega) ?_
                      replace H := H.2
                      obtain ⟨m41, hx, H⟩ := H
                      refine AtF.loadS 7 (off := 3) (T := 3) (v := .int .i64 m41) (by kernel_rfl) (valAt_one hx (by kernel_rfl)) ?_
                      refine AtF.pure (by kernel_rfl) (fun W => by kernel_rfl) ?_
                      refine AtF.indexAddrL (E := 3) (b := B12) (o := 0) (len := (((((1 + 1) + 1) + 1) + 1) + 1)) (cap := cap5) (sz := 1) (o' := 4) (kd := .i64) (i := (4 : Int)) (by kernel_rfl) H.1 (by omega) ?_
                      replace H := H.2
                      obtain ⟨m51, hx, H⟩ := H
                      refine AtF.loadS 7 (off := 4) (T := 3) (v := .int .i64 m51) (by kernel_rfl) (valAt_one hx (by kernel_rfl)) ?_
                      refine AtF.pure (by kernel_rfl) (fun W => by kernel_rfl) ?_
                      refine AtF.indexAddrL (E := 3) (b := B12) (o := 0) (len := (((((1 + 1) + 1) + 1) + 1) + 1)) (cap := cap5) (sz := 1) (o' := 5) (kd := .i64) (i := (5 : Int)) (by kernel_rfl) H.1 (by omega) ?_
                      replace H := H.2
                      obtain ⟨m61, hx, H⟩ := H
                      refine AtF.loadS 7 (off := 5) (T := 3) (v := .int .i64 m61) (by kernel_rfl) (valAt_one hx (by kernel_rfl)) ?_
                      refine AtF.pure (by kernel_rfl) (fun W => by kernel_rfl) ?_
                      refine AtF.pure (by kernel_rfl) (fun W => by kernel_rfl) ?_
                      refine AtF.done (by kernel_rfl) ?_
                      refine AtM.new _ (fun B => .pointer (some ⟨B, 0, none⟩)) (.cells #[.int .i64 (0 : Int), .int .i64 (0 : Int), .int .i64 (0 : Int), .int .i64 (0 : Int), .int .i64 (0 : Int), .int .i64 (0 : Int), .string (⟨#[]⟩)] 23) rfl (fun W => by kernel_rfl) (by kernel_rfl) (fun B13 => ?_)
                      replace H := H B13
                      refine AtM.done _ (by kernel_rfl) rfl ?_
                      refine AtD.norm (e' := [(2, .pointer (some ⟨B, 0, none⟩)), (15, .pointer (some ⟨B13, 0, none⟩)), (87, .agg #[.int .i64 m1, .int .i64 m21, .int .i64 m31, .int .i64 m41, .int .i64 m51, .int .i64 m61, .string r301])]) (L' := [(B, .cells #[.int .i64 (0 : Int), .int .i64 (0 : Int), .int .i64 (0 : Int), .int .i64 (0 : Int), .int .i64 (0 : Int), .int .i64 (0 : Int), .string (⟨#[]⟩)] 23), (B1, .cells #[.int .i64 r51] 3), (B3, .cells #[.int .i64 r91] 3), (B5, .cells #[.int .i64 r131] 3), (B7, .cells #[.int .i64 r171] 3), (B9, .cells #[.int .i64 r221] 3), (B11, .cells #[.int .i64 r261] 3), (B12, .cells ⟨(((((((((((([.int .i64 r51] : List Value) ++ r8)).take (1 * 1) ++ ([.int .i64 r91] : List Value) ++ r12)).take ((1 + 1) * 1) ++ ([.int .i64 r131] : List Value) ++ r16)).take (((1 + 1) + 1) * 1) ++ ([.int .i64 r171] : List Value) ++ r20)).take ((((1 + 1) + 1) + 1) * 1) ++ ([.int .i64 r221] : List Value) ++ r25)).take (((((1 + 1) + 1) + 1) + 1) * 1) ++ ([.int .i64 r261] : List Value) ++ r29)⟩ 3), (B13, .cells #[.int .i64 (0 : Int), .int .i64 (0 : Int), .int .i64 (0 : Int), .int .i64 (0 : Int), .int .i64 (0 : Int), .int .i64 (0 : Int), .string (⟨#[]⟩)] 23)]) ?_ (by kernel_rfl)
                      refine AtD.tail (by kernel_rfl) ?_
                      refine AtE.store 8 0 (T := 23) (v := .agg #[.int .i64 m1, .int .i64 m21, .int .i64 m31, .int .i64 m41, .int .i64 m51, .int .i64 m61, .string r301]) (by kernel_rfl) ?_
                      refine AtE.run 3 (fun W => by kernel_rfl) ?_
                      refine AtE.load 8 0 (T := 23) (v := .agg #[.int .i64 m1, .int .i64 m21, .int .i64 m31, .int .i64 m41, .int .i64 m51, .int .i64 m61, .string r301]) (by kernel_rfl) ?_
                      refine AtE.call 15 ⟨[.agg #[.int .i64 m1, .int .i64 m21, .int .i64 m31, .int .i64 m41, .int .i64 m51, .int .i64 m61, .string r301]]⟩ (fun W => by kernel_rfl) (by kernel_rfl) H ?_
                      clear H
                      rintro _ _ ⟨r341, rfl, rfl, H⟩
                      refine AtE.run 6 (fun W => by kernel_rfl) ?_
                      refine AtE.split 90 (b := r341) (by kernel_rfl) (fun h11' => ?_) (fun h11' => ?_)
                      · replace H := H.1 h11'
                        refine AtE.run 6 (fun W => by kernel_rfl) ?_
                        refine AtE.load 8 0 (T := 23) (v := .agg #[.int .i64 m1, .int .i64 m21, .int .i64 m31, .int .i64 m41, .int .i64 m51, .int .i64 m61, .string r301]) (by kernel_rfl) ?_
                        refine AtE.store 0 0 (T := 23) (v := .agg #[.int .i64 m1, .int .i64 m21, .int .i64 m31, .int .i64 m41, .int .i64 m51, .int .i64 m61, .string r301]) (by kernel_rfl) ?_
                        refine AtE.run 2 (fun W => by kernel_rfl) ?_
                        exact AtE.retR Tryd.func17 (by kernel_rfl) (ResOk.ct (a := 2) (b := 3) (T := 23) (u := .agg #[.int .i64 m1, .int .i64 m21, .int .i64 m31, .int .i64 m41, .int .i64 m51, .int .i64 m61, .string r301]) (v := .int .i64 (0 : Int)) 0 0 (by kernel_rfl) (by kernel_rfl)) H
                      · replace H := H.2 h11'
                        refine AtE.run 6 (fun W => by kernel_rfl) ?_
                        refine AtE.store 0 0 (T := 23) (v := .agg #[.int .i64 (0 : Int), .int .i64 (0 : Int), .int .i64 (0 : Int), .int .i64 (0 : Int), .int .i64 (0 : Int), .int .i64 (0 : Int), .string (⟨#[]⟩)]) (by kernel_rfl) ?_
                        refine AtE.run 2 (fun W => by kernel_rfl) ?_
                        exact AtE.retR Tryd.func17 (by kernel_rfl) (ResOk.ct (a := 2) (b := 3) (T := 23) (u := .agg #[.int .i64 (0 : Int), .int .i64 (0 : Int), .int .i64 (0 : Int), .int .i64 (0 : Int), .int .i64 (0 : Int), .int .i64 (0 : Int), .string (⟨#[]⟩)]) (v := .int .i64 (200 : Int)) 0 0 (by kernel_rfl) (by kernel_rfl)) H

end Go.Eng
