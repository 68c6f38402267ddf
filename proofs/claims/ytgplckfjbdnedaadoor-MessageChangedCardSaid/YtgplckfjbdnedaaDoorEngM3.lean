/- Verification conditions of the functions, written by a program of the prover, checked here. -/
import Derived.Test.YtgplckfjbdnedaaDoorEngInl

import Derived.Test.YtgplckfjbdnedaaDoorEngEq

import Derived.Test.YtgplckfjbdnedaaDoorChecked

namespace Go.Eng

open Go Go.RowKit Go.Proofs

set_option linter.unusedVariables false

set_option maxRecDepth 100000

theorem mDecode_vc (s : ByteArray) {R : Ending → World → Prop} {w0 W : World} (hm : Mem [] [] w0 W)
    (H :
      ∀ B : Nat,
      ∀ B1 : Nat,
      CallH Tryd.prog 20 ⟨[.string s, .int .i64 (0 : Int)]⟩ [(B, .cells #[.int .i64 (0 : Int), .int .i64 (0 : Int), .int .i64 (0 : Int), .int .i64 (0 : Int), .int .i64 (0 : Int), .int .i64 (0 : Int), .string (⟨#[]⟩)] 23), (B1, .cells #[.int .i64 (0 : Int)] 26)] [] w0 (fun v L' => ∃ (r1 : Int) (r21 : Int) (r31 : Int), v = (.tuple #[.int .i64 r1, .int .i64 r21, .int .i64 r31]) ∧ L' = [(B, .cells #[.int .i64 (0 : Int), .int .i64 (0 : Int), .int .i64 (0 : Int), .int .i64 (0 : Int), .int .i64 (0 : Int), .int .i64 (0 : Int), .string (⟨#[]⟩)] 23), (B1, .cells #[.int .i64 (0 : Int)] 26)] ∧
        ((¬ (r31 = (0 : Int))) →
          DCall Tryd.prog 27 ⟨[.pointer (some ⟨B, 0, none⟩), .pointer (some ⟨B1, 0, none⟩)]⟩ [(B, .cells #[.int .i64 (0 : Int), .int .i64 (0 : Int), .int .i64 (0 : Int), .int .i64 (0 : Int), .int .i64 (0 : Int), .int .i64 (0 : Int), .string (⟨#[]⟩)] 23), (B1, .cells #[.int .i64 r31] 26)] [] w0 (.panicking [{ v := .iface 46 (.agg #[.int .i64 (10 : Int)]), recovered := false }]) (fun u' L' => u' = (.panicking [{ v := .iface 46 (.agg #[.int .i64 (10 : Int)]), recovered := true }]) ∧ L' = [(B, .cells #[.int .i64 (0 : Int), .int .i64 (0 : Int), .int .i64 (0 : Int), .int .i64 (0 : Int), .int .i64 (0 : Int), .int .i64 (0 : Int), .string (⟨#[]⟩)] 23), (B1, .cells #[.int .i64 (10 : Int)] 26)] ∧
            Fin R [(B, .cells #[.int .i64 (0 : Int), .int .i64 (0 : Int), .int .i64 (0 : Int), .int .i64 (0 : Int), .int .i64 (0 : Int), .int .i64 (0 : Int), .string (⟨#[]⟩)] 23), (B1, .cells #[.int .i64 (10 : Int)] 26)] [] w0 (.tuple #[.agg #[.int .i64 (0 : Int), .int .i64 (0 : Int), .int .i64 (0 : Int), .int .i64 (0 : Int), .int .i64 (0 : Int), .int .i64 (0 : Int), .string (⟨#[]⟩)], .int .i64 (10 : Int)]))) ∧
         ((r31 = (0 : Int)) →
          (0 ≤ r21 ∧ r21 ≤ (s.size : Int) ∧ (s.size : Int) ≤ s.size) ∧
          CallH Tryd.prog 19 ⟨[.string (s.extract (Int.toNat r21) s.size)]⟩ [(B, .cells #[.int .i64 (0 : Int), .int .i64 (0 : Int), .int .i64 (0 : Int), .int .i64 (0 : Int), .int .i64 (0 : Int), .int .i64 (0 : Int), .string (⟨#[]⟩)] 23), (B1, .cells #[.int .i64 r31] 26)] [] w0 (fun v L' => ∃ (r41 : Int), v = (.int .i64 r41) ∧ L' = [(B, .cells #[.int .i64 (0 : Int), .int .i64 (0 : Int), .int .i64 (0 : Int), .int .i64 (0 : Int), .int .i64 (0 : Int), .int .i64 (0 : Int), .string (⟨#[]⟩)] 23), (B1, .cells #[.int .i64 r31] 26)] ∧
            ((¬ (r1 = r41)) →
              DCall Tryd.prog 27 ⟨[.pointer (some ⟨B, 0, none⟩), .pointer (some ⟨B1, 0, none⟩)]⟩ [(B, .cells #[.int .i64 (0 : Int), .int .i64 (0 : Int), .int .i64 (0 : Int), .int .i64 (0 : Int), .int .i64 (0 : Int), .int .i64 (0 : Int), .string (⟨#[]⟩)] 23), (B1, .cells #[.int .i64 r31] 26)] [] w0 (.panicking [{ v := .iface 46 (.agg #[.int .i64 (200 : Int)]), recovered := false }]) (fun u' L' => u' = (.panicking [{ v := .iface 46 (.agg #[.int .i64 (200 : Int)]), recovered := true }]) ∧ L' = [(B, .cells #[.int .i64 (0 : Int), .int .i64 (0 : Int), .int .i64 (0 : Int), .int .i64 (0 : Int), .int .i64 (0 : Int), .int .i64 (0 : Int), .string (⟨#[]⟩)] 23), (B1, .cells #[.int .i64 (200 : Int)] 26)] ∧
                Fin R [(B, .cells #[.int .i64 (0 : Int), .int .i64 (0 : Int), .int .i64 (0 : Int), .int .i64 (0 : Int), .int .i64 (0 : Int), .int .i64 (0 : Int), .string (⟨#[]⟩)] 23), (B1, .cells #[.int .i64 (200 : Int)] 26)] [] w0 (.tuple #[.agg #[.int .i64 (0 : Int), .int .i64 (0 : Int), .int .i64 (0 : Int), .int .i64 (0 : Int), .int .i64 (0 : Int), .int .i64 (0 : Int), .string (⟨#[]⟩)], .int .i64 (200 : Int)]))) ∧
             ((r1 = r41) →
              ∀ B2 : Nat,
              CallH Tryd.prog 20 ⟨[.string s, .int .i64 r21]⟩ [(B, .cells #[.int .i64 (0 : Int), .int .i64 (0 : Int), .int .i64 (0 : Int), .int .i64 (0 : Int), .int .i64 (0 : Int), .int .i64 (0 : Int), .string (⟨#[]⟩)] 23), (B1, .cells #[.int .i64 r31] 26), (B2, .cells #[.int .i64 (0 : Int), .int .i64 (0 : Int), .int .i64 (0 : Int), .int .i64 (0 : Int), .int .i64 (0 : Int), .int .i64 (0 : Int)] 41)] [] w0 (fun v L' => ∃ (r51 : Int) (r61 : Int) (r71 : Int), v = (.tuple #[.int .i64 r51, .int .i64 r61, .int .i64 r71]) ∧ L' = [(B, .cells #[.int .i64 (0 : Int), .int .i64 (0 : Int), .int .i64 (0 : Int), .int .i64 (0 : Int), .int .i64 (0 : Int), .int .i64 (0 : Int), .string (⟨#[]⟩)] 23), (B1, .cells #[.int .i64 r31] 26), (B2, .cells #[.int .i64 (0 : Int), .int .i64 (0 : Int), .int .i64 (0 : Int), .int .i64 (0 : Int), .int .i64 (0 : Int), .int .i64 (0 : Int)] 41)] ∧
                ((¬ (r71 = (0 : Int))) →
                  DCall Tryd.prog 27 ⟨[.pointer (some ⟨B, 0, none⟩), .pointer (some ⟨B1, 0, none⟩)]⟩ [(B, .cells #[.int .i64 (0 : Int), .int .i64 (0 : Int), .int .i64 (0 : Int), .int .i64 (0 : Int), .int .i64 (0 : Int), .int .i64 (0 : Int), .string (⟨#[]⟩)] 23), (B1, .cells #[.int .i64 r71] 26), (B2, .cells #[.int .i64 r51, .int .i64 (0 : Int), .int .i64 (0 : Int), .int .i64 (0 : Int), .int .i64 (0 : Int), .int .i64 (0 : Int)] 41)] [] w0 (.panicking [{ v := .iface 46 (.agg #[.int .i64 (10 : Int)]), recovered := false }]) (fun u' L' => u' = (.panicking [{ v := .iface 46 (.agg #[.int .i64 (10 : Int)]), recovered := true }]) ∧ L' = [(B, .cells #[.int .i64 (0 : Int), .int .i64 (0 : Int), .int .i64 (0 : Int), .int .i64 (0 : Int), .int .i64 (0 : Int), .int .i64 (0 : Int), .string (⟨#[]⟩)] 23), (B1, .cells #[.int .i64 (10 : Int)] 26), (B2, .cells #[.int .i64 r51, .int .i64 (0 : Int), .int .i64 (0 : Int), .int .i64 (0 : Int), .int .i64 (0 : Int), .int .i64 (0 : Int)] 41)] ∧
                    Fin R [(B, .cells #[.int .i64 (0 : Int), .int .i64 (0 : Int), .int .i64 (0 : Int), .int .i64 (0 : Int), .int .i64 (0 : Int), .int .i64 (0 : Int), .string (⟨#[]⟩)] 23), (B1, .cells #[.int .i64 (10 : Int)] 26), (B2, .cells #[.int .i64 r51, .int .i64 (0 : Int), .int .i64 (0 : Int), .int .i64 (0 : Int), .int .i64 (0 : Int), .int .i64 (0 : Int)] 41)] [] w0 (.tuple #[.agg #[.int .i64 (0 : Int), .int .i64 (0 : Int), .int .i64 (0 : Int), .int .i64 (0 : Int), .int .i64 (0 : Int), .int .i64 (0 : Int), .string (⟨#[]⟩)], .int .i64 (10 : Int)]))) ∧
                 ((r71 = (0 : Int)) →
                  CallH Tryd.prog 20 ⟨[.string s, .int .i64 r61]⟩ [(B, .cells #[.int .i64 (0 : Int), .int .i64 (0 : Int), .int .i64 (0 : Int), .int .i64 (0 : Int), .int .i64 (0 : Int), .int .i64 (0 : Int), .string (⟨#[]⟩)] 23), (B1, .cells #[.int .i64 r71] 26), (B2, .cells #[.int .i64 r51, .int .i64 (0 : Int), .int .i64 (0 : Int), .int .i64 (0 : Int), .int .i64 (0 : Int), .int .i64 (0 : Int)] 41)] [] w0 (fun v L' => ∃ (r81 : Int) (r91 : Int) (r101 : Int), v = (.tuple #[.int .i64 r81, .int .i64 r91, .int .i64 r101]) ∧ L' = [(B, .cells #[.int .i64 (0 : Int), .int .i64 (0 : Int), .int .i64 (0 : Int), .int .i64 (0 : Int), .int .i64 (0 : Int), .int .i64 (0 : Int), .string (⟨#[]⟩)] 23), (B1, .cells #[.int .i64 r71] 26), (B2, .cells #[.int .i64 r51, .int .i64 (0 : Int), .int .i64 (0 : Int), .int .i64 (0 : Int), .int .i64 (0 : Int), .int .i64 (0 : Int)] 41)] ∧
                    ((¬ (r101 = (0 : Int))) →
                      DCall Tryd.prog 27 ⟨[.pointer (some ⟨B, 0, none⟩), .pointer (some ⟨B1, 0, none⟩)]⟩ [(B, .cells #[.int .i64 (0 : Int), .int .i64 (0 : Int), .int .i64 (0 : Int), .int .i64 (0 : Int), .int .i64 (0 : Int), .int .i64 (0 : Int), .string (⟨#[]⟩)] 23), (B1, .cells #[.int .i64 r101] 26), (B2, .cells #[.int .i64 r51, .int .i64 r81, .int .i64 (0 : Int), .int .i64 (0 : Int), .int .i64 (0 : Int), .int .i64 (0 : Int)] 41)] [] w0 (.panicking [{ v := .iface 46 (.agg #[.int .i64 (10 : Int)]), recovered := false }]) (fun u' L' => u' = (.panicking [{ v := .iface 46 (.agg #[.int .i64 (10 : Int)]), recovered := true }]) ∧ L' = [(B, .cells #[.int .i64 (0 : Int), .int .i64 (0 : Int), .int .i64 (0 : Int), .int .i64 (0 : Int), .int .i64 (0 : Int), .int .i64 (0 : Int), .string (⟨#[]⟩)] 23), (B1, .cells #[.int .i64 (10 : Int)] 26), (B2, .cells #[.int .i64 r51, .int .i64 r81, .int .i64 (0 : Int), .int .i64 (0 : Int), .int .i64 (0 : Int), .int .i64 (0 : Int)] 41)] ∧
                        Fin R [(B, .cells #[.int .i64 (0 : Int), .int .i64 (0 : Int), .int .i64 (0 : Int), .int .i64 (0 : Int), .int .i64 (0 : Int), .int .i64 (0 : Int), .string (⟨#[]⟩)] 23), (B1, .cells #[.int .i64 (10 : Int)] 26), (B2, .cells #[.int .i64 r51, .int .i64 r81, .int .i64 (0 : Int), .int .i64 (0 : Int), .int .i64 (0 : Int), .int .i64 (0 : Int)] 41)] [] w0 (.tuple #[.agg #[.int .i64 (0 : Int), .int .i64 (0 : Int), .int .i64 (0 : Int), .int .i64 (0 : Int), .int .i64 (0 : Int), .int .i64 (0 : Int), .string (⟨#[]⟩)], .int .i64 (10 : Int)]))) ∧
                     ((r101 = (0 : Int)) →
                      CallH Tryd.prog 20 ⟨[.string s, .int .i64 r91]⟩ [(B, .cells #[.int .i64 (0 : Int), .int .i64 (0 : Int), .int .i64 (0 : Int), .int .i64 (0 : Int), .int .i64 (0 : Int), .int .i64 (0 : Int), .string (⟨#[]⟩)] 23), (B1, .cells #[.int .i64 r101] 26), (B2, .cells #[.int .i64 r51, .int .i64 r81, .int .i64 (0 : Int), .int .i64 (0 : Int), .int .i64 (0 : Int), .int .i64 (0 : Int)] 41)] [] w0 (fun v L' => ∃ (r111 : Int) (r121 : Int) (r131 : Int), v = (.tuple #[.int .i64 r111, .int .i64 r121, .int .i64 r131]) ∧ L' = [(B, .cells #[.int .i64 (0 : Int), .int .i64 (0 : Int), .int .i64 (0 : Int), .int .i64 (0 : Int), .int .i64 (0 : Int), .int .i64 (0 : Int), .string (⟨#[]⟩)] 23), (B1, .cells #[.int .i64 r101] 26), (B2, .cells #[.int .i64 r51, .int .i64 r81, .int .i64 (0 : Int), .int .i64 (0 : Int), .int .i64 (0 : Int), .int .i64 (0 : Int)] 41)] ∧
                        ((¬ (r131 = (0 : Int))) →
                          DCall Tryd.prog 27 ⟨[.pointer (some ⟨B, 0, none⟩), .pointer (some ⟨B1, 0, none⟩)]⟩ [(B, .cells #[.int .i64 (0 : Int), .int .i64 (0 : Int), .int .i64 (0 : Int), .int .i64 (0 : Int), .int .i64 (0 : Int), .int .i64 (0 : Int), .string (⟨#[]⟩)] 23), (B1, .cells #[.int .i64 r131] 26), (B2, .cells #[.int .i64 r51, .int .i64 r81, .int .i64 r111, .int .i64 (0 : Int), .int .i64 (0 : Int), .int .i64 (0 : Int)] 41)] [] w0 (.panicking [{ v := .iface 46 (.agg #[.int .i64 (10 : Int)]), recovered := false }]) (fun u' L' => u' = (.panicking [{ v := .iface 46 (.agg #[.int .i64 (10 : Int)]), recovered := true }]) ∧ L' = [(B, .cells #[.int .i64 (0 : Int), .int .i64 (0 : Int), .int .i64 (0 : Int), .int .i64 (0 : Int), .int .i64 (0 : Int), .int .i64 (0 : Int), .string (⟨#[]⟩)] 23), (B1, .cells #[.int .i64 (10 : Int)] 26), (B2, .cells #[.int .i64 r51, .int .i64 r81, .int .i64 r111, .int .i64 (0 : Int), .int .i64 (0 : Int), .int .i64 (0 : Int)] 41)] ∧
                            Fin R [(B, .cells #[.int .i64 (0 : Int), .int .i64 (0 : Int), .int .i64 (0 : Int), .int .i64 (0 : Int), .int .i64 (0 : Int), .int .i64 (0 : Int), .string (⟨#[]⟩)] 23), (B1, .cells #[.int .i64 (10 : Int)] 26), (B2, .cells #[.int .i64 r51, .int .i64 r81, .int .i64 r111, .int .i64 (0 : Int), .int .i64 (0 : Int), .int .i64 (0 : Int)] 41)] [] w0 (.tuple #[.agg #[.int .i64 (0 : Int), .int .i64 (0 : Int), .int .i64 (0 : Int), .int .i64 (0 : Int), .int .i64 (0 : Int), .int .i64 (0 : Int), .string (⟨#[]⟩)], .int .i64 (10 : Int)]))) ∧
                         ((r131 = (0 : Int)) →
                          CallH Tryd.prog 20 ⟨[.string s, .int .i64 r121]⟩ [(B, .cells #[.int .i64 (0 : Int), .int .i64 (0 : Int), .int .i64 (0 : Int), .int .i64 (0 : Int), .int .i64 (0 : Int), .int .i64 (0 : Int), .string (⟨#[]⟩)] 23), (B1, .cells #[.int .i64 r131] 26), (B2, .cells #[.int .i64 r51, .int .i64 r81, .int .i64 r111, .int .i64 (0 : Int), .int .i64 (0 : Int), .int .i64 (0 : Int)] 41)] [] w0 (fun v L' => ∃ (r141 : Int) (r151 : Int) (r161 : Int), v = (.tuple #[.int .i64 r141, .int .i64 r151, .int .i64 r161]) ∧ L' = [(B, .cells #[.int .i64 (0 : Int), .int .i64 (0 : Int), .int .i64 (0 : Int), .int .i64 (0 : Int), .int .i64 (0 : Int), .int .i64 (0 : Int), .string (⟨#[]⟩)] 23), (B1, .cells #[.int .i64 r131] 26), (B2, .cells #[.int .i64 r51, .int .i64 r81, .int .i64 r111, .int .i64 (0 : Int), .int .i64 (0 : Int), .int .i64 (0 : Int)] 41)] ∧
                            ((¬ (r161 = (0 : Int))) →
                              DCall Tryd.prog 27 ⟨[.pointer (some ⟨B, 0, none⟩), .pointer (some ⟨B1, 0, none⟩)]⟩ [(B, .cells #[.int .i64 (0 : Int), .int .i64 (0 : Int), .int .i64 (0 : Int), .int .i64 (0 : Int), .int .i64 (0 : Int), .int .i64 (0 : Int), .string (⟨#[]⟩)] 23), (B1, .cells #[.int .i64 r161] 26), (B2, .cells #[.int .i64 r51, .int .i64 r81, .int .i64 r111, .int .i64 r141, .int .i64 (0 : Int), .int .i64 (0 : Int)] 41)] [] w0 (.panicking [{ v := .iface 46 (.agg #[.int .i64 (10 : Int)]), recovered := false }]) (fun u' L' => u' = (.panicking [{ v := .iface 46 (.agg #[.int .i64 (10 : Int)]), recovered := true }]) ∧ L' = [(B, .cells #[.int .i64 (0 : Int), .int .i64 (0 : Int), .int .i64 (0 : Int), .int .i64 (0 : Int), .int .i64 (0 : Int), .int .i64 (0 : Int), .string (⟨#[]⟩)] 23), (B1, .cells #[.int .i64 (10 : Int)] 26), (B2, .cells #[.int .i64 r51, .int .i64 r81, .int .i64 r111, .int .i64 r141, .int .i64 (0 : Int), .int .i64 (0 : Int)] 41)] ∧
                                Fin R [(B, .cells #[.int .i64 (0 : Int), .int .i64 (0 : Int), .int .i64 (0 : Int), .int .i64 (0 : Int), .int .i64 (0 : Int), .int .i64 (0 : Int), .string (⟨#[]⟩)] 23), (B1, .cells #[.int .i64 (10 : Int)] 26), (B2, .cells #[.int .i64 r51, .int .i64 r81, .int .i64 r111, .int .i64 r141, .int .i64 (0 : Int), .int .i64 (0 : Int)] 41)] [] w0 (.tuple #[.agg #[.int .i64 (0 : Int), .int .i64 (0 : Int), .int .i64 (0 : Int), .int .i64 (0 : Int), .int .i64 (0 : Int), .int .i64 (0 : Int), .string (⟨#[]⟩)], .int .i64 (10 : Int)]))) ∧
                             ((r161 = (0 : Int)) →
                              CallH Tryd.prog 20 ⟨[.string s, .int .i64 r151]⟩ [(B, .cells #[.int .i64 (0 : Int), .int .i64 (0 : Int), .int .i64 (0 : Int), .int .i64 (0 : Int), .int .i64 (0 : Int), .int .i64 (0 : Int), .string (⟨#[]⟩)] 23), (B1, .cells #[.int .i64 r161] 26), (B2, .cells #[.int .i64 r51, .int .i64 r81, .int .i64 r111, .int .i64 r141, .int .i64 (0 : Int), .int .i64 (0 : Int)] 41)] [] w0 (fun v L' => ∃ (r171 : Int) (r181 : Int) (r191 : Int), v = (.tuple #[.int .i64 r171, .int .i64 r181, .int .i64 r191]) ∧ L' = [(B, .cells #[.int .i64 (0 : Int), .int .i64 (0 : Int), .int .i64 (0 : Int), .int .i64 (0 : Int), .int .i64 (0 : Int), .int .i64 (0 : Int), .string (⟨#[]⟩)] 23), (B1, .cells #[.int .i64 r161] 26), (B2, .cells #[.int .i64 r51, .int .i64 r81, .int .i64 r111, .int .i64 r141, .int .i64 (0 : Int), .int .i64 (0 : Int)] 41)] ∧
                                ((¬ (r191 = (0 : Int))) →
                                  DCall Tryd.prog 27 ⟨[.pointer (some ⟨B, 0, none⟩), .pointer (some ⟨B1, 0, none⟩)]⟩ [(B, .cells #[.int .i64 (0 : Int), .int .i64 (0 : Int), .int .i64 (0 : Int), .int .i64 (0 : Int), .int .i64 (0 : Int), .int .i64 (0 : Int), .string (⟨#[]⟩)] 23), (B1, .cells #[.int .i64 r191] 26), (B2, .cells #[.int .i64 r51, .int .i64 r81, .int .i64 r111, .int .i64 r141, .int .i64 r171, .int .i64 (0 : Int)] 41)] [] w0 (.panicking [{ v := .iface 46 (.agg #[.int .i64 (10 : Int)]), recovered := false }]) (fun u' L' => u' = (.panicking [{ v := .iface 46 (.agg #[.int .i64 (10 : Int)]), recovered := true }]) ∧ L' = [(B, .cells #[.int .i64 (0 : Int), .int .i64 (0 : Int), .int .i64 (0 : Int), .int .i64 (0 : Int), .int .i64 (0 : Int), .int .i64 (0 : Int), .string (⟨#[]⟩)] 23), (B1, .cells #[.int .i64 (10 : Int)] 26), (B2, .cells #[.int .i64 r51, .int .i64 r81, .int .i64 r111, .int .i64 r141, .int .i64 r171, .int .i64 (0 : Int)] 41)] ∧
                                    Fin R [(B, .cells #[.int .i64 (0 : Int), .int .i64 (0 : Int), .int .i64 (0 : Int), .int .i64 (0 : Int), .int .i64 (0 : Int), .int .i64 (0 : Int), .string (⟨#[]⟩)] 23), (B1, .cells #[.int .i64 (10 : Int)] 26), (B2, .cells #[.int .i64 r51, .int .i64 r81, .int .i64 r111, .int .i64 r141, .int .i64 r171, .int .i64 (0 : Int)] 41)] [] w0 (.tuple #[.agg #[.int .i64 (0 : Int), .int .i64 (0 : Int), .int .i64 (0 : Int), .int .i64 (0 : Int), .int .i64 (0 : Int), .int .i64 (0 : Int), .string (⟨#[]⟩)], .int .i64 (10 : Int)]))) ∧
                                 ((r191 = (0 : Int)) →
                                  CallH Tryd.prog 20 ⟨[.string s, .int .i64 r181]⟩ [(B, .cells #[.int .i64 (0 : Int), .int .i64 (0 : Int), .int .i64 (0 : Int), .int .i64 (0 : Int), .int .i64 (0 : Int), .int .i64 (0 : Int), .string (⟨#[]⟩)] 23), (B1, .cells #[.int .i64 r191] 26), (B2, .cells #[.int .i64 r51, .int .i64 r81, .int .i64 r111, .int .i64 r141, .int .i64 r171, .int .i64 (0 : Int)] 41)] [] w0 (fun v L' => ∃ (r201 : Int) (r221 : Int) (r231 : Int), v = (.tuple #[.int .i64 r201, .int .i64 r221, .int .i64 r231]) ∧ L' = [(B, .cells #[.int .i64 (0 : Int), .int .i64 (0 : Int), .int .i64 (0 : Int), .int .i64 (0 : Int), .int .i64 (0 : Int), .int .i64 (0 : Int), .string (⟨#[]⟩)] 23), (B1, .cells #[.int .i64 r191] 26), (B2, .cells #[.int .i64 r51, .int .i64 r81, .int .i64 r111, .int .i64 r141, .int .i64 r171, .int .i64 (0 : Int)] 41)] ∧
                                    ((¬ (r231 = (0 : Int))) →
                                      DCall Tryd.prog 27 ⟨[.pointer (some ⟨B, 0, none⟩), .pointer (some ⟨B1, 0, none⟩)]⟩ [(B, .cells #[.int .i64 (0 : Int), .int .i64 (0 : Int), .int .i64 (0 : Int), .int .i64 (0 : Int), .int .i64 (0 : Int), .int .i64 (0 : Int), .string (⟨#[]⟩)] 23), (B1, .cells #[.int .i64 r231] 26), (B2, .cells #[.int .i64 r51, .int .i64 r81, .int .i64 r111, .int .i64 r141, .int .i64 r171, .int .i64 r201] 41)] [] w0 (.panicking [{ v := .iface 46 (.agg #[.int .i64 (10 : Int)]), recovered := false }]) (fun u' L' => u' = (.panicking [{ v := .iface 46 (.agg #[.int .i64 (10 : Int)]), recovered := true }]) ∧ L' = [(B, .cells #[.int .i64 (0 : Int), .int .i64 (0 : Int), .int .i64 (0 : Int), .int .i64 (0 : Int), .int .i64 (0 : Int), .int .i64 (0 : Int), .string (⟨#[]⟩)] 23), (B1, .cells #[.int .i64 (10 : Int)] 26), (B2, .cells #[.int .i64 r51, .int .i64 r81, .int .i64 r111, .int .i64 r141, .int .i64 r171, .int .i64 r201] 41)] ∧
                                        Fin R [(B, .cells #[.int .i64 (0 : Int), .int .i64 (0 : Int), .int .i64 (0 : Int), .int .i64 (0 : Int), .int .i64 (0 : Int), .int .i64 (0 : Int), .string (⟨#[]⟩)] 23), (B1, .cells #[.int .i64 (10 : Int)] 26), (B2, .cells #[.int .i64 r51, .int .i64 r81, .int .i64 r111, .int .i64 r141, .int .i64 r171, .int .i64 r201] 41)] [] w0 (.tuple #[.agg #[.int .i64 (0 : Int), .int .i64 (0 : Int), .int .i64 (0 : Int), .int .i64 (0 : Int), .int .i64 (0 : Int), .int .i64 (0 : Int), .string (⟨#[]⟩)], .int .i64 (10 : Int)]))) ∧
                                     ((r231 = (0 : Int)) →
                                      CallH Tryd.prog 30 ⟨[.string s, .int .i64 r221]⟩ [(B, .cells #[.int .i64 (0 : Int), .int .i64 (0 : Int), .int .i64 (0 : Int), .int .i64 (0 : Int), .int .i64 (0 : Int), .int .i64 (0 : Int), .string (⟨#[]⟩)] 23), (B1, .cells #[.int .i64 r231] 26), (B2, .cells #[.int .i64 r51, .int .i64 r81, .int .i64 r111, .int .i64 r141, .int .i64 r171, .int .i64 r201] 41)] [] w0 (fun v L' => ∃ (r241 : ByteArray) (r251 : Int) (r261 : Int), v = (.tuple #[.string r241, .int .i64 r251, .int .i64 r261]) ∧ L' = [(B, .cells #[.int .i64 (0 : Int), .int .i64 (0 : Int), .int .i64 (0 : Int), .int .i64 (0 : Int), .int .i64 (0 : Int), .int .i64 (0 : Int), .string (⟨#[]⟩)] 23), (B1, .cells #[.int .i64 r231] 26), (B2, .cells #[.int .i64 r51, .int .i64 r81, .int .i64 r111, .int .i64 r141, .int .i64 r171, .int .i64 r201] 41)] ∧
                                        ((¬ (r261 = (0 : Int))) →
                                          DCall Tryd.prog 27 ⟨[.pointer (some ⟨B, 0, none⟩), .pointer (some ⟨B1, 0, none⟩)]⟩ [(B, .cells #[.int .i64 (0 : Int), .int .i64 (0 : Int), .int .i64 (0 : Int), .int .i64 (0 : Int), .int .i64 (0 : Int), .int .i64 (0 : Int), .string (⟨#[]⟩)] 23), (B1, .cells #[.int .i64 r261] 26), (B2, .cells #[.int .i64 r51, .int .i64 r81, .int .i64 r111, .int .i64 r141, .int .i64 r171, .int .i64 r201] 41)] [] w0 (.panicking [{ v := .iface 46 (.agg #[.int .i64 (10 : Int)]), recovered := false }]) (fun u' L' => u' = (.panicking [{ v := .iface 46 (.agg #[.int .i64 (10 : Int)]), recovered := true }]) ∧ L' = [(B, .cells #[.int .i64 (0 : Int), .int .i64 (0 : Int), .int .i64 (0 : Int), .int .i64 (0 : Int), .int .i64 (0 : Int), .int .i64 (0 : Int), .string (⟨#[]⟩)] 23), (B1, .cells #[.int .i64 (10 : Int)] 26), (B2, .cells #[.int .i64 r51, .int .i64 r81, .int .i64 r111, .int .i64 r141, .int .i64 r171, .int .i64 r201] 41)] ∧
                                            Fin R [(B, .cells #[.int .i64 (0 : Int), .int .i64 (0 : Int), .int .i64 (0 : Int), .int .i64 (0 : Int), .int .i64 (0 : Int), .int .i64 (0 : Int), .string (⟨#[]⟩)] 23), (B1, .cells #[.int .i64 (10 : Int)] 26), (B2, .cells #[.int .i64 r51, .int .i64 r81, .int .i64 r111, .int .i64 r141, .int .i64 r171, .int .i64 r201] 41)] [] w0 (.tuple #[.agg #[.int .i64 (0 : Int), .int .i64 (0 : Int), .int .i64 (0 : Int), .int .i64 (0 : Int), .int .i64 (0 : Int), .int .i64 (0 : Int), .string (⟨#[]⟩)], .int .i64 (10 : Int)]))) ∧
                                         ((r261 = (0 : Int)) →
                                          ((r251 < (s.size : Int)) →
                                            DCall Tryd.prog 27 ⟨[.pointer (some ⟨B, 0, none⟩), .pointer (some ⟨B1, 0, none⟩)]⟩ [(B, .cells #[.int .i64 (0 : Int), .int .i64 (0 : Int), .int .i64 (0 : Int), .int .i64 (0 : Int), .int .i64 (0 : Int), .int .i64 (0 : Int), .string (⟨#[]⟩)] 23), (B1, .cells #[.int .i64 r261] 26), (B2, .cells #[.int .i64 r51, .int .i64 r81, .int .i64 r111, .int .i64 r141, .int .i64 r171, .int .i64 r201] 41)] [] w0 (.panicking [{ v := .iface 46 (.agg #[.int .i64 (10 : Int)]), recovered := false }]) (fun u' L' => u' = (.panicking [{ v := .iface 46 (.agg #[.int .i64 (10 : Int)]), recovered := true }]) ∧ L' = [(B, .cells #[.int .i64 (0 : Int), .int .i64 (0 : Int), .int .i64 (0 : Int), .int .i64 (0 : Int), .int .i64 (0 : Int), .int .i64 (0 : Int), .string (⟨#[]⟩)] 23), (B1, .cells #[.int .i64 (10 : Int)] 26), (B2, .cells #[.int .i64 r51, .int .i64 r81, .int .i64 r111, .int .i64 r141, .int .i64 r171, .int .i64 r201] 41)] ∧
                                              Fin R [(B, .cells #[.int .i64 (0 : Int), .int .i64 (0 : Int), .int .i64 (0 : Int), .int .i64 (0 : Int), .int .i64 (0 : Int), .int .i64 (0 : Int), .string (⟨#[]⟩)] 23), (B1, .cells #[.int .i64 (10 : Int)] 26), (B2, .cells #[.int .i64 r51, .int .i64 r81, .int .i64 r111, .int .i64 r141, .int .i64 r171, .int .i64 r201] 41)] [] w0 (.tuple #[.agg #[.int .i64 (0 : Int), .int .i64 (0 : Int), .int .i64 (0 : Int), .int .i64 (0 : Int), .int .i64 (0 : Int), .int .i64 (0 : Int), .string (⟨#[]⟩)], .int .i64 (10 : Int)]))) ∧
                                           ((¬ (r251 < (s.size : Int))) →
                                            CallH Tryd.prog 14 ⟨[.agg #[.int .i64 r51, .int .i64 r81, .int .i64 r111, .int .i64 r141, .int .i64 r171, .int .i64 r201, .string r241]]⟩ [(B, .cells #[.int .i64 r51, .int .i64 r81, .int .i64 r111, .int .i64 r141, .int .i64 r171, .int .i64 r201, .string r241] 23), (B1, .cells #[.int .i64 r261] 26), (B2, .cells #[.int .i64 r51, .int .i64 r81, .int .i64 r111, .int .i64 r141, .int .i64 r171, .int .i64 r201] 41)] [] w0 (fun v L' => ∃ (r271 : Bool), v = (.bool r271) ∧ L' = [(B, .cells #[.int .i64 r51, .int .i64 r81, .int .i64 r111, .int .i64 r141, .int .i64 r171, .int .i64 r201, .string r241] 23), (B1, .cells #[.int .i64 r261] 26), (B2, .cells #[.int .i64 r51, .int .i64 r81, .int .i64 r111, .int .i64 r141, .int .i64 r171, .int .i64 r201] 41)] ∧
                                              ((r271 = true) →
                                                DCall Tryd.prog 27 ⟨[.pointer (some ⟨B, 0, none⟩), .pointer (some ⟨B1, 0, none⟩)]⟩ [(B, .cells #[.int .i64 r51, .int .i64 r81, .int .i64 r111, .int .i64 r141, .int .i64 r171, .int .i64 r201, .string r241] 23), (B1, .cells #[.int .i64 (0 : Int)] 26), (B2, .cells #[.int .i64 r51, .int .i64 r81, .int .i64 r111, .int .i64 r141, .int .i64 r171, .int .i64 r201] 41)] [] w0 .returning (fun u' L' => u' = .returning ∧ L' = [(B, .cells #[.int .i64 r51, .int .i64 r81, .int .i64 r111, .int .i64 r141, .int .i64 r171, .int .i64 r201, .string r241] 23), (B1, .cells #[.int .i64 (0 : Int)] 26), (B2, .cells #[.int .i64 r51, .int .i64 r81, .int .i64 r111, .int .i64 r141, .int .i64 r171, .int .i64 r201] 41)] ∧
                                                  Fin R [(B, .cells #[.int .i64 r51, .int .i64 r81, .int .i64 r111, .int .i64 r141, .int .i64 r171, .int .i64 r201, .string r241] 23), (B1, .cells #[.int .i64 (0 : Int)] 26), (B2, .cells #[.int .i64 r51, .int .i64 r81, .int .i64 r111, .int .i64 r141, .int .i64 r171, .int .i64 r201] 41)] [] w0 (.tuple #[.agg #[.int .i64 r51, .int .i64 r81, .int .i64 r111, .int .i64 r141, .int .i64 r171, .int .i64 r201, .string r241], .int .i64 (0 : Int)]))) ∧
                                               ((r271 = false) →
                                                DCall Tryd.prog 27 ⟨[.pointer (some ⟨B, 0, none⟩), .pointer (some ⟨B1, 0, none⟩)]⟩ [(B, .cells #[.int .i64 r51, .int .i64 r81, .int .i64 r111, .int .i64 r141, .int .i64 r171, .int .i64 r201, .string r241] 23), (B1, .cells #[.int .i64 r261] 26), (B2, .cells #[.int .i64 r51, .int .i64 r81, .int .i64 r111, .int .i64 r141, .int .i64 r171, .int .i64 r201] 41)] [] w0 (.panicking [{ v := .iface 46 (.agg #[.int .i64 (200 : Int)]), recovered := false }]) (fun u' L' => u' = (.panicking [{ v := .iface 46 (.agg #[.int .i64 (200 : Int)]), recovered := true }]) ∧ L' = [(B, .cells #[.int .i64 (0 : Int), .int .i64 (0 : Int), .int .i64 (0 : Int), .int .i64 (0 : Int), .int .i64 (0 : Int), .int .i64 (0 : Int), .string (⟨#[]⟩)] 23), (B1, .cells #[.int .i64 (200 : Int)] 26), (B2, .cells #[.int .i64 r51, .int .i64 r81, .int .i64 r111, .int .i64 r141, .int .i64 r171, .int .i64 r201] 41)] ∧
                                                  Fin R [(B, .cells #[.int .i64 (0 : Int), .int .i64 (0 : Int), .int .i64 (0 : Int), .int .i64 (0 : Int), .int .i64 (0 : Int), .int .i64 (0 : Int), .string (⟨#[]⟩)] 23), (B1, .cells #[.int .i64 (200 : Int)] 26), (B2, .cells #[.int .i64 r51, .int .i64 r81, .int .i64 r111, .int .i64 r141, .int .i64 r171, .int .i64 r201] 41)] [] w0 (.tuple #[.agg #[.int .i64 (0 : Int), .int .i64 (0 : Int), .int .i64 (0 : Int), .int .i64 (0 : Int), .int .i64 (0 : Int), .int .i64 (0 : Int), .string (⟨#[]⟩)], .int .i64 (200 : Int)])))))))))))))))))))))))) :
    Calls Tryd.prog 16 ⟨[.string s]⟩ W R := by
  refine AtE.calls (nt := 76) Tryd.func16 (by kernel_rfl) hm ?_
  refine AtE.run 2 (fun W => by kernel_rfl) ?_
  refine AtE.new (fun B => .pointer (some ⟨B, 0, none⟩)) (.cells #[.int .i64 (0 : Int), .int .i64 (0 : Int), .int .i64 (0 : Int), .int .i64 (0 : Int), .int .i64 (0 : Int), .int .i64 (0 : Int), .string (⟨#[]⟩)] 23) (fun W => by kernel_rfl) (by kernel_rfl) (fun B => ?_)
  replace H := H B
  refine AtE.new (fun B => .pointer (some ⟨B, 0, none⟩)) (.cells #[.int .i64 (0 : Int)] 26) (fun W => by kernel_rfl) (by kernel_rfl) (fun B1 => ?_)
  replace H := H B1
  refine AtE.run 4 (fun W => by kernel_rfl) ?_
  refine AtE.defer (d := ⟨.fn (.func 27) #[.pointer (some ⟨B, 0, none⟩), .pointer (some ⟨B1, 0, none⟩)], #[]⟩) (by kernel_rfl) (fun W => by kernel_rfl) ?_
  refine AtE.run 4 (fun W => by kernel_rfl) ?_
  refine AtE.call 20 ⟨[.string s, .int .i64 (0 : Int)]⟩ (fun W => by kernel_rfl) (by kernel_rfl) H ?_
  clear H
  rintro _ _ ⟨r1, r21, r31, rfl, rfl, H⟩
  refine AtE.run 6 (fun W => by kernel_rfl) ?_
  refine AtE.store 1 0 (T := 26) (v := .int .i64 r31) (by kernel_rfl) ?_
  refine AtE.run 3 (fun W => by kernel_rfl) ?_
  refine AtE.load 1 0 (T := 26) (v := .int .i64 r31) (by kernel_rfl) ?_
  refine AtE.norm (k' := [.inRegion (regOps [.code (sub (Eng.body Tryd.f16) [1, 1, 1, 0])]) [1], .code (sub (Eng.body Tryd.f16) [1, 1, 1, 1])]) (e' := [(0, .string s), (2, .pointer (some ⟨B, 0, none⟩)), (3, .pointer (some ⟨B1, 0, none⟩)), (4, .int .i64 r1), (5, .int .i64 r21), (16, .int .i64 r31)]) (L' := [(B, .cells #[.int .i64 (0 : Int), .int .i64 (0 : Int), .int .i64 (0 : Int), .int .i64 (0 : Int), .int .i64 (0 : Int), .int .i64 (0 : Int), .string (⟨#[]⟩)] 23), (B1, .cells #[.int .i64 r31] 26)]) ?_ (by kernel_rfl)
  refine AtE.inl 29 ⟨[.int .i64 r31]⟩ (fun W => by kernel_rfl) (by kernel_rfl) (fun W hm => AtE.calls (nt := 6) Tryd.func29 (by kernel_rfl) hm ?_)
  refine AtE.run 5 (fun W => by kernel_rfl) ?_
  refine AtE.splitN 3 (p := r31 = (0 : Int)) (by kernel_rfl) (fun h1' => ?_) (fun h1' => ?_)
  · replace H := H.1 h1'
    refine AtE.run 4 (fun W => by kernel_rfl) ?_
    refine AtE.panic (t := 46) (v := .agg #[.int .i64 (10 : Int)]) (by kernel_rfl) ?_
    refine RaiseE.inl Tryd.func29 ?_
    refine RaiseE.dfr Tryd.func16 rfl (fun W => by kernel_rfl) (DCall.mono H ?_)
    clear H
    rintro _ _ ⟨rfl, rfl, H⟩
    exact ⟨rfl, _, ResOk.cells2 (a := 2) (b := 3) (T := 23) (U := 26) (u := .agg #[.int .i64 (0 : Int), .int .i64 (0 : Int), .int .i64 (0 : Int), .int .i64 (0 : Int), .int .i64 (0 : Int), .int .i64 (0 : Int), .string (⟨#[]⟩)]) (v := .int .i64 (10 : Int)) 0 0 1 0 (by kernel_rfl) (by kernel_rfl), H⟩
  · replace H := H.2 h1'
    refine AtE.run 2 (fun W => by kernel_rfl) ?_
    refine AtE.retK (v := .tuple #[]) Tryd.func29 (by kernel_rfl) ?_
    refine AtE.run 7 (fun W => by kernel_rfl) ?_
    refine AtE.sliceS (s := s) (lo := some (.int .i64 r21)) (hi := none) (a := r21) (b := (s.size : Int)) (by kernel_rfl) (.inl ⟨.i64, rfl⟩) (.inr ⟨rfl, rfl⟩) H.1 ?_
    replace H := H.2
    refine AtE.call 19 ⟨[.string (s.extract (Int.toNat r21) s.size)]⟩ (fun W => by kernel_rfl) (by kernel_rfl) H ?_
    clear H
    rintro _ _ ⟨r41, rfl, rfl, H⟩
    refine AtE.run 2 (fun W => by kernel_rfl) ?_
    refine AtE.splitN 23 (p := r1 = r41) (by kernel_rfl) (fun h2' => ?_) (fun h2' => ?_)
    · replace H := H.1 h2'
      refine AtE.run 4 (fun W => by kernel_rfl) ?_
      refine AtE.panic (t := 46) (v := .agg #[.int .i64 (200 : Int)]) (by kernel_rfl) ?_
      refine RaiseE.dfr Tryd.func16 rfl (fun W => by kernel_rfl) (DCall.mono H ?_)
      clear H
      rintro _ _ ⟨rfl, rfl, H⟩
      exact ⟨rfl, _, ResOk.cells2 (a := 2) (b := 3) (T := 23) (U := 26) (u := .agg #[.int .i64 (0 : Int), .int .i64 (0 : Int), .int .i64 (0 : Int), .int .i64 (0 : Int), .int .i64 (0 : Int), .int .i64 (0 : Int), .string (⟨#[]⟩)]) (v := .int .i64 (200 : Int)) 0 0 1 0 (by kernel_rfl) (by kernel_rfl), H⟩
    · replace H := H.2 h2'
      refine AtE.run 4 (fun W => by kernel_rfl) ?_
      refine AtE.new (fun B => .pointer (some ⟨B, 0, none⟩)) (.cells #[.int .i64 (0 : Int), .int .i64 (0 : Int), .int .i64 (0 : Int), .int .i64 (0 : Int), .int .i64 (0 : Int), .int .i64 (0 : Int)] 41) (fun W => by kernel_rfl) (by kernel_rfl) (fun B2 => ?_)
      replace H := H B2
      refine AtE.run 27 (fun W => by kernel_rfl) ?_
      refine AtE.call 20 ⟨[.string s, .int .i64 r21]⟩ (fun W => by kernel_rfl) (by kernel_rfl) H ?_
      clear H
      rintro _ _ ⟨r51, r61, r71, rfl, rfl, H⟩
      refine AtE.norm (k' := [.inRegion (regOps [.code (sub (Eng.body Tryd.f16) [1, 1, 1, 1, 1, 1, 0, 1, 0, 0, 1, 1, 0, 0, 1, 0])]) [4, 5, 6, 7, 8, 9, 10, 11], .code (sub (Eng.body Tryd.f16) [1, 1, 1, 1, 1, 1, 0, 1, 0, 0, 1, 1, 0, 0, 1, 1]), .inBlock 1, .code (sub (Eng.body Tryd.f16) [1, 1, 1, 1, 1, 1, 0, 1, 0, 0, 1, 1, 1]), .inLoop (sub (Eng.body Tryd.f16) [1, 1, 1, 1, 1, 1, 0, 1, 0, 0]), .inBlock 0, .code (sub (Eng.body Tryd.f16) [1, 1, 1, 1, 1, 1, 1])]) (e' := [(0, .string s), (2, .pointer (some ⟨B, 0, none⟩)), (3, .pointer (some ⟨B1, 0, none⟩)), (6, .pointer (some ⟨B2, 0, none⟩)), (26, .int .i64 (0 : Int)), (30, .int .i64 (0 : Int)), (33, .tuple #[.int .i64 r51, .int .i64 r61, .int .i64 r71])]) (L' := [(B, .cells #[.int .i64 (0 : Int), .int .i64 (0 : Int), .int .i64 (0 : Int), .int .i64 (0 : Int), .int .i64 (0 : Int), .int .i64 (0 : Int), .string (⟨#[]⟩)] 23), (B1, .cells #[.int .i64 r31] 26), (B2, .cells #[.int .i64 (0 : Int), .int .i64 (0 : Int), .int .i64 (0 : Int), .int .i64 (0 : Int), .int .i64 (0 : Int), .int .i64 (0 : Int)] 41)]) ?_ (by kernel_rfl)
      refine AtE.run 5 (fun W => by kernel_rfl) ?_
      refine AtE.store 2 0 (T := 3) (v := .int .i64 r51) (by kernel_rfl) ?_
      refine AtE.run 1 (fun W => by kernel_rfl) ?_
      refine AtE.store 1 0 (T := 26) (v := .int .i64 r71) (by kernel_rfl) ?_
      refine AtE.run 2 (fun W => by kernel_rfl) ?_
      refine AtE.load 1 0 (T := 26) (v := .int .i64 r71) (by kernel_rfl) ?_
      refine AtE.norm (k' := [.inRegion (regOps [.code (sub (Eng.body Tryd.f16) [1, 1, 1, 1, 1, 1, 0, 1, 0, 0, 1, 1, 0, 0, 1, 1])]) [1], .inBlock 1, .code (sub (Eng.body Tryd.f16) [1, 1, 1, 1, 1, 1, 0, 1, 0, 0, 1, 1, 1]), .inLoop (sub (Eng.body Tryd.f16) [1, 1, 1, 1, 1, 1, 0, 1, 0, 0]), .inBlock 0, .code (sub (Eng.body Tryd.f16) [1, 1, 1, 1, 1, 1, 1])]) (e' := [(0, .string s), (2, .pointer (some ⟨B, 0, none⟩)), (3, .pointer (some ⟨B1, 0, none⟩)), (5, .int .i64 r61), (6, .pointer (some ⟨B2, 0, none⟩)), (26, .int .i64 (0 : Int)), (38, .int .i64 r71)]) (L' := [(B, .cells #[.int .i64 (0 : Int), .int .i64 (0 : Int), .int .i64 (0 : Int), .int .i64 (0 : Int), .int .i64 (0 : Int), .int .i64 (0 : Int), .string (⟨#[]⟩)] 23), (B1, .cells #[.int .i64 r71] 26), (B2, .cells #[.int .i64 r51, .int .i64 (0 : Int), .int .i64 (0 : Int), .int .i64 (0 : Int), .int .i64 (0 : Int), .int .i64 (0 : Int)] 41)]) ?_ (by kernel_rfl)
      refine AtE.inl 29 ⟨[.int .i64 r71]⟩ (fun W => by kernel_rfl) (by kernel_rfl) (fun W hm => AtE.calls (nt := 6) Tryd.func29 (by kernel_rfl) hm ?_)
      refine AtE.run 5 (fun W => by kernel_rfl) ?_
      refine AtE.splitN 3 (p := r71 = (0 : Int)) (by kernel_rfl) (fun h3' => ?_) (fun h3' => ?_)
      · replace H := H.1 h3'
        refine AtE.run 4 (fun W => by kernel_rfl) ?_
        refine AtE.panic (t := 46) (v := .agg #[.int .i64 (10 : Int)]) (by kernel_rfl) ?_
        refine RaiseE.inl Tryd.func29 ?_
        refine RaiseE.dfr Tryd.func16 rfl (fun W => by kernel_rfl) (DCall.mono H ?_)
        clear H
        rintro _ _ ⟨rfl, rfl, H⟩
        exact ⟨rfl, _, ResOk.cells2 (a := 2) (b := 3) (T := 23) (U := 26) (u := .agg #[.int .i64 (0 : Int), .int .i64 (0 : Int), .int .i64 (0 : Int), .int .i64 (0 : Int), .int .i64 (0 : Int), .int .i64 (0 : Int), .string (⟨#[]⟩)]) (v := .int .i64 (10 : Int)) 0 0 1 0 (by kernel_rfl) (by kernel_rfl), H⟩
      · replace H := H.2 h3'
        refine AtE.run 2 (fun W => by kernel_rfl) ?_
        refine AtE.retK (v := .tuple #[]) Tryd.func29 (by kernel_rfl) ?_
        refine AtE.run 26 (fun W => by kernel_rfl) ?_
        refine AtE.call 20 ⟨[.string s, .int .i64 r61]⟩ (fun W => by kernel_rfl) (by kernel_rfl) H ?_
        clear H
        rintro _ _ ⟨r81, r91, r101, rfl, rfl, H⟩
        refine AtE.run 5 (fun W => by kernel_rfl) ?_
        refine AtE.store 2 1 (T := 3) (v := .int .i64 r81) (by kernel_rfl) ?_
        refine AtE.run 1 (fun W => by kernel_rfl) ?_
        refine AtE.store 1 0 (T := 26) (v := .int .i64 r101) (by kernel_rfl) ?_
        refine AtE.run 2 (fun W => by kernel_rfl) ?_
        refine AtE.load 1 0 (T := 26) (v := .int .i64 r101) (by kernel_rfl) ?_
        refine AtE.norm (k' := [.inRegion (regOps [.code (sub (Eng.body Tryd.f16) [1, 1, 1, 1, 1, 1, 0, 1, 0, 0, 1, 1, 0, 0, 1, 1])]) [1], .inBlock 1, .code (sub (Eng.body Tryd.f16) [1, 1, 1, 1, 1, 1, 0, 1, 0, 0, 1, 1, 1]), .inLoop (sub (Eng.body Tryd.f16) [1, 1, 1, 1, 1, 1, 0, 1, 0, 0]), .inBlock 0, .code (sub (Eng.body Tryd.f16) [1, 1, 1, 1, 1, 1, 1])]) (e' := [(0, .string s), (2, .pointer (some ⟨B, 0, none⟩)), (3, .pointer (some ⟨B1, 0, none⟩)), (5, .int .i64 r91), (6, .pointer (some ⟨B2, 0, none⟩)), (26, .int .i64 (1 : Int)), (38, .int .i64 r101)]) (L' := [(B, .cells #[.int .i64 (0 : Int), .int .i64 (0 : Int), .int .i64 (0 : Int), .int .i64 (0 : Int), .int .i64 (0 : Int), .int .i64 (0 : Int), .string (⟨#[]⟩)] 23), (B1, .cells #[.int .i64 r101] 26), (B2, .cells #[.int .i64 r51, .int .i64 r81, .int .i64 (0 : Int), .int .i64 (0 : Int), .int .i64 (0 : Int), .int .i64 (0 : Int)] 41)]) ?_ (by kernel_rfl)
        refine AtE.inl 29 ⟨[.int .i64 r101]⟩ (fun W => by kernel_rfl) (by kernel_rfl) (fun W hm => AtE.calls (nt := 6) Tryd.func29 (by kernel_rfl) hm ?_)
        refine AtE.run 5 (fun W => by kernel_rfl) ?_
        refine AtE.splitN 3 (p := r101 = (0 : Int)) (by kernel_rfl) (fun h4' => ?_) (fun h4' => ?_)
        · replace H := H.1 h4'
          refine AtE.run 4 (fun W => by kernel_rfl) ?_
          refine AtE.panic (t := 46) (v := .agg #[.int .i64 (10 : Int)]) (by kernel_rfl) ?_
          refine RaiseE.inl Tryd.func29 ?_
          refine RaiseE.dfr Tryd.func16 rfl (fun W => by kernel_rfl) (DCall.mono H ?_)
          clear H
          rintro _ _ ⟨rfl, rfl, H⟩
          exact ⟨rfl, _, ResOk.cells2 (a := 2) (b := 3) (T := 23) (U := 26) (u := .agg #[.int .i64 (0 : Int), .int .i64 (0 : Int), .int .i64 (0 : Int), .int .i64 (0 : Int), .int .i64 (0 : Int), .int .i64 (0 : Int), .string (⟨#[]⟩)]) (v := .int .i64 (10 : Int)) 0 0 1 0 (by kernel_rfl) (by kernel_rfl), H⟩
        · replace H := H.2 h4'
          refine AtE.run 2 (fun W => by kernel_rfl) ?_
          refine AtE.retK (v := .tuple #[]) Tryd.func29 (by kernel_rfl) ?_
          refine AtE.run 26 (fun W => by kernel_rfl) ?_
          refine AtE.call 20 ⟨[.string s, .int .i64 r91]⟩ (fun W => by kernel_rfl) (by kernel_rfl) H ?_
          clear H
          rintro _ _ ⟨r111, r121, r131, rfl, rfl, H⟩
          refine AtE.run 5 (fun W => by kernel_rfl) ?_
          refine AtE.store 2 2 (T := 3) (v := .int .i64 r111) (by kernel_rfl) ?_
          refine AtE.run 1 (fun W => by kernel_rfl) ?_
          refine AtE.store 1 0 (T := 26) (v := .int .i64 r131) (by kernel_rfl) ?_
          refine AtE.run 2 (fun W => by kernel_rfl) ?_
          refine AtE.load 1 0 (T := 26) (v := .int .i64 r131) (by kernel_rfl) ?_
          refine AtE.norm (k' := [.inRegion (regOps [.code (sub (Eng.body Tryd.f16) [1, 1, 1, 1, 1, 1, 0, 1, 0, 0, 1, 1, 0, 0, 1, 1])]) [1], .inBlock 1, .code (sub (Eng.body Tryd.f16) [1, 1, 1, 1, 1, 1, 0, 1, 0, 0, 1, 1, 1]), .inLoop (sub (Eng.body Tryd.f16) [1, 1, 1, 1, 1, 1, 0, 1, 0, 0]), .inBlock 0, .code (sub (Eng.body Tryd.f16) [1, 1, 1, 1, 1, 1, 1])]) (e' := [(0, .string s), (2, .pointer (some ⟨B, 0, none⟩)), (3, .pointer (some ⟨B1, 0, none⟩)), (5, .int .i64 r121), (6, .pointer (some ⟨B2, 0, none⟩)), (26, .int .i64 (2 : Int)), (38, .int .i64 r131)]) (L' := [(B, .cells #[.int .i64 (0 : Int), .int .i64 (0 : Int), .int .i64 (0 : Int), .int .i64 (0 : Int), .int .i64 (0 : Int), .int .i64 (0 : Int), .string (⟨#[]⟩)] 23), (B1, .cells #[.int .i64 r131] 26), (B2, .cells #[.int .i64 r51, .int .i64 r81, .int .i64 r111, .int .i64 (0 : Int), .int .i64 (0 : Int), .int .i64 (0 : Int)] 41)]) ?_ (by kernel_rfl)
          refine AtE.inl 29 ⟨[.int .i64 r131]⟩ (fun W => by kernel_rfl) (by kernel_rfl) (fun W hm => AtE.calls (nt := 6) Tryd.func29 (by kernel_rfl) hm ?_)
          refine AtE.run 5 (fun W => by kernel_rfl) ?_
          refine AtE.splitN 3 (p := r131 = (0 : Int)) (by kernel_rfl) (fun h5' => ?_) (fun h5' => ?_)
          · replace H := H.1 h5'
            refine AtE.run 4 (fun W => by kernel_rfl) ?_
            refine AtE.panic (t := 46) (v := .agg #[.int .i64 (10 : Int)]) (by kernel_rfl) ?_
            refine RaiseE.inl Tryd.func29 ?_
            refine RaiseE.dfr Tryd.func16 rfl (fun W => by kernel_rfl) (DCall.mono H ?_)
            clear H
            rintro _ _ ⟨rfl, rfl, H⟩
            exact ⟨rfl, _, ResOk.cells2 (a := 2) (b := 3) (T := 23) (U := 26) (u := .agg #[.int .i64 (0 : Int), .int .i64 (0 : Int), .int .i64 (0 : Int), .int .i64 (0 : Int), .int .i64 (0 : Int), .int .i64 (0 : Int), .string (⟨#[]⟩)]) (v := .int .i64 (10 : Int)) 0 0 1 0 (by kernel_rfl) (by kernel_rfl), H⟩
          · replace H := H.2 h5'
            refine AtE.run 2 (fun W => by kernel_rfl) ?_
            refine AtE.retK (v := .tuple #[]) Tryd.func29 (by kernel_rfl) ?_
            refine AtE.run 26 (fun W => by kernel_rfl) ?_
            refine AtE.call 20 ⟨[.string s, .int .i64 r121]⟩ (fun W => by kernel_rfl) (by kernel_rfl) H ?_
            clear H
            rintro _ _ ⟨r141, r151, r161, rfl, rfl, H⟩
            refine AtE.run 5 (fun W => by kernel_rfl) ?_
            refine AtE.store 2 3 (T := 3) (v := .int .i64 r141) (by kernel_rfl) ?_
            refine AtE.run 1 (fun W => by kernel_rfl) ?_
            refine AtE.store 1 0 (T := 26) (v := .int .i64 r161) (by kernel_rfl) ?_
            refine AtE.run 2 (fun W => by kernel_rfl) ?_
            refine AtE.load 1 0 (T := 26) (v := .int .i64 r161) (by kernel_rfl) ?_
            refine AtE.norm (k' := [.inRegion (regOps [.code (sub (Eng.body Tryd.f16) [1, 1, 1, 1, 1, 1, 0, 1, 0, 0, 1, 1, 0, 0, 1, 1])]) [1], .inBlock 1, .code (sub (Eng.body Tryd.f16) [1, 1, 1, 1, 1, 1, 0, 1, 0, 0, 1, 1, 1]), .inLoop (sub (Eng.body Tryd.f16) [1, 1, 1, 1, 1, 1, 0, 1, 0, 0]), .inBlock 0, .code (sub (Eng.body Tryd.f16) [1, 1, 1, 1, 1, 1, 1])]) (e' := [(0, .string s), (2, .pointer (some ⟨B, 0, none⟩)), (3, .pointer (some ⟨B1, 0, none⟩)), (5, .int .i64 r151), (6, .pointer (some ⟨B2, 0, none⟩)), (26, .int .i64 (3 : Int)), (38, .int .i64 r161)]) (L' := [(B, .cells #[.int .i64 (0 : Int), .int .i64 (0 : Int), .int .i64 (0 : Int), .int .i64 (0 : Int), .int .i64 (0 : Int), .int .i64 (0 : Int), .string (⟨#[]⟩)] 23), (B1, .cells #[.int .i64 r161] 26), (B2, .cells #[.int .i64 r51, .int .i64 r81, .int .i64 r111, .int .i64 r141, .int .i64 (0 : Int), .int .i64 (0 : Int)] 41)]) ?_ (by kernel_rfl)
            refine AtE.inl 29 ⟨[.int .i64 r161]⟩ (fun W => by kernel_rfl) (by kernel_rfl) (fun W hm => AtE.calls (nt := 6) Tryd.func29 (by kernel_rfl) hm ?_)
            refine AtE.run 5 (fun W => by kernel_rfl) ?_
            refine AtE.splitN 3 (p := r161 = (0 : Int)) (by kernel_rfl) (fun h6' => ?_) (fun h6' => ?_)
            · replace H := H.1 h6'
              refine AtE.run 4 (fun W => by kernel_rfl) ?_
              refine AtE.panic (t := 46) (v := .agg #[.int .i64 (10 : Int)]) (by kernel_rfl) ?_
              refine RaiseE.inl Tryd.func29 ?_
              refine RaiseE.dfr Tryd.func16 rfl (fun W => by kernel_rfl) (DCall.mono H ?_)
              clear H
              rintro _ _ ⟨rfl, rfl, H⟩
              exact ⟨rfl, _, ResOk.cells2 (a := 2) (b := 3) (T := 23) (U := 26) (u := .agg #[.int .i64 (0 : Int), .int .i64 (0 : Int), .int .i64 (0 : Int), .int .i64 (0 : Int), .int .i64 (0 : Int), .int .i64 (0 : Int), .string (⟨#[]⟩)]) (v := .int .i64 (10 : Int)) 0 0 1 0 (by kernel_rfl) (by kernel_rfl), H⟩
            · replace H := H.2 h6'
              refine AtE.run 2 (fun W => by kernel_rfl) ?_
              refine AtE.retK (v := .tuple #[]) Tryd.func29 (by kernel_rfl) ?_
              refine AtE.run 26 (fun W => by kernel_rfl) ?_
              refine AtE.call 20 ⟨[.string s, .int .i64 r151]⟩ (fun W => by kernel_rfl) (by kernel_rfl) H ?_
              clear H
              rintro _ _ ⟨r171, r181, r191, rfl, rfl, H⟩
              refine AtE.run 5 (fun W => by kernel_rfl) ?_
              refine AtE.store 2 4 (T := 3) (v := .int .i64 r171) (by kernel_rfl) ?_
              refine AtE.run 1 (fun W => by kernel_rfl) ?_
              refine AtE.store 1 0 (T := 26) (v := .int .i64 r191) (by kernel_rfl) ?_
              refine AtE.run 2 (fun W => by kernel_rfl) ?_
              refine AtE.load 1 0 (T := 26) (v := .int .i64 r191) (by kernel_rfl) ?_
              refine AtE.norm (k' := [.inRegion (regOps [.code (sub (Eng.body Tryd.f16) [1, 1, 1, 1, 1, 1, 0, 1, 0, 0, 1, 1, 0, 0, 1, 1])]) [1], .inBlock 1, .code (sub (Eng.body Tryd.f16) [1, 1, 1, 1, 1, 1, 0, 1, 0, 0, 1, 1, 1]), .inLoop (sub (Eng.body Tryd.f16) [1, 1, 1, 1, 1, 1, 0, 1, 0, 0]), .inBlock 0, .code (sub (Eng.body Tryd.f16) [1, 1, 1, 1, 1, 1, 1])]) (e' := [(0, .string s), (2, .pointer (some ⟨B, 0, none⟩)), (3, .pointer (some ⟨B1, 0, none⟩)), (5, .int .i64 r181), (6, .pointer (some ⟨B2, 0, none⟩)), (26, .int .i64 (4 : Int)), (38, .int .i64 r191)]) (L' := [(B, .cells #[.int .i64 (0 : Int), .int .i64 (0 : Int), .int .i64 (0 : Int), .int .i64 (0 : Int), .int .i64 (0 : Int), .int .i64 (0 : Int), .string (⟨#[]⟩)] 23), (B1, .cells #[.int .i64 r191] 26), (B2, .cells #[.int .i64 r51, .int .i64 r81, .int .i64 r111, .int .i64 r141, .int .i64 r171, .int .i64 (0 : Int)] 41)]) ?_ (by kernel_rfl)
              refine AtE.inl 29 ⟨[.int .i64 r191]⟩ (fun W => by kernel_rfl) (by kernel_rfl) (fun W hm => AtE.calls (nt := 6) Tryd.func29 (by kernel_rfl) hm ?_)
              refine AtE.run 5 (fun W => by kernel_rfl) ?_
              refine AtE.splitN 3 (p := r191 = (0 : Int)) (by kernel_rfl) (fun h7' => ?_) (fun h7' => ?_)
              · replace H := H.1 h7'
                refine AtE.run 4 (fun W => by kernel_rfl) ?_
                refine AtE.panic (t := 46) (v := .agg #[.int .i64 (10 : Int)]) (by kernel_rfl) ?_
                refine RaiseE.inl Tryd.func29 ?_
                refine RaiseE.dfr Tryd.func16 rfl (fun W => by kernel_rfl) (DCall.mono H ?_)
                clear H
                rintro _ _ ⟨rfl, rfl, H⟩
                exact ⟨rfl, _, ResOk.cells2 (a := 2) (b := 3) (T := 23) (U := 26) (u := .agg #[.int .i64 (0 : Int), .int .i64 (0 : Int), .int .i64 (0 : Int), .int .i64 (0 : Int), .int .i64 (0 : Int), .int .i64 (0 : Int), .string (⟨#[]⟩)]) (v := .int .i64 (10 : Int)) 0 0 1 0 (by kernel_rfl) (by kernel_rfl), H⟩
              · replace H := H.2 h7'
                refine AtE.run 2 (fun W => by kernel_rfl) ?_
                refine AtE.retK (v := .tuple #[]) Tryd.func29 (by kernel_rfl) ?_
                refine AtE.run 26 (fun W => by kernel_rfl) ?_
                refine AtE.call 20 ⟨[.string s, .int .i64 r181]⟩ (fun W => by kernel_rfl) (by kernel_rfl) H ?_
                clear H
                rintro _ _ ⟨r201, r221, r231, rfl, rfl, H⟩
                refine AtE.run 5 (fun W => by kernel_rfl) ?_
                refine AtE.store 2 5 (T := 3) (v := .int .i64 r201) (by kernel_rfl) ?_
                refine AtE.run 1 (fun W => by kernel_rfl) ?_
                refine AtE.store 1 0 (T := 26) (v := .int .i64 r231) (by kernel_rfl) ?_
                refine AtE.run 2 (fun W => by kernel_rfl) ?_
                refine AtE.load 1 0 (T := 26) (v := .int .i64 r231) (by kernel_rfl) ?_
                refine AtE.norm (k' := [.inRegion (regOps [.code (sub (Eng.body Tryd.f16) [1, 1, 1, 1, 1, 1, 0, 1, 0, 0, 1, 1, 0, 0, 1, 1])]) [1], .inBlock 1, .code (sub (Eng.body Tryd.f16) [1, 1, 1, 1, 1, 1, 0, 1, 0, 0, 1, 1, 1]), .inLoop (sub (Eng.body Tryd.f16) [1, 1, 1, 1, 1, 1, 0, 1, 0, 0]), .inBlock 0, .code (sub (Eng.body Tryd.f16) [1, 1, 1, 1, 1, 1, 1])]) (e' := [(0, .string s), (2, .pointer (some ⟨B, 0, none⟩)), (3, .pointer (some ⟨B1, 0, none⟩)), (5, .int .i64 r221), (6, .pointer (some ⟨B2, 0, none⟩)), (26, .int .i64 (5 : Int)), (38, .int .i64 r231)]) (L' := [(B, .cells #[.int .i64 (0 : Int), .int .i64 (0 : Int), .int .i64 (0 : Int), .int .i64 (0 : Int), .int .i64 (0 : Int), .int .i64 (0 : Int), .string (⟨#[]⟩)] 23), (B1, .cells #[.int .i64 r231] 26), (B2, .cells #[.int .i64 r51, .int .i64 r81, .int .i64 r111, .int .i64 r141, .int .i64 r171, .int .i64 r201] 41)]) ?_ (by kernel_rfl)
                refine AtE.inl 29 ⟨[.int .i64 r231]⟩ (fun W => by kernel_rfl) (by kernel_rfl) (fun W hm => AtE.calls (nt := 6) Tryd.func29 (by kernel_rfl) hm ?_)
                refine AtE.run 5 (fun W => by kernel_rfl) ?_
                refine AtE.splitN 3 (p := r231 = (0 : Int)) (by kernel_rfl) (fun h8' => ?_) (fun h8' => ?_)
                · replace H := H.1 h8'
                  refine AtE.run 4 (fun W => by kernel_rfl) ?_
                  refine AtE.panic (t := 46) (v := .agg #[.int .i64 (10 : Int)]) (by kernel_rfl) ?_
                  refine RaiseE.inl Tryd.func29 ?_
                  refine RaiseE.dfr Tryd.func16 rfl (fun W => by kernel_rfl) (DCall.mono H ?_)
                  clear H
                  rintro _ _ ⟨rfl, rfl, H⟩
                  exact ⟨rfl, _, ResOk.cells2 (a := 2) (b := 3) (T := 23) (U := 26) (u := .agg #[.int .i64 (0 : Int), .int .i64 (0 : Int), .int .i64 (0 : Int), .int .i64 (0 : Int), .int .i64 (0 : Int), .int .i64 (0 : Int), .string (⟨#[]⟩)]) (v := .int .i64 (10 : Int)) 0 0 1 0 (by kernel_rfl) (by kernel_rfl), H⟩
                · replace H := H.2 h8'
                  refine AtE.run 2 (fun W => by kernel_rfl) ?_
                  refine AtE.retK (v := .tuple #[]) Tryd.func29 (by kernel_rfl) ?_
                  refine AtE.run 18 (fun W => by kernel_rfl) ?_
                  refine AtE.call 30 ⟨[.string s, .int .i64 r221]⟩ (fun W => by kernel_rfl) (by kernel_rfl) H ?_
                  clear H
                  rintro _ _ ⟨r241, r251, r261, rfl, rfl, H⟩
                  refine AtE.run 6 (fun W => by kernel_rfl) ?_
                  refine AtE.store 1 0 (T := 26) (v := .int .i64 r261) (by kernel_rfl) ?_
                  refine AtE.run 3 (fun W => by kernel_rfl) ?_
                  refine AtE.load 1 0 (T := 26) (v := .int .i64 r261) (by kernel_rfl) ?_
                  refine AtE.norm (k' := [.inRegion (regOps [.code (sub (Eng.body Tryd.f16) [1, 1, 1, 1, 1, 1, 1, 1, 0])]) [1], .code (sub (Eng.body Tryd.f16) [1, 1, 1, 1, 1, 1, 1, 1, 1])]) (e' := [(0, .string s), (2, .pointer (some ⟨B, 0, none⟩)), (3, .pointer (some ⟨B1, 0, none⟩)), (5, .int .i64 r251), (6, .pointer (some ⟨B2, 0, none⟩)), (8, .string r241), (48, .int .i64 r261)]) (L' := [(B, .cells #[.int .i64 (0 : Int), .int .i64 (0 : Int), .int .i64 (0 : Int), .int .i64 (0 : Int), .int .i64 (0 : Int), .int .i64 (0 : Int), .string (⟨#[]⟩)] 23), (B1, .cells #[.int .i64 r261] 26), (B2, .cells #[.int .i64 r51, .int .i64 r81, .int .i64 r111, .int .i64 r141, .int .i64 r171, .int .i64 r201] 41)]) ?_ (by kernel_rfl)
                  refine AtE.inl 29 ⟨[.int .i64 r261]⟩ (fun W => by kernel_rfl) (by kernel_rfl) (fun W hm => AtE.calls (nt := 6) Tryd.func29 (by kernel_rfl) hm ?_)
                  refine AtE.run 5 (fun W => by kernel_rfl) ?_
                  refine AtE.splitN 3 (p := r261 = (0 : Int)) (by kernel_rfl) (fun h9' => ?_) (fun h9' => ?_)
                  · replace H := H.1 h9'
                    refine AtE.run 4 (fun W => by kernel_rfl) ?_
                    refine AtE.panic (t := 46) (v := .agg #[.int .i64 (10 : Int)]) (by kernel_rfl) ?_
                    refine RaiseE.inl Tryd.func29 ?_
                    refine RaiseE.dfr Tryd.func16 rfl (fun W => by kernel_rfl) (DCall.mono H ?_)
                    clear H
                    rintro _ _ ⟨rfl, rfl, H⟩
                    exact ⟨rfl, _, ResOk.cells2 (a := 2) (b := 3) (T := 23) (U := 26) (u := .agg #[.int .i64 (0 : Int), .int .i64 (0 : Int), .int .i64 (0 : Int), .int .i64 (0 : Int), .int .i64 (0 : Int), .int .i64 (0 : Int), .string (⟨#[]⟩)]) (v := .int .i64 (10 : Int)) 0 0 1 0 (by kernel_rfl) (by kernel_rfl), H⟩
                  · replace H := H.2 h9'
                    refine AtE.run 2 (fun W => by kernel_rfl) ?_
                    refine AtE.retK (v := .tuple #[]) Tryd.func29 (by kernel_rfl) ?_
                    refine AtE.run 9 (fun W => by kernel_rfl) ?_
                    refine AtE.splitP 53 (p := r251 < (s.size : Int)) (by kernel_rfl) (fun h10' => ?_) (fun h10' => ?_)
                    · replace H := H.1 h10'
                      refine AtE.run 4 (fun W => by kernel_rfl) ?_
                      refine AtE.panic (t := 46) (v := .agg #[.int .i64 (10 : Int)]) (by kernel_rfl) ?_
                      refine RaiseE.dfr Tryd.func16 rfl (fun W => by kernel_rfl) (DCall.mono H ?_)
                      clear H
                      rintro _ _ ⟨rfl, rfl, H⟩
                      exact ⟨rfl, _, ResOk.cells2 (a := 2) (b := 3) (T := 23) (U := 26) (u := .agg #[.int .i64 (0 : Int), .int .i64 (0 : Int), .int .i64 (0 : Int), .int .i64 (0 : Int), .int .i64 (0 : Int), .int .i64 (0 : Int), .string (⟨#[]⟩)]) (v := .int .i64 (10 : Int)) 0 0 1 0 (by kernel_rfl) (by kernel_rfl), H⟩
                    · replace H := H.2 h10'
                      refine AtE.run 5 (fun W => by kernel_rfl) ?_
                      refine AtE.load 2 0 (T := 3) (v := .int .i64 r51) (by kernel_rfl) ?_
                      refine AtE.run 1 (fun W => by kernel_rfl) ?_
                      refine AtE.load 2 1 (T := 3) (v := .int .i64 r81) (by kernel_rfl) ?_
                      refine AtE.run 1 (fun W => by kernel_rfl) ?_
                      refine AtE.load 2 2 (T := 3) (v := .int .i64 r111) (by kernel_rfl) ?_
                      refine AtE.run 1 (fun W => by kernel_rfl) ?_
                      refine AtE.load 2 3 (T := 3) (v := .int .i64 r141) (by kernel_rfl) ?_
                      refine AtE.norm (k' := [.inRegion (regOps [.code (sub (Eng.body Tryd.f16) [1, 1, 1, 1, 1, 1, 1, 1, 1, 1, 0])]) [8, 9, 10, 11, 12, 13, 14], .code (sub (Eng.body Tryd.f16) [1, 1, 1, 1, 1, 1, 1, 1, 1, 1, 1])]) (e' := [(2, .pointer (some ⟨B, 0, none⟩)), (3, .pointer (some ⟨B1, 0, none⟩)), (6, .pointer (some ⟨B2, 0, none⟩)), (8, .string r241), (57, .int .i64 r51), (59, .int .i64 r81), (61, .int .i64 r111), (63, .int .i64 r141)]) (L' := [(B, .cells #[.int .i64 (0 : Int), .int .i64 (0 : Int), .int .i64 (0 : Int), .int .i64 (0 : Int), .int .i64 (0 : Int), .int .i64 (0 : Int), .string (⟨#[]⟩)] 23), (B1, .cells #[.int .i64 r261] 26), (B2, .cells #[.int .i64 r51, .int .i64 r81, .int .i64 r111, .int .i64 r141, .int .i64 r171, .int .i64 r201] 41)]) ?_ (by kernel_rfl)
                      refine AtE.run 1 (fun W => by kernel_rfl) ?_
                      refine AtE.load 2 4 (T := 3) (v := .int .i64 r171) (by kernel_rfl) ?_
                      refine AtE.run 1 (fun W => by kernel_rfl) ?_
                      refine AtE.load 2 5 (T := 3) (v := .int .i64 r201) (by kernel_rfl) ?_
                      refine AtE.run 2 (fun W => by kernel_rfl) ?_
                      refine AtE.store 0 0 (T := 23) (v := .agg #[.int .i64 r51, .int .i64 r81, .int .i64 r111, .int .i64 r141, .int .i64 r171, .int .i64 r201, .string r241]) (by kernel_rfl) ?_
                      refine AtE.run 4 (fun W => by kernel_rfl) ?_
                      refine AtE.load 0 0 (T := 23) (v := .agg #[.int .i64 r51, .int .i64 r81, .int .i64 r111, .int .i64 r141, .int .i64 r171, .int .i64 r201, .string r241]) (by kernel_rfl) ?_
                      refine AtE.call 14 ⟨[.agg #[.int .i64 r51, .int .i64 r81, .int .i64 r111, .int .i64 r141, .int .i64 r171, .int .i64 r201, .string r241]]⟩ (fun W => by kernel_rfl) (by kernel_rfl) H ?_
                      clear H
                      rintro _ _ ⟨r271, rfl, rfl, H⟩
                      refine AtE.split 71 (b := r271) (by kernel_rfl) (fun h11' => ?_) (fun h11' => ?_)
                      · replace H := H.1 h11'
                        refine AtE.run 6 (fun W => by kernel_rfl) ?_
                        refine AtE.load 0 0 (T := 23) (v := .agg #[.int .i64 r51, .int .i64 r81, .int .i64 r111, .int .i64 r141, .int .i64 r171, .int .i64 r201, .string r241]) (by kernel_rfl) ?_
                        refine AtE.norm (k' := [.inRegion (regOps [.code (sub (Eng.body Tryd.f16) [1, 1, 1, 1, 1, 1, 1, 1, 1, 1, 1, 1, 0])]) [1, 2], .code (sub (Eng.body Tryd.f16) [1, 1, 1, 1, 1, 1, 1, 1, 1, 1, 1, 1, 1])]) (e' := [(2, .pointer (some ⟨B, 0, none⟩)), (3, .pointer (some ⟨B1, 0, none⟩)), (75, .agg #[.int .i64 r51, .int .i64 r81, .int .i64 r111, .int .i64 r141, .int .i64 r171, .int .i64 r201, .string r241])]) (L' := [(B, .cells #[.int .i64 r51, .int .i64 r81, .int .i64 r111, .int .i64 r141, .int .i64 r171, .int .i64 r201, .string r241] 23), (B1, .cells #[.int .i64 r261] 26), (B2, .cells #[.int .i64 r51, .int .i64 r81, .int .i64 r111, .int .i64 r141, .int .i64 r171, .int .i64 r201] 41)]) ?_ (by kernel_rfl)
                        refine AtE.store 0 0 (T := 23) (v := .agg #[.int .i64 r51, .int .i64 r81, .int .i64 r111, .int .i64 r141, .int .i64 r171, .int .i64 r201, .string r241]) (by kernel_rfl) ?_
                        refine AtE.store 1 0 (T := 26) (v := .int .i64 (0 : Int)) (by kernel_rfl) ?_
                        refine AtE.run 1 (fun W => by kernel_rfl) ?_
                        refine AtE.retD Tryd.func16 rfl (fun W => by kernel_rfl) (by kernel_rfl) (DCall.mono H ?_)
                        clear H
                        rintro _ _ ⟨rfl, rfl, H⟩
                        exact ⟨rfl, _, ResOk.cells2 (a := 2) (b := 3) (T := 23) (U := 26) (u := .agg #[.int .i64 r51, .int .i64 r81, .int .i64 r111, .int .i64 r141, .int .i64 r171, .int .i64 r201, .string r241]) (v := .int .i64 (0 : Int)) 0 0 1 0 (by kernel_rfl) (by kernel_rfl), H⟩
                      · replace H := H.2 h11'
                        refine AtE.run 6 (fun W => by kernel_rfl) ?_
                        refine AtE.panic (t := 46) (v := .agg #[.int .i64 (200 : Int)]) (by kernel_rfl) ?_
                        refine RaiseE.dfr Tryd.func16 rfl (fun W => by kernel_rfl) (DCall.mono H ?_)
                        clear H
                        rintro _ _ ⟨rfl, rfl, H⟩
                        exact ⟨rfl, _, ResOk.cells2 (a := 2) (b := 3) (T := 23) (U := 26) (u := .agg #[.int .i64 (0 : Int), .int .i64 (0 : Int), .int .i64 (0 : Int), .int .i64 (0 : Int), .int .i64 (0 : Int), .int .i64 (0 : Int), .string (⟨#[]⟩)]) (v := .int .i64 (200 : Int)) 0 0 1 0 (by kernel_rfl) (by kernel_rfl), H⟩

end Go.Eng
