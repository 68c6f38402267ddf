/- A part of the proof: the engine by which functions are walked, verification conditions that a program of the prover wrote, contracts and plain laws; no claim of its own. -/
import Derived.Test.YtombejccmojjbaaGreatDoorRows
import Derived.Test.YtombejccmojjbaaGreatDoorLisI
namespace Go.Proofs.YtombejccmojjbaaGreatDoor
open Go
set_option maxRecDepth 100000
def initL : List Char := [104, 97, 114, 110, 101, 115, 115, 32, 54, 54, 100, 48, 55, 97, 102, 98, 100, 54, 97, 49, 55, 56, 102, 98, 57, 49, 100, 102, 49, 53, 56, 100, 52, 48, 97, 55, 101, 101, 98, 101, 54, 101, 100, 51, 53, 57, 99, 48, 51, 97, 102, 51, 48, 53, 51, 57, 48, 56, 102, 51, 51, 50, 49, 98, 56, 50, 53, 52, 54, 54, 99, 101, 32, 99, 117, 116, 32, 97, 116, 32, 99, 111, 112, 121, 100, 101, 115, 107, 47, 99, 111, 112, 121, 100, 101, 115, 107, 108, 97, 119, 48, 53, 46, 70, 97, 99, 116, 82, 111, 117, 110, 100, 84, 114, 105, 112, 32, 99, 111, 112, 121, 100, 101, 115, 107, 47, 99, 111, 112, 121, 100, 101, 115, 107, 108, 97, 119, 48, 53, 46, 70, 97, 99, 116, 85, 110, 105, 113, 117, 101, 32, 99, 111, 112, 121, 100, 101, 115, 107, 47, 99, 111, 112, 121, 100, 101, 115, 107, 108, 97, 119, 48, 53, 46, 70, 97, 99, 116, 84, 114, 117, 110, 99, 97, 116, 101, 100, 32, 99, 111, 112, 121, 100, 101, 115, 107, 47, 99, 111, 112, 121, 100, 101, 115, 107, 108, 97, 119, 48, 53, 46, 70, 97, 99, 116, 73, 110, 106, 101, 99, 116, 105, 118, 101, 32, 99, 111, 112, 121, 100, 101, 115, 107, 47, 99, 111, 112, 121, 100, 101, 115, 107, 108, 97, 119, 48, 53, 46, 70, 97, 99, 116, 70, 105, 101, 108, 100, 115, 32, 99, 111, 112, 121, 100, 101, 115, 107, 47, 99, 111, 112, 121, 100, 101, 115, 107, 108, 97, 119, 48, 53, 46, 70, 97, 99, 116, 82, 101, 100, 97, 99, 116, 32, 99, 111, 112, 121, 100, 101, 115, 107, 47, 99, 111, 112, 121, 100, 101, 115, 107, 108, 97, 119, 48, 53, 46, 70, 97, 99, 116, 76, 105, 115, 116, 115, 32, 99, 111, 112, 121, 100, 101, 115, 107, 47, 99, 111, 112, 121, 100, 101, 115, 107, 108, 97, 119, 50, 52, 46, 74, 111, 117, 114, 110, 97, 108, 68, 97, 109, 97, 103, 101, 100, 32, 99, 111, 112, 121, 100, 101, 115, 107, 47, 99, 111, 112, 121, 100, 101, 115, 107, 108, 97, 119, 50, 52, 46, 74, 111, 117, 114, 110, 97, 108, 82, 101, 102, 117, 115, 101, 115, 32, 99, 111, 112, 121, 100, 101, 115, 107, 47, 99, 111, 112, 121, 100, 101, 115, 107, 108, 97, 119, 50, 52, 46, 74, 111, 117, 114, 110, 97, 108, 69, 114, 97, 115, 101, 115, 32, 99, 111, 112, 121, 100, 101, 115, 107, 47, 99, 111, 112, 121, 100, 101, 115, 107, 108, 97, 119, 50, 52, 46, 74, 111, 117, 114, 110, 97, 108, 82, 101, 111, 112, 101, 110, 115, 32, 99, 111, 112, 121, 100, 101, 115, 107, 47, 99, 111, 112, 121, 100, 101, 115, 107, 108, 97, 119, 50, 52, 46, 74, 111, 117, 114, 110, 97, 108, 79, 112, 101, 110, 115, 65, 110, 121, 116, 104, 105, 110, 103, 32, 99, 111, 112, 121, 100, 101, 115, 107, 47, 99, 111, 112, 121, 100, 101, 115, 107, 108, 97, 119, 50, 52, 46, 74, 111, 117, 114, 110, 97, 108, 83, 117, 114, 118, 105, 118, 101, 115, 32, 99, 111, 112, 121, 100, 101, 115, 107, 47, 99, 111, 112, 121, 100, 101, 115, 107, 108, 97, 119, 50, 52, 46, 74, 111, 117, 114, 110, 97, 108, 79, 112, 101, 110, 115, 84, 119, 105, 99, 101].map Char.ofNat
theorem charsT : Tryz.prog.initOrder.toList = initL := by
  have e : Tryz.prog.initOrder = String.ofList initL := by kernel_rfl
  rw [e, String.toList_ofList]
noncomputable abbrev progS (s : String) : Program := { Tryz.prog with initOrder := s }
theorem mayEnterS (s : String) (h : (progS s).initOrder.toList = initL) : (progS s).mayEnter = true := by
  delta Program.mayEnter
  rewrite [h]
  kernel_rfl
theorem makeS (s : String) (h : (progS s).initOrder.toList = initL) : (progS s).make = some .cut := by
  delta Program.make
  rewrite [h]
  kernel_rfl
theorem liftsS (s : String) (h : (progS s).initOrder.toList = initL) : (progS s).liftsFinal = false := by
  delta Program.liftsFinal Program.headLifts
  rewrite [h]
  kernel_rfl
theorem mainS (s : String) (h : (progS s).initOrder.toList = initL) : (progS s).mainIs = some (true, "66d07afbd6a178fb91df158d40a7eebe6ed359c03af3053908f3321b825466ce".toList) := by
  delta Program.mainIs
  rewrite [h]
  kernel_rfl
theorem mainT : Tryz.prog.mainIs = some (true, "66d07afbd6a178fb91df158d40a7eebe6ed359c03af3053908f3321b825466ce".toList) := mainS Tryz.prog.initOrder charsT
end Go.Proofs.YtombejccmojjbaaGreatDoor
