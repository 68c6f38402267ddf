/- A part. -/
import Derived.Test.YtfobdgoklnhebaaGreatDoorAnyJ
set_option linter.unusedVariables false
set_option linter.unusedSimpArgs false
set_option maxRecDepth 100000
open Go.Proofs.Tryz renaming prog→bm
namespace Go.Proofs.YtfobdgoklnhebaaGreatDoor
open Go
def vD:List Char:=[104,97,114,110,101,115,115,32,48,97,54,52,52,101,97,48,102,54,51,57,101,102,53,55,102,50,102,54,52,56,102,102,99,98,51,51,55,99,98,49,50,50,57,100,52,50,50,50,99,99,56,51,55,50,54,98,55,57,55,98,98,100,100,100,100,56,101,52,54,54,51,57,32,99,117,116,32,97,116,32,99,111,112,121,100,101,115,107,47,99,111,112,121,100,101,115,107,108,97,119,50,52,46,74,111,117,114,110,97,108,68,97,109,97,103,101,100,32,99,111,112,121,100,101,115,107,47,99,111,112,121,100,101,115,107,108,97,119,50,52,46,74,111,117,114,110,97,108,82,101,102,117,115,101,115,32,99,111,112,121,100,101,115,107,47,99,111,112,121,100,101,115,107,108,97,119,50,52,46,74,111,117,114,110,97,108,69,114,97,115,101,115,32,99,111,112,121,100,101,115,107,47,99,111,112,121,100,101,115,107,108,97,119,50,52,46,74,111,117,114,110,97,108,82,101,111,112,101,110,115,32,99,111,112,121,100,101,115,107,47,99,111,112,121,100,101,115,107,108,97,119,50,52,46,74,111,117,114,110,97,108,79,112,101,110,115,65,110,121,116,104,105,110,103,32,99,111,112,121,100,101,115,107,47,99,111,112,121,100,101,115,107,108,97,119,50,52,46,74,111,117,114,110,97,108,83,117,114,118,105,118,101,115,32,99,111,112,121,100,101,115,107,47,99,111,112,121,100,101,115,107,108,97,119,50,52,46,74,111,117,114,110,97,108,79,112,101,110,115,84,119,105,99,101].map Char.ofNat
theorem LJ:bm.initOrder.toList=vD:=by
 have e:bm.initOrder=String.ofList vD:=by kernel_rfl
 rw[e,String.toList_ofList]
noncomputable abbrev s3 (s:String):Program:={bm with initOrder:=s}
theorem QF (s:String)(h:(s3 s).initOrder.toList=vD):(s3 s).mayEnter=true:=by
 delta Program.mayEnter
 rewrite [h]
 kernel_rfl
theorem OF (s:String)(h:(s3 s).initOrder.toList=vD):(s3 s).make=some .cut:=by
 delta Program.make
 rewrite [h]
 kernel_rfl
theorem XG (s:String)(h:(s3 s).initOrder.toList=vD):(s3 s).liftsFinal=false:=by
 delta Program.liftsFinal Program.headLifts
 rewrite [h]
 kernel_rfl
theorem Sx (s:String)(h:(s3 s).initOrder.toList=vD):(s3 s).mainIs=some (true, "0a644ea0f639ef57f2f648ffcb337cb1229d4222cc83726b797bbdddd8e46639".toList):=by
 delta Program.mainIs
 rewrite [h]
 kernel_rfl
theorem Xl:bm.mainIs=some (true, "0a644ea0f639ef57f2f648ffcb337cb1229d4222cc83726b797bbdddd8e46639".toList):=Sx bm.initOrder LJ
end Go.Proofs.YtfobdgoklnhebaaGreatDoor
