/- A part. -/
import Derived.Test.YtfobdgoklnhebaaGreatDoorTie
import Derived.Test.YtfobdgoklnhebaaGreatDoorCards
import Derived.Test.YtfobdgoklnhebaaGreatDoorAnyH
set_option linter.unusedVariables false
set_option linter.unusedSimpArgs false
set_option maxRecDepth 100000
open Go.Proofs.Tryz renaming prog→bm
open List renaming range→jS
open Option.some renaming inj→bY
namespace Go.Proofs.YtfobdgoklnhebaaGreatDoor
open Go Go.Eng Go.RowKit Go.ChangeShapes Go.WideShapes Go.ChangeMaps
theorem BN {n:Int}(h:(Lit.int .i64 n).wf=true):i64 n:=bounds_i64 h
theorem b8 {n:Int}(h:(Lit.int .u8 n).wf=true):0≤n∧n<256:=by
 simp only[Lit.wf,Bool.and_eq_true,decide_eq_true_eq]at h;have M:IntKind.min .u8=0:=rfl;have O:IntKind.max .u8=255:=rfl;omega
theorem own:ownKnob bm.godebug=none:=by kernel_rfl
theorem laidOut:laidOutB bm=true:=by kernel_rfl
theorem Iz:bm.globalNamed "copydesk/wire.shifts"=some 0:=by kernel_rfl
theorem TD:(bm.globals[0]?).map (·.type)=some 186:=by kernel_rfl
abbrev uD:List (String×DataW Unit):=[("unicode/utf8.acceptRanges",Rows.laid_unicode_utf8_acceptRanges),("copydesk/wire.shifts",Rows.laid_copydesk_wire_shifts),("unicode/utf8.first",Rows.laid_unicode_utf8_first)]
theorem Ok:(uD.filter fun x=>x.2.handleName?.isNone)=uD:=rfl
theorem TS (w w':World)(h:w.heap=w'.heap)(M:laidMetH bm uD w):laidMetH bm uD w':=M.of_heap h
theorem Vv {W:World}{n:String}{g:Nat}{c:List Value}(M:bm.globalNamed n=some g)(h:W.var? bm n=some ⟨c⟩):lG W g=some c:=by
 unfold World.var? at h;rw[M]at h;simp only[Option.bind_some]at h;unfold lG;split at h
 ·next c' t fz hh=>
  rw[hh];simp only[Option.some.injEq]at h;simp only[h]
 ·cases h
theorem TT {W:World}(h:laidMetH bm uD W):lG W 0=some mH:=by
 have M:laidMet bm uD W:=h;obtain⟨ps,⟨_,_,_,_,_,_,_,_,_,_,⟨g,t,cs,a3,p,q,V,a1,a2,O,_,_⟩,_⟩,_⟩:=M;obtain rfl:=bY (Iz.symm.trans V);obtain rfl:=bY (TD.symm.trans a1);have hcs:=P3 (kd:=.u32) (e:=184) (ns:=Wire.uO.map Int.ofNat) Tryz.underlying186 Tryz.underlying184 (by kernel_rfl) (by kernel_rfl) O;have:=Vv Iz (c:=cs.toList) a2;rw[this,hcs];rfl
def Rw:List Value:=[128,191,160,191,128,159,144,191,128,143,0,0,0,0,0,0,0,0,0,0,0,0,0,0,0,0,0,0,0,0,0,0].map (Value.int .u8)
noncomputable def Gb (os:Os):World:=
 let w0:=World.holding bm os ⟨#[],#[],[]⟩
 { w0 with heap:=((w0.heap.modify 3 fun
   | .cells _ t frozen=>.cells ⟨Rw⟩ t frozen
   |o=>o).modify 0 fun
   | .cells _ t frozen=>.cells ⟨mH⟩ t frozen
   |o=>o).modify 2 fun
   | .cells _ t frozen=>.cells ⟨Go.Pinned.utf8FirstZ.map fun n:Nat=>Value.int .u8 (n:Int)⟩ t frozen
   |o=>o}
theorem Yl (os:Os)(args:Array Value):laidMet bm uD ((Gb os).forCall (fun _ _=>0) ⟨#[],args,[]⟩).memory:=
 laidMet_of_run (ps:=(jS 32).map (.cell 3 ·)++((jS 16).map (.cell 0 ·)++(jS 256).map (.cell 2 ·))) 8 (by kernel_rfl) (by kernel_rfl) (by kernel_rfl)
theorem YQ (os:Os)(args:Array Value):laidMetH bm uD ((Gb os).forCall (fun _ _=>0) ⟨#[],args,[]⟩).memory:=
 laidMetH_of_parts (by rw[Ok];exact Yl os args) (by kernel_rfl)
end Go.Proofs.YtfobdgoklnhebaaGreatDoor
