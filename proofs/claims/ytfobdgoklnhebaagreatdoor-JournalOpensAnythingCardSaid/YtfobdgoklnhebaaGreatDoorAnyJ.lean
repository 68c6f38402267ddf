/- A part. -/
import Derived.Test.YtfobdgoklnhebaaGreatDoorAnyI
set_option linter.unusedVariables false
set_option linter.unusedSimpArgs false
set_option maxRecDepth 100000
open Go renaming TypeId→aC,Value→aa,World→aj
open Go.Proofs.Tryz renaming prog→bm,underlying3→cq,underlying38→dY,underlying149→dv,underlying36→eE,underlying57→eG,underlying9→gP,underlying34→jW
open List renaming drop_zero→aU,getElem?_take_of_lt→bh,getElem?_drop→cd,take_zero→dN,take_succ_cons→eh,drop_succ_cons→fq
open List.cons renaming injEq→bM
open Nat renaming le_trans→bC
namespace Go.Proofs.YtfobdgoklnhebaaGreatDoor
open Go Go.Eng Go.RowKit Go.ChangeShapes Go.WideShapes Go.ChangeMaps
theorem Ke {w:aj}{p:Option Addr}{l:List Int}(h:pb (kY w) 1 (EL .i64) p l):lX (kY w) p l:=by
 intro hp;obtain⟨b,o,c,M,O,V⟩:=h hp;refine⟨b,o,c,M,O,fun i hi=>?_⟩;obtain⟨_,a1,_⟩:=V i hi;have:((c.drop (o+i*1)).take 1)[0]?=some (.int .i64 l[i]):=by rw[a1];rfl
 rw[bh (by decide),cd]at this;simpa using this
theorem Vi {w:aj}{p:Option Addr}{l:List ByteArray}(h:pb (kY w) 1 ED p l):nh (kY w) p l:=by
 intro hp;obtain⟨b,o,c,M,O,V⟩:=h hp;refine⟨b,o,c,M,O,fun i hi=>?_⟩;obtain⟨_,a1,_⟩:=V i hi;have:((c.drop (o+i*1)).take 1)[0]?=some (.string l[i]):=by rw[a1];rfl
 rw[bh (by decide),cd]at this;simpa using this
theorem PY {w:aj}{p:Option Addr}{l:List ByteArray}(h:pb (kY w) 1 ED p l):∀t∈l,t.size≤9223372036854775807:=by
 intro t O;obtain⟨i,hi,rfl⟩:=List.getElem_of_mem O;obtain⟨_,_,_,_,_,_,_,M⟩:=h.get hi;exact bC M (by decide)
def Tn (w:aj)(cs:List aa)(l:mi):Prop:=∃p c,cs=l.cells p c∧lX (kY w) p l.after∧l.after.length≤9223372036854775807∧l.after.length≤c
theorem MQ {H:Type}{enc:aC×aa→H}{w:aj}:qG enc bm w 36 (Tn w):=by
 intro a9 cs x h;have a8:=BS eE h (n:=4) (by kernel_rfl);obtain⟨a0,O,_⟩:=oL eE h 0 3 0 1 rfl (by kernel_rfl) (qQ (kd:=.i64) cq);obtain⟨a3,p,n,c,V,e1,M,a6,_,a7⟩:=oL eE h 1 34 1 1 rfl (by kernel_rfl) (yd (sz:=1) jW (by kernel_rfl) (by decide) (qQ (kd:=.i64) cq));obtain⟨a4,a1,_⟩:=oL eE h 2 3 2 1 rfl (by kernel_rfl) (qQ (kd:=.i64) cq);obtain⟨a5,a2,_⟩:=oL eE h 3 3 3 1 rfl (by kernel_rfl) (qQ (kd:=.i64) cq)
 match cs,a8 with
 |[c0,c1,c2,c3],_=>
  simp only[aU,fq,eh,dN,bM,and_true]at O V a1 a2;subst O V a1 a2 e1;exact⟨⟨a0,a3,a4,a5⟩,p,c,rfl,Ke a7,bC M (bC a6 (by decide)),M⟩
theorem RB {H:Type}{enc:aC×aa→H}{w:aj}:qG enc bm w 149 (I6 (kY w)):=by
 intro b6 cs x h;have b5:=BS dv h (n:=9) (by kernel_rfl);obtain⟨a0,M,_⟩:=oL dv h 0 3 0 1 rfl (by kernel_rfl) (qQ (kd:=.i64) cq);obtain⟨a4,O,_⟩:=oL dv h 1 3 1 1 rfl (by kernel_rfl) (qQ (kd:=.i64) cq);obtain⟨a5,V,a9⟩:=oL dv h 2 9 2 1 rfl (by kernel_rfl) (D0 gP);obtain⟨a6,a1,_⟩:=oL dv h 3 3 3 1 rfl (by kernel_rfl) (qQ (kd:=.i64) cq);obtain⟨a7,a2,_⟩:=oL dv h 4 3 4 1 rfl (by kernel_rfl) (qQ (kd:=.i64) cq);obtain⟨a8,p,c,a3,b1,b3,b4⟩:=oL dv h 5 36 5 4 rfl (by kernel_rfl) MQ
 match cs,b5 with
 |[c0,c1,c2,c3,c4,c5,c6,c7,c8],_=>
  simp only[aU,fq,eh,dN,bM,and_true]at M O V a1 a2 a3;obtain⟨rfl,rfl,rfl,rfl⟩:=a3;subst M O V a1 a2;exact⟨⟨a0,a4,a5,a6,a7,a8⟩,p,c,rfl,b1,⟨bC a9 (by decide),b3⟩,b4⟩
def Qb (w:aj)(cs:List aa)(f:dF):Prop:=∃tp tc bp bc ap ac,cs=f.cells tp tc bp bc ap ac∧xT (kY w) f tp tc bp bc ap ac
set_option maxHeartbeats 1000000 in
theorem V2 {H:Type}{enc:aC×aa→H}{w:aj}:qG enc bm w 38 (Qb w):=by
 intro fuel cs x h;have hl:=BS dY h (n:=23) (by kernel_rfl);have I:=fun(i off:Nat) (hi)=>oL dY h i 3 off 1 hi (by kernel_rfl) (qQ (kd:=.i64) cq)
 have S:=fun(i off:Nat) (hi)=>oL dY h i 9 off 1 hi (by kernel_rfl) (D0 gP)
 obtain⟨a0,h0,_⟩:=I 0 0 rfl;obtain⟨a1,h1,_⟩:=I 1 1 rfl;obtain⟨a2,h2,_⟩:=I 2 2 rfl;obtain⟨a3,h3,_⟩:=I 3 3 rfl;obtain⟨a4,h4,s4⟩:=S 4 4 rfl;obtain⟨a5,h5,_⟩:=I 5 5 rfl;obtain⟨a6,h6,_⟩:=I 6 6 rfl;obtain⟨a7,h7,s7⟩:=S 7 7 rfl;obtain⟨a8,h8,s8⟩:=S 8 8 rfl;obtain⟨a9,tp,tn,tc,h9,t1,t2,t3,_,t5⟩:=oL dY h 9 32 9 1 rfl (by kernel_rfl) (yd (sz:=1) Tryz.underlying32 (by kernel_rfl) (by decide) (D0 gP));obtain⟨a10,bp,bn,bc,h10,b1,b2,b3,_,b5⟩:=oL dY h 10 33 10 1 rfl (by kernel_rfl) (yd (sz:=9) Tryz.underlying33 (by kernel_rfl) (by decide) RB);obtain⟨a11,ap,ac,h11,l1,l2,l3⟩:=oL dY h 11 36 11 4 rfl (by kernel_rfl) MQ;obtain⟨a12,h12,_⟩:=I 12 15 rfl;obtain⟨a13,h13,_⟩:=I 13 16 rfl;obtain⟨a14,h14,_⟩:=I 14 17 rfl;obtain⟨a15,h15,s15⟩:=S 15 18 rfl;obtain⟨a16,h16,s16⟩:=S 16 19 rfl;obtain⟨a17,h17,_⟩:=I 17 20 rfl;obtain⟨a18,h18,_⟩:=I 18 21 rfl;obtain⟨a19,h19,_⟩:=I 19 22 rfl;obtain⟨y0,y1,y2,y3,y4,y5,y6,y7,y8,y9,y10,y11,y12,y13,y14,y15,y16,y17,y18,y19,y20,y21,y22,rfl⟩:=Cq hl;simp only[aU,fq,eh,dN,bM,and_true]at h0 h1 h2 h3 h4 h5 h6 h7 h8 h9 h10 h11 h12 h13 h14 h15 h16 h17 h18 h19;obtain⟨rfl,rfl,rfl,rfl⟩:=h11;subst h0 h1 h2 h3 h4 h5 h6 h7 h8 h9 h10 h12 h13 h14 h15 h16 h17 h18 h19 t1 b1;have m:maxLen≤9223372036854775807:=by decide
 exact⟨⟨a0,a1,a2,a3,a4,a5,a6,a7,a8,a9,a10,a11,a12,a13,a14,a15,a16,a17,a18,a19⟩,tp,tc,bp,bc,ap,ac,rfl,Vi t5,b5,l1,t2,b2,l3,
  ⟨bC s4 m,bC s7 m,bC s8 m,bC s15 m,bC s16 m⟩,⟨bC t2 (bC t3 m),PY t5⟩,bC b2 (bC b3 m),l2⟩
theorem OH {H:Type}{enc:aC×aa→H}{w:aj}:qG enc bm w 34 (KO (kY w) 1 (EL .i64)):=yd (sz:=1) jW (by kernel_rfl) (by decide) (qQ (kd:=.i64) cq)
def Pd (w:aj)(cs:List aa)(x:sW):Prop:=za (kY w) cs x
set_option maxHeartbeats 1000000 in
theorem VX {H:Type}{enc:aC×aa→H}{w:aj}:qG enc bm w 57 (Pd w):=by
 intro fuel cs x h;have hl:=BS eG h (n:=26) (by kernel_rfl);obtain⟨a0,h0,w0⟩:=oL eG h 0 3 0 1 rfl (by kernel_rfl) (qQ (kd:=.i64) cq);obtain⟨f,h1⟩:=oL eG h 1 38 1 23 rfl (by kernel_rfl) V2;obtain⟨a2,h2,w2⟩:=oL eG h 2 3 24 1 rfl (by kernel_rfl) (qQ (kd:=.i64) cq);obtain⟨ks,kp,kn,kc,h3,e1,e2,e3,_,e5⟩:=oL eG h 3 34 25 1 rfl (by kernel_rfl) OH;obtain⟨tp,tc,bp,bc,ap,ac,e6,e7⟩:=h1;subst e1;refine⟨⟨a0,f,a2,ks⟩,BN w0,tp,tc,bp,bc,ap,ac,kp,kc,?_,e7,Ke e5,bC e2 (bC e3 (by decide)),BN w2⟩;have k0:cs=cs.take 1++((cs.drop 1).take 23++((cs.drop 24).take 1++(cs.drop 25).take 1)):=by
  match cs,hl with
  |[_,_,_,_,_,_,_,_,_,_,_,_,_,_,_,_,_,_,_,_,_,_,_,_,_,_],_=>rfl
 rw[aU]at h0;rw[k0,h0,e6,h2,h3];rfl
set_option maxRecDepth 100000 in
theorem W7 {H:Type}{enc:aC×aa→H}{w:aj}{r:Reach}{b0:Nat}{v:aa}{d:DataW H}{ps:List MemPlace}(hval:Value.okWide bm w r b0 55 v)(hd:DataW.Trod enc bm w 0 (fun _=>true) true 55 v d ps):
  ∃(l:List sW) (p:Option Addr) (c:Nat),v=.slice p l.length c∧pb (kY w) 26 (za (kY w)) p l:=by
 obtain⟨l,p,c,rfl,_,_,_,h⟩:=UK (sz:=26) Tryz.underlying55 (by kernel_rfl) (by decide) VX hval hd;exact⟨l,p,c,rfl,h⟩
end Go.Proofs.YtfobdgoklnhebaaGreatDoor
