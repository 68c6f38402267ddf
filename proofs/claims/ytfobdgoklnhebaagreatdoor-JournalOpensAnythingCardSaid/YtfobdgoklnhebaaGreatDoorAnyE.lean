/- A part. -/
import Derived.Test.YtfobdgoklnhebaaGreatDoorAnyD
set_option linter.unusedVariables false
set_option linter.unusedSimpArgs false
set_option maxRecDepth 100000
open Go renaming Calls→aE,Value→aa,World→aj,Ending→bJ,FrameMode→cZ,Src→eB
open Go.IntKind renaming i64→ab
open Go.Proofs.Tryz renaming func42→bZ,f34→dR,func81→er,func61→eu,func34→fA,f81→fF,func123→gK,func62→gW,func71→gX,func85→gd,func77→gg,func41→jt
open Int renaming toNat→ad,toNat_natCast→ai,toNat_of_nonneg→dM
open List renaming replicate→aA,drop_eq_getElem_cons→aG,take_of_length_le→aK,append_nil→aL,length_eq_zero_iff→aQ,drop_zero→aU,length_drop→aZ,length_append→ae,mem_cons_of_mem→ag,mem_append_right→ak,length_take→ao,getElem?_eq_getElem→ar,mem_cons_self→au,perm_append_comm→aw,drop_of_length_le→ax,mem_append_left→ay,getElem_mem→bH,getElem?_map→bP,getElem?_take_of_lt→bh,mem_singleton→cK,getElem?_eq_none→cQ,drop_drop→cV,getElem?_drop→cd,mem_append→cn,getElem?_append_left→dG,length_replicate→dL,length_map→du,ext_getElem?→eX,drop_append_of_le_length→fa,take_append_of_le_length→fb,eq_nil_of_length_eq_zero→gS,length_set→hP,map→jA,getElem?_set_ne→jo
open List.Perm renaming refl→ah,swap→dg
open Nat renaming le_refl→aD,zero_add→az,le_trans→bC,eq_zero_or_pos→bX,zero_le→bx,min_self→jk
open Prod renaming ext→eU
open Prod.mk renaming injEq→af
namespace Go.Eng
open Go Go.RowKit Go.Proofs Wire
variable {P:Program}{R:Ending→World→Prop}{S:List Nat}{w0 W:World}{lk:Lk}{tp bp ap:OA}{tc bc ac:Nat}{K K':Value→aX→Prop}{args:Array Value}{g:FuncId}
def mJ (M:aX)(lk:Lk):Lk:=fun b c=>l7 M b c∨lk b c
def E2 (B FB:Nat)(tx:BA)(f:dF)(tp:OA)(tc:Nat)(bp:OA)(bc:Nat)(ap:OA)(ac:Nat)(x:k9)(a:Nat)(v:aa)(L':aX):Prop:=
 (mB (bb tx) x.ty (a,0)).2.2=0∧v=.tuple #[]∧∃tp' tc' bp' bc' ap' ac' M,L'=rK B tx (mB (bb tx) x.ty (a,0)).2.1::fH FB ((f.set x (mB (bb tx) x.ty (a,0)).1).cells tp' tc' bp' bc' ap' ac')::M∧
  ∀lk,lv lk f tp tc bp bc ap ac→lv (mJ M lk) (f.set x (mB (bb tx) x.ty (a,0)).1) tp' tc' bp' bc' ap' ac'
theorem Ku {s:List UInt8}{st:RS}{f:dF}{x:k9}(h:x.ty=.int):(mB s x.ty st).2=(kP s st).2∧
  (∀tp tc bp bc ap ac,(f.cells tp tc bp bc ap ac).set x.off (.int .i64 (kP s st).1)=(f.set x (mB s x.ty st).1).cells tp tc bp bc ap ac)∧x.off<23∧
  ∀lk tp tc bp bc ap ac,lv lk f tp tc bp bc ap ac→lv lk (f.set x (mB s x.ty st).1) tp tc bp bc ap ac:=by
 cases x<;>first|exact absurd h (by decide)|exact⟨rfl,fun _ _ _ _ _ _=>rfl,by decide,fun _ _ _ _ _ _ _ h=>⟨h.tops,h.blks,h.ints,h.ct,h.cb,h.ca,h.fits⟩⟩
theorem NJ {s:List UInt8}{st:RS}{f:dF}{x:k9}(M:(lh s st).1.size≤9223372036854775807)(h:x.ty=.str):(mB s x.ty st).2=(lh s st).2∧
  (∀tp tc bp bc ap ac,(f.cells tp tc bp bc ap ac).set x.off (.string (lh s st).1)=(f.set x (mB s x.ty st).1).cells tp tc bp bc ap ac)∧x.off<23∧
  ∀lk tp tc bp bc ap ac,lv lk f tp tc bp bc ap ac→lv lk (f.set x (mB s x.ty st).1) tp tc bp bc ap ac:=by
 cases x
 case lang=>exact⟨rfl,fun _ _ _ _ _ _=>rfl,by decide,fun _ _ _ _ _ _ _ h=>⟨h.tops,h.blks,h.ints,h.ct,h.cb,h.ca,⟨M,h.fits.1.2⟩,h.fits.2⟩⟩
 case title=>exact⟨rfl,fun _ _ _ _ _ _=>rfl,by decide,fun _ _ _ _ _ _ _ h=>⟨h.tops,h.blks,h.ints,h.ct,h.cb,h.ca,⟨h.fits.1.1,M,h.fits.1.2.2⟩,h.fits.2⟩⟩
 case author=>exact⟨rfl,fun _ _ _ _ _ _=>rfl,by decide,fun _ _ _ _ _ _ _ h=>⟨h.tops,h.blks,h.ints,h.ct,h.cb,h.ca,⟨h.fits.1.1,h.fits.1.2.1,M,h.fits.1.2.2.2⟩,h.fits.2⟩⟩
 case text=>exact⟨rfl,fun _ _ _ _ _ _=>rfl,by decide,fun _ _ _ _ _ _ _ h=>⟨h.tops,h.blks,h.ints,h.ct,h.cb,h.ca,⟨h.fits.1.1,h.fits.1.2.1,h.fits.1.2.2.1,M,h.fits.1.2.2.2.2⟩,h.fits.2⟩⟩
 case name=>exact⟨rfl,fun _ _ _ _ _ _=>rfl,by decide,fun _ _ _ _ _ _ _ h=>⟨h.tops,h.blks,h.ints,h.ct,h.cb,h.ca,⟨h.fits.1.1,h.fits.1.2.1,h.fits.1.2.2.1,h.fits.1.2.2.2.1,M⟩,h.fits.2⟩⟩
 all_goals exact absurd h (by decide)
theorem EU {s:List UInt8}:∀(n:Nat) (st:RS),st.1≤s.length→∀t∈(lz (lh s) n st).1,t.size≤65536
 |0,st,_,t,ht=>by simp[lz]at ht
 | n+1,st,h,t,ht=>by
  unfold lz at ht;split at ht
  ·rcases List.mem_cons.1 ht with rfl|ht
   ·exact(o3 h).2
   ·exact EU n _ (o3 h).1 t ht
  ·simp at ht
theorem xF {f:dF}:(f.cells tp tc bp bc ap ac).length=23:=rfl
theorem p6 {M:aX}:∀b c,lk b c→mJ M lk b c:=fun _ _ h=>.inr h
theorem yL {M:aX}:∀b c,l7 M b c→mJ M lk b c:=fun _ _ h=>.inl h
theorem Ym {Bn:Nat}{l:List BA}(h:lk Bn (l.map .string)):nh lk (SO Bn) l:=
 fun _=>⟨Bn,0,_,rfl,h,fun i hi=>by rw[az,bP,ar hi];rfl⟩
theorem ints_at {Bn:Nat}{l:List Int}(h:lk Bn (l.map (.int .i64))):lX lk (SO Bn) l:=
 fun _=>⟨Bn,0,_,rfl,h,fun i hi=>by rw[az,bP,ar hi];rfl⟩
theorem Q0 {X:aX}{B FB:Nat}{x:k9}{v:aa}(h:tR X B FB x v){M:BA}(a7:M.size<4611686018427387904):∃g b4,v=.func (.func g) ⟨[]⟩ ⟨b4⟩∧uQ TP g∧
  ∀{a:Nat} {f:dF} {tp bp ap:OA} {tc bc ac:Nat},a≤(bb M).length→ri TP g ⟨b4⟩ [rK B M a,fH FB (f.cells tp tc bp bc ap ac)] (fun W=>zz [B,FB] X W) (E2 B FB M f tp tc bp bc ap ac x a) (uI B FB M (mB (bb M) x.ty (a,0)).2.2):=by
 obtain⟨kc,kn,a6,⟨b3,rfl,a4⟩|⟨b3,rfl,a4⟩|⟨rfl,rfl,a4⟩|⟨rfl,rfl,a4⟩|⟨rfl,rfl,a4⟩⟩:=h
 ·refine⟨_,_,rfl,⟨_,Tryz.func130,by kernel_rfl,by kernel_rfl⟩,?_⟩
  intro a f tp bp ap tc bc ac a3 W hm O;obtain⟨e1,a8,a9,b1⟩:=Ku (s:=bb M) (st:=(a,0)) (f:=f) b3;have V:=O _ _ _ _ a6;have a1:=O _ _ _ _ a4;refine Rh kc kn B FB x.off M a _ [] hm ⟨_,V.1,V.2,rfl,_,a1.1,a1.2,rfl,?_⟩;refine mq.st [] (tE a7 a3 (by rw[xF];exact a9)) (fun _ _=>trivial) oo oo oo (fun a2=>⟨_,_,rfl,rfl,sf ?_⟩) (fun a2=>ob ?_)
  ·rw[E2,e1,a8]
   exact⟨a2,rfl,tp,tc,bp,bc,ap,ac,[],rfl,fun lk h=>(b1 _ _ _ _ _ _ _ h).mono p6⟩
  ·rw[e1,a2]
   exact⟨by decide,rfl,_,_,_,rfl,rfl⟩
 ·refine⟨_,_,rfl,⟨_,Tryz.func132,by kernel_rfl,by kernel_rfl⟩,?_⟩
  intro a f tp bp ap tc bc ac a3 W hm O;have b6:=(o3 (s:=bb M) (st:=(a,0)) a3).2;obtain⟨e1,a8,a9,b1⟩:=NJ (s:=bb M) (st:=(a,0)) (f:=f) (by omega) b3;have V:=O _ _ _ _ a6;have a1:=O _ _ _ _ a4;refine ZG kc kn B FB x.off M a _ [] hm ⟨_,V.1,V.2,rfl,_,a1.1,a1.2,rfl,?_⟩;refine mq.st [] (ET a7 a3 (by rw[xF];exact a9)) (fun _ _=>trivial) oo oo oo (fun a2=>⟨_,_,rfl,rfl,sf ?_⟩) (fun a2=>ob ?_)
  ·rw[E2,e1,a8]
   exact⟨a2,rfl,tp,tc,bp,bc,ap,ac,[],rfl,fun lk h=>(b1 _ _ _ _ _ _ _ h).mono p6⟩
  ·rw[e1,a2]
   exact⟨by decide,rfl,_,_,_,rfl,rfl⟩
 ·refine⟨_,_,rfl,⟨_,Tryz.func134,by kernel_rfl,by kernel_rfl⟩,?_⟩
  intro a f tp bp ap tc bc ac a3 W hm O;have V:=O _ _ _ _ a6;have a1:=O _ _ _ _ a4;refine U5 kc kn B FB M a _ [] hm ⟨_,V.1,V.2,rfl,_,a1.1,a1.2,rfl,?_⟩;refine mq.zR (L0:=[rK B M a,fH FB _]) (L1:=[]) (Zs a7 a3) (fun _ _=>trivial) ?_ (fun b5 L' a5=>ob (by rw[aL];exact a5));rintro _ _ ⟨a2,rfl,Bn,rfl⟩;refine⟨_,_,[_],rfl,rfl,sf ?_⟩;refine⟨a2,rfl,some ⟨Bn,0,none⟩,_,bp,bc,ap,ac,_,rfl,fun lk h=>?_⟩;have c2:=(Eb (f:=lh (bb M)) (s:=bb M) (m:=4) (fun st h=>(o3 h).1) (st:=(a,0)) a3).2;have b6:=EU (s:=bb M) (mh (bb M) 4 (a,0)).1.toNat _ (w8 (m:=4) (st:=(a,0)) a3);refine⟨Ym (.inl ⟨_,_,cK.2 rfl⟩),h.blks.mono p6,h.ints.mono p6,aD _,h.cb,h.ca,h.fits.1,⟨bC c2 (by decide),fun t c3=>bC (b6 t c3) (by decide)⟩,h.fits.2.2⟩
 ·refine⟨_,_,rfl,⟨_,Tryz.func136,by kernel_rfl,by kernel_rfl⟩,?_⟩
  intro a f tp bp ap tc bc ac a3 W hm O;have V:=O _ _ _ _ a6;have a1:=O _ _ _ _ a4;refine UN kc kn B FB M a _ [] hm ⟨_,V.1,V.2,rfl,_,a1.1,a1.2,rfl,?_⟩;refine mq.zR (L0:=[rK B M a,fH FB _]) (L1:=[]) (S0 a7 a3) (fun _ _=>trivial) ?_ (fun b5 L' a5=>ob (by rw[aL];exact a5));rintro _ _ ⟨a2,rfl,p,c,N,rfl,a5,hc,b7⟩;rw[aL];refine⟨_,_,N,rfl,rfl,sf ?_⟩;exact⟨a2,rfl,tp,tc,p,c,ap,ac,N,rfl,fun lk h=>⟨h.tops.mono p6,a5.mono yL,h.ints.mono p6,h.ct,hc,h.ca,h.fits.1,h.fits.2.1,bC b7 (by decide),h.fits.2.2.2⟩⟩
 ·refine⟨_,_,rfl,⟨_,Tryz.func138,by kernel_rfl,by kernel_rfl⟩,?_⟩
  intro a f tp bp ap tc bc ac a3 W hm O;have V:=O _ _ _ _ a6;have a1:=O _ _ _ _ a4;refine OE kc kn B FB M a _ [] hm ⟨_,V.1,V.2,rfl,_,a1.1,a1.2,rfl,?_⟩;refine mq.zR (L0:=[rK B M a,fH FB _]) (L1:=[]) (Y3 a7 a3) (fun _ _=>trivial) ?_ (fun b5 L' a5=>ob (by rw[aL];exact a5));rintro _ _ ⟨a2,rfl,Bn,rfl,b9⟩;refine⟨_,_,[_],rfl,rfl,sf ?_⟩;exact⟨a2,rfl,tp,tc,bp,bc,some ⟨Bn,0,none⟩,_,_,rfl,fun lk h=>⟨h.tops.mono p6,h.blks.mono p6,ints_at (.inl ⟨_,_,cK.2 rfl⟩),h.ct,h.cb,aD _,h.fits.1,h.fits.2.1,h.fits.2.2.1,bC b9 (by decide)⟩⟩
def HW (B FB:Nat)(tx:BA)(r:dF×RS)(v:aa)(L':aX):Prop:=
 r.2.2=0∧v=.tuple #[]∧∃tp tc bp bc ap ac N,L'=rK B tx r.2.1::fH FB (r.1.cells tp tc bp bc ap ac)::N∧lv (l7 N) r.1 tp tc bp bc ap ac
theorem Wl {M N:aX}:∀b c,mJ M (l7 N) b c→l7 (M++N) b c:=by
 rintro b c (⟨t,fz,h⟩|⟨t,fz,h⟩)
 ·exact⟨t,fz,ay _ h⟩
 ·exact⟨t,fz,ak _ h⟩
theorem Jl {B FB Bs:Nat}{M:BA}(a3:M.size<4611686018427387904){k:Int}{X:aX}{vs:List aa}(a2:(Bs,.cells ⟨vs⟩ 1)∈X)(hc:r6 X B FB (k6 k) vs){r:dF×RS}:
  ∀(g i:Nat) (f:dF) (a:Nat) (tp:OA) (tc:Nat) (bp:OA) (bc:Nat) (ap:OA) (ac:Nat) (N:aX),g+i=(k6 k).length→r=((k6 k).drop i).foldl (ni (bb M)) (f,(a,0))→a≤(bb M).length→lv (l7 N) f tp tc bp bc ap ac→
   xv M B FB (SO Bs) (k6 k).length (k6 k).length ((k6 k).length:Int) (i:Int) (a:Int) (f.cells tp tc bp bc ap ac) (N++X) S w0 (PK (HW B FB M r) (uI B FB M r.2.2) S w0)
 |0,i,f,a,tp,tc,bp,bc,ap,ac,N,hi,hr,ha,hF=>by
  apply L8;rw[ax (by omega)]at hr;subst hr;exact no (by omega) (sf ⟨rfl,rfl,tp,tc,bp,bc,ap,ac,N++X,rfl,hF.mono (mR fun x c4=>ay _ c4)⟩)
 | g+1,i,f,a,tp,tc,bp,bc,ap,ac,N,hi,hr,ha,hF=>by
  apply L8;have a1:i<(k6 k).length:=by omega
  have c8:=xk k;obtain⟨u,c2,c3⟩:=hc.get i a1;obtain⟨gf,b1,e1,b3,b4⟩:=Q0 c3 a3;rw[aG a1,List.foldl_cons]at hr;refine yes (by omega) ⟨Bs,0,rfl,by omega,vs,u,⟨_,_,ag _ (ag _ (ak _ a2))⟩,by simpa using c2,gf,b1,e1,b3,?_⟩;refine mq.zR (L0:=[rK B M a,fH FB (f.cells tp tc bp bc ap ac)]) (L1:=N++X) (b4 ha) (fun c7 b9=>fun b c t fz b7=>Fe b9 b c t fz (ak _ b7)) ?_ ?_
  ·rintro _ _ ⟨O,rfl,c6,c5,a9,a8,a7,a6,V,rfl,b6⟩
   refine⟨_,_,(V++N)++X,rfl,by rw[List.append_assoc];rfl,?_⟩;rw[kS (by omega),show(i:Int)+1=((i+1:Nat):Int)by omega];refine Jl a3 a2 hc g (i+1) _ _ c6 c5 a9 a8 a7 a6 (V++N) (by omega) ?_ (Md (st:=(a,0)) ha) ((b6 _ hF).mono Wl);rw[hr];congr 1;rw[ni];exact eU rfl (eU rfl O)
  ·rintro _ _ ⟨O,rfl,a5,cs,a4,rfl,b5⟩
   refine ob ?_;have e:r.2=(mB (bb M) (k6 k)[i].ty (a,0)).2:=by rw[hr,Cy _ _ O];rfl
   rw[e];exact⟨O,rfl,a5,cs,a4++(N++X),rfl,b5⟩
theorem C3 {s:List UInt8}(h:¬(lS s).2.2=0):(mN s).2=(lS s).2:=by
 have e:rdKind s=(lS s).2:=by rw[rdKind,if_neg (fun M=>h M.1)]
 rw[mN,Cy _ _ (by simp only;rw[e];exact h)];exact e
theorem PO {B FB:Nat}{M:BA}(a4:M.size<4611686018427387904):
  ri TP 59 ⟨[pt B 0,pt FB 0]⟩ [rK B M 0,fH FB (dF.zero.cells none 0 none 0 none 0)] (fun _=>True) (HW B FB M (mN (bb M))) (uI B FB M (mN (bb M)).2.2):=by
 intro W hm _;have a6:=BG (bb M);refine Uv B FB M 0 _ [] hm ?_;refine mq.st [] (tE a4 (bx _) (by rw[xF];decide)) (fun _ _=>trivial) oo oo oo (fun a3=>⟨_,_,rfl,rfl,?_⟩) (fun a3=>ob ?_)
 ·have a3:(m5 (bb M)).2.2=0:=a3
  have a7:(m5 (bb M)).2=((m5 (bb M)).2.1,0):=eU rfl a3;show mq _ _ _ [rK B M (m5 (bb M)).2.1,fH FB ((dF.bare (m5 (bb M)).1 0 0).cells none 0 none 0 none 0)] _ _ _ _;refine mq.st [] (tE a4 a6.1 (by rw[xF];decide)) (fun _ _=>trivial) oo oo oo (fun a1=>⟨_,_,rfl,rfl,?_⟩) (fun a1=>ob ?_)
  ·rw [←a7]at a1 ⊢
   have a1:(mW (bb M)).2.2=0:=a1;have a8:(mW (bb M)).2=((mW (bb M)).2.1,0):=eU rfl a1;show mq _ _ _ [rK B M (mW (bb M)).2.1,fH FB ((dF.bare (m5 (bb M)).1 (mW (bb M)).1 0).cells none 0 none 0 none 0)] _ _ _ _;refine mq.st [] (tE a4 a6.2.1 (by rw[xF];decide)) (fun _ _=>trivial) oo oo oo (fun O=>⟨_,_,rfl,rfl,?_⟩) (fun O=>ob ?_)
   ·rw [←a8]at O ⊢
    have O:(lS (bb M)).2.2=0:=O;have b5:(lS (bb M)).2=((lS (bb M)).2.1,0):=eU rfl O;show eA _ _ _ [rK B M (lS (bb M)).2.1,fH FB ((dF.bare (m5 (bb M)).1 (mW (bb M)).1 (lS (bb M)).1).cells none 0 none 0 none 0)] _ _ _;refine eA.nX (L0:=[]) (L1:=[rK B M (lS (bb M)).2.1,fH FB ((dF.bare (m5 (bb M)).1 (mW (bb M)).1 (lS (bb M)).1).cells none 0 none 0 none 0)]) (Kz (k:=(lS (bb M)).1)) (fun b6 b3=>⟨(dF.bare (m5 (bb M)).1 (mW (bb M)).1 (lS (bb M)).1).cells none 0 none 0 none 0,?_,rfl⟩) (by simp) fun u X a9=>?_
    ·have:=b3.here (fH FB ((dF.bare (m5 (bb M)).1 (mW (bb M)).1 (lS (bb M)).1).cells none 0 none 0 none 0)) (by simp)
     simp only at this;simp[lG,this]
    ·rcases a9 with⟨V,rfl⟩|⟨Bs,vs,rfl,hrow,hc⟩
     ·refine⟨rK B M (lS (bb M)).2.1::fH FB _::X,aw,_,_,_,X,rfl,rfl,fun _=>ob ?_,fun h=>absurd rfl h⟩
      have e:mN (bb M)=(dF.bare (m5 (bb M)).1 (mW (bb M)).1 (lS (bb M)).1,((lS (bb M)).2.1,50)):=by
       rw[mN,V,rdKind,if_pos ⟨O,V⟩];rfl
      rw[e];exact⟨show(50:Int)≠0 by decide,rfl,_,_,X,rfl,rfl⟩
     ·refine⟨rK B M (lS (bb M)).2.1::fH FB _::X,aw,_,_,_,X,rfl,rfl,fun h=>?_,fun h=>?_⟩
      ·have b7:=hc.len
       have V:k6 (lS (bb M)).1=[]:=aQ.1 (by omega);have e:mN (bb M)=(dF.bare (m5 (bb M)).1 (mW (bb M)).1 (lS (bb M)).1,((lS (bb M)).2.1,50)):=by
        rw[mN,V,rdKind,if_pos ⟨O,V⟩];rfl
       rw[e];exact ob ⟨show(50:Int)≠0 by decide,rfl,_,_,X,rfl,rfl⟩
      ·have b4:k6 (lS (bb M)).1≠[]:=fun V=>h (by rw[V];rfl)
       refine Jl a4 hrow hc (k6 (lS (bb M)).1).length 0 (dF.bare (m5 (bb M)).1 (mW (bb M)).1 (lS (bb M)).1) (lS (bb M)).2.1 none 0 none 0 none 0 [] (by omega) ?_ a6.2.2 ?_
       ·rw[aU,mN,rdKind,if_neg (fun b1=>b4 b1.2),b5]
       ·exact qi rfl rfl rfl ⟨ny,ny,ny,ny,ny⟩
   ·rw[←a8]at O
    have e:(lS (bb M)).2.2=10:=O;rw[C3 (by rw[e];decide),e];exact⟨by decide,rfl,_,_,[],rfl,rfl⟩
  ·rw[←a7]at a1
   have e:(mW (bb M)).2.2=10:=a1;have a2:(lS (bb M)).2=(mW (bb M)).2:=rX (by rw[e];decide);rw[C3 (by rw[a2,e];decide),a2,e];exact⟨by decide,rfl,_,_,[],rfl,rfl⟩
 ·have e:(m5 (bb M)).2.2=10:=a3
  have a5:(mW (bb M)).2=(m5 (bb M)).2:=rX (by rw[e];decide);have a2:(lS (bb M)).2=(mW (bb M)).2:=rX (by rw[a5,e];decide);rw[C3 (by rw[a2,a5,e];decide),a2,a5,e];exact⟨by decide,rfl,_,_,[],rfl,rfl⟩
abbrev zF18aa:Array aa:= #[IV 0,IV 0,IV 0,IV 0,sZ,IV 0,IV 0,sZ,sZ,.slice none 0 0,.slice none 0 0,IV 0,.slice none 0 0,IV 0,IV 0,IV 0,IV 0,IV 0,sZ,sZ,IV 0,IV 0,IV 0]
abbrev uz (B:Nat)(e:dF)(k:OA)(j:Nat)(i:OA)(h:Nat)(g:OA)(f a b:Nat)(l:BA)(d:Int)(c:aX):aX:=((B,.cells ⟨e.cells k j i h g f⟩ 38)::(a,.cells #[IV 0] 25)::(b,.cells #[.bool true,.string l,IV d,.pointer none,.slice none 0 0] 105)::c)
abbrev DE (B a b:Nat)(e:BA)(d:Int)(c:aX):aX:=((B,.cells zF18aa 38)::(a,.cells #[IV 10] 25)::(b,.cells #[.bool true,.string e,IV d,.pointer none,.slice none 0 0] 105)::c)
abbrev Ew (B a b:Nat)(e:BA)(d:Int)(c:aX):aX:=((B,.cells zF18aa 38)::(a,.cells #[IV 50] 25)::(b,.cells #[.bool true,.string e,IV d,.pointer none,.slice none 0 0] 105)::c)
abbrev GM (B a:Nat)(pe:Int)(b:aX):aX:=((B,.cells zF18aa 38)::(a,.cells #[IV pe] 25)::b)
abbrev sM:Array aa:=zF18aa
abbrev wL (a:dF)(g:OA)(f:Nat)(e:OA)(d:Nat)(c:OA)(b:Nat):Array aa:=⟨a.cells g f e d c b⟩
theorem OB (e:BA)(hm:Mem [] [] w0 W)
 (H:
 ∀B c d:Nat,
 mq TP 59 ⟨[PP d,PP B]⟩ [(B,.cells sM 38),(c,.cells #[IV 0] 25),(d,.cells #[.bool true,.string e,IV 0,.pointer none,.slice none 0 0] 105)] [] w0 (fun v L'=>∃(f:Int) (h:dF) (n:OA) (m:Nat) (l:OA) (k:Nat) (j:OA) (i:Nat),∃g,v=.tuple #[]∧L'=(uz B h n m l k j i c d e f g)∧
 Br (f<(e.size:Int))
 (oy TP 123 ⟨[PP B,PP c]⟩ (DE B c d e f g) [] w0 .returning (fun o L'=>o=.returning∧L'=(DE B c d e f g)∧
 Fin R (DE B c d e f g) [] w0 (.tuple #[.agg sM,IV 10])))
 (eA TP 24 ⟨[.agg (wL h n m l k j i)]⟩ (uz B h n m l k j i c d e f g) [] w0 (fun v L'=>∃q,v=.bool q∧L'=(uz B h n m l k j i c d e f g)∧
 Bb (q)
 (oy TP 123 ⟨[PP B,PP c]⟩ (uz B h n m l k j i c d e f g) [] w0 .returning (fun o L'=>o=.returning∧L'=(uz B h n m l k j i c d e f g)∧
 Fin R (uz B h n m l k j i c d e f g) [] w0 (.tuple #[.agg (wL h n m l k j i),IV 0])))
 (oy TP 123 ⟨[PP B,PP c]⟩ (Ew B c d e f g) [] w0 .returning (fun o L'=>o=.returning∧L'=(Ew B c d e f g)∧
 Fin R (Ew B c d e f g) [] w0 (.tuple #[.agg sM,IV 50])))))) (fun a3 L'=>∃(s:aa) (t:aa) (M:aa) (V:aa) (X:aa) (Y:aa) (Z:aa) (a0:aa) (a1:aa) (a2:aa) (w:aa) (x:aa) (y:aa) (z:aa) (A:aa) (C:aa) (D:aa) (E:aa) (F:aa) (G:aa) (N:aa) (O:aa) (Q:aa) (pe:Int) (p:aX),a3=[{v:=.iface 25 (IV pe),recovered:=false}]∧L'=((B,.cells #[s,t,M,V,X,Y,Z,a0,a1,a2,w,x,y,z,A,C,D,E,F,G,N,O,Q] 38)::(c,.cells #[IV 0] 25)::p)∧
 oy TP 123 ⟨[PP B,PP c]⟩ ((B,.cells #[s,t,M,V,X,Y,Z,a0,a1,a2,w,x,y,z,A,C,D,E,F,G,N,O,Q] 38)::(c,.cells #[IV 0] 25)::p) [] w0 (.panicking [{v:=.iface 25 (IV pe),recovered:=false}]) (fun o L'=>o=(.panicking [{v:=.iface 25 (IV pe),recovered:=true}])∧L'=(GM B c pe p)∧
 Fin R (GM B c pe p) [] w0 (.tuple #[.agg sM,IV pe])))):
 aE TP 85 ⟨[.string e]⟩ W R:=by
 refine kO.cs 24 gd hm (.ru 2 (.nH (.cells sM 38) H fun B H=>(.nH (.cells #[IV 0] 25) H fun c H=>(.ru 4 (.defer (d:=⟨.fn (.func 123) #[PP B,PP c],#[]⟩) (by kernel_rfl) (fun W=>by kernel_rfl) (.ru 5 (.nH (.cells #[.bool true,.string e,IV 0,.pointer none,.slice none 0 0] 105) H fun d H=>(.ru 5 (.vr 59 ⟨[PP d,PP B]⟩ (fun W=>by kernel_rfl) (by kernel_rfl) H ?_ ?_)))))))))
 rotate_left
 ·clear H
  rintro _ _ ⟨s,t,M,V,X,Y,Z,a0,a1,a2,w,x,y,z,A,C,D,E,F,G,N,O,Q,pe,p,rfl,rfl,H⟩;refine nK.yM gd rfl (fun W=>by kernel_rfl) (oy.mono H ?_);rintro _ _ ⟨rfl,rfl,H⟩;exact⟨rfl,_,n6.qW (a:=2) (b:=3) (T:=38) (U:=25) (u:=.agg sM) (v:=IV pe) 0 0 1 0 (by kernel_rfl) (by kernel_rfl),H⟩
 rintro _ _ ⟨f,h,n,m,l,k,j,i,g,rfl,rfl,H⟩;refine .ru 7 (.load 2 2 (T:=3) (v:=IV f) (by kernel_rfl) (.ru 4 (.sP 17 H (fun H=>?_) fun H=>?_)))
 ·refine .nm (KC Tryz.f85 125) [(2,PP B),(3,PP c),(17,.bool true)] (uz B h n m l k j i c d e f g) (.ru 4 (.store 0 0 (T:=38) (v:=.agg sM) (by kernel_rfl) (.store 1 0 (T:=25) (v:=IV 10) (by kernel_rfl) (.ru 1 (.FJ gd rfl (fun W=>by kernel_rfl) (by kernel_rfl) (oy.mono H ?_))))))
  rintro _ _ ⟨rfl,rfl,H⟩;exact⟨rfl,_,n6.qW (a:=2) (b:=3) (T:=38) (U:=25) (u:=.agg sM) (v:=IV 10) 0 0 1 0 (by kernel_rfl) (by kernel_rfl),H⟩
 ·refine .nm (KC Tryz.f85 125) [(2,PP B),(3,PP c),(17,.bool false)] (uz B h n m l k j i c d e f g) (.ru 5 (.load 0 0 (T:=38) (v:=.agg (wL h n m l k j i)) (by kernel_rfl) (.cl H ?_)))
  rintro _ _ ⟨q,rfl,rfl,H⟩;refine .sB 20 H (fun H=>?_) fun H=>?_
  ·refine .ru 6 (.load 0 0 (T:=38) (v:=.agg (wL h n m l k j i)) (by kernel_rfl) (.store 0 0 (T:=38) (v:=.agg (wL h n m l k j i)) (by kernel_rfl) (.store 1 0 (T:=25) (v:=IV 0) (by kernel_rfl) (.ru 1 (.FJ gd rfl (fun W=>by kernel_rfl) (by kernel_rfl) (oy.mono H ?_))))))
   rintro _ _ ⟨rfl,rfl,H⟩;exact⟨rfl,_,n6.qW (a:=2) (b:=3) (T:=38) (U:=25) (u:=.agg (wL h n m l k j i)) (v:=IV 0) 0 0 1 0 (by kernel_rfl) (by kernel_rfl),H⟩
  ·refine .ru 6 (.store 0 0 (T:=38) (v:=.agg sM) (by kernel_rfl) (.store 1 0 (T:=25) (v:=IV 50) (by kernel_rfl) (.ru 1 (.FJ gd rfl (fun W=>by kernel_rfl) (by kernel_rfl) (oy.mono H ?_)))))
   rintro _ _ ⟨rfl,rfl,H⟩;exact⟨rfl,_,n6.qW (a:=2) (b:=3) (T:=38) (U:=25) (u:=.agg sM) (v:=IV 50) 0 0 1 0 (by kernel_rfl) (by kernel_rfl),H⟩
theorem V7 (b a:Nat)(d:aa)(e:aa)(p:aa)(u:aa)(w:aa)(x:aa)(y:aa)(z:aa)(A:aa)(C:aa)(f:aa)(g:aa)(h:aa)(i:aa)(j:aa)(k:aa)(l:aa)(m:aa)(n:aa)(o:aa)(q:aa)(s:aa)(t:aa)(c:Int){R:bJ→cZ→aj→Prop}(hm:Mem [(b,.cells #[d,e,p,u,w,x,y,z,A,C,f,g,h,i,j,k,l,m,n,o,q,s,t] 38),(a,.cells #[IV c] 25)] S w0 W)
 (H:
 CT R .returning [(b,.cells #[d,e,p,u,w,x,y,z,A,C,f,g,h,i,j,k,l,m,n,o,q,s,t] 38),(a,.cells #[IV c] 25)] S w0 (.tuple #[])):
 CallsD TP 123 ⟨[PP b,PP a]⟩ .returning W R:=by
 refine kO.No (nt:=13) gK (by kernel_rfl) hm (.ru 2 (.Zd (by kernel_rfl) (fun W=>by kernel_rfl) (.ru 11 (.HH gK (by kernel_rfl) H))))
abbrev T2:Array aa:= #[IV 0,IV 0,IV 0,IV 0,sZ,IV 0,IV 0,sZ,sZ,.slice none 0 0,.slice none 0 0,IV 0,.slice none 0 0,IV 0,IV 0,IV 0,IV 0,IV 0,sZ,sZ,IV 0,IV 0,IV 0]
theorem Uw (c b:Nat)(e:aa)(f:aa)(q:aa)(w:aa)(x:aa)(y:aa)(z:aa)(A:aa)(C:aa)(D:aa)(g:aa)(h:aa)(i:aa)(j:aa)(k:aa)(l:aa)(m:aa)(n:aa)(o:aa)(p:aa)(s:aa)(t:aa)(u:aa)(d a:Int){R:bJ→cZ→aj→Prop}(hm:Mem [(c,.cells #[e,f,q,w,x,y,z,A,C,D,g,h,i,j,k,l,m,n,o,p,s,t,u] 38),(b,.cells #[IV d] 25)] S w0 W)
 (H:
 CT R (.panicking [{v:=.iface 25 (IV a),recovered:=true}]) [(c,.cells T2 38),(b,.cells #[IV a] 25)] S w0 (.tuple #[])):
 CallsD TP 123 ⟨[PP c,PP b]⟩ (.panicking [{v:=.iface 25 (IV a),recovered:=false}]) W R:=by
 refine kO.No (nt:=13) gK (by kernel_rfl) hm (.ru 2 (.ZN (v:=.iface 25 (IV a)) (by kernel_rfl) (fun W=>by kernel_rfl) (.ru 21 (.st 0 0 (.st 1 0 (.ru 2 (.HH gK (by kernel_rfl) H)))))))
def Ce (P:Program)(g:FuncId)(args:Array aa)(L0:aX)(u:cZ)(K:cZ→aX→Prop):Prop:=
 ∀W,Mem L0 (L0.map (·.1)) W W→CallsD P g args u W fun e u' W'=>∃v L',e=.returned v∧Mem L' (L0.map (·.1)) W W'∧K u' L'
theorem oy.lF {L0 L1 L:aX}{u:cZ}{K K':cZ→aX→Prop}(h:Ce P g args L0 u K)(hp:(L0++L1).Perm L)
  (a7:∀M L',K M L'→∃O,(L'++L1).Perm O∧K' M O):oy P g args L S w0 u K':=by
 intro W hm c cs hc;have V:Mem (L0++L1) S w0 W:=hm.perm hp;have a1:=V.nodup;rw[List.map_append,List.nodup_append]at a1;obtain⟨en,M,a2,fr,⟨v,L',a3,a4,a5⟩,a6⟩:=h W ⟨a1.1,fun p hp=>V.here p (ay _ hp),fun p hp=>.inr (List.mem_map_of_mem hp),Kept.refl _ W⟩ c cs hc;obtain⟨O,a9,a8⟩:=a7 M L' a5;exact⟨en,M,a2,fr,⟨v,O,a3,Mem.perm (L:=L'++L1) (V.Gg a4) a9.symm,a8⟩,a6⟩
theorem nW {α:Type}{l:List α}{n:Nat}(h:l.length=n+1):∃a t,l=a::t∧t.length=n:=by
 cases l with
 |nil=>simp at h
 |cons a t=>exact⟨a,t,rfl,by simpa using h⟩
theorem Cq {l:List aa}(h:l.length=23):∃O V b3 b7 b9 c2 c3 c4 c5 c6 a1 a2 a3 a4 a5 a6 a7 a8 a9 b1 b4 b5 b6,l=[O,V,b3,b7,b9,c2,c3,c4,c5,c6,a1,a2,a3,a4,a5,a6,a7,a8,a9,b1,b4,b5,b6]:=by
 obtain⟨O,h6,e0,f2⟩:=nW h;obtain⟨V,h7,e1,f3⟩:=nW f2;obtain⟨b3,j0,d7,g6⟩:=nW f3;obtain⟨b7,j4,e3,g9⟩:=nW g6;obtain⟨b9,j5,e4,h0⟩:=nW g9;obtain⟨c2,j6,e5,h1⟩:=nW h0;obtain⟨c3,j7,e6,h2⟩:=nW h1;obtain⟨c4,j8,e7,h3⟩:=nW h2;obtain⟨c5,j9,e8,h4⟩:=nW h3;obtain⟨c6,k0,e9,h5⟩:=nW h4;obtain⟨a1,h8,c7,f4⟩:=nW h5;obtain⟨a2,h9,c8,f5⟩:=nW f4;obtain⟨a3,i2,c9,f6⟩:=nW f5;obtain⟨a4,i3,d0,f7⟩:=nW f6;obtain⟨a5,i4,d1,f8⟩:=nW f7;obtain⟨a6,i5,d2,f9⟩:=nW f8;obtain⟨a7,i6,d3,g2⟩:=nW f9;obtain⟨a8,i7,d4,g3⟩:=nW g2;obtain⟨a9,i8,d5,g4⟩:=nW g3;obtain⟨b1,i9,d6,g5⟩:=nW g4;obtain⟨b4,j1,d8,g7⟩:=nW g5;obtain⟨b5,j2,d9,g8⟩:=nW g7;obtain⟨b6,j3,e2,M⟩:=nW g8;rw[aQ]at M;subst M e2 d9 d8 d6 d5 d4 d3 d2 d1 d0 c9 c8 c7 e9 e8 e7 e6 e5 e4 e3 d7 e1 e0;exact⟨_,_,_,_,_,_,_,_,_,_,_,_,_,_,_,_,_,_,_,_,_,_,_,rfl⟩
abbrev eH (B:Nat)(e:Int):Nat×Obj:=(B,.cells #[.int .i64 e] 25)
theorem EY {B C:Nat}{cs:List aa}{e:Int}(h:cs.length=23):Ce TP 123 ⟨[pt B 0,pt C 0]⟩ [fH B cs,eH C e] .returning (fun O L'=>O=.returning∧L'=[fH B cs,eH C e]):=by
 intro W hm;obtain⟨a1,a2,b5,c2,c3,c4,c5,c6,c7,c8,a3,a4,a5,a6,a7,a8,a9,b1,b3,b4,b6,b7,b9,rfl⟩:=Cq h;exact V7 B C _ _ _ _ _ _ _ _ _ _ _ _ _ _ _ _ _ _ _ _ _ _ _ e hm fun V M=>⟨_,_,rfl,M,rfl,rfl⟩
theorem TI {B C:Nat}{cs:List aa}{e x:Int}(h:cs.length=23):Ce TP 123 ⟨[pt B 0,pt C 0]⟩ [fH B cs,eH C e] (.panicking (vS x))
  (fun O L'=>O=.panicking [{v:=.iface 25 (.int .i64 x),recovered:=true}]∧L'=[fH B (dF.zero.cells none 0 none 0 none 0),eH C x]):=by
 intro W hm;obtain⟨a1,a2,b5,c2,c3,c4,c5,c6,c7,c8,a3,a4,a5,a6,a7,a8,a9,b1,b3,b4,b6,b7,b9,rfl⟩:=Cq h;exact Uw B C _ _ _ _ _ _ _ _ _ _ _ _ _ _ _ _ _ _ _ _ _ _ _ e x hm fun V M=>⟨_,_,rfl,M,rfl,rfl⟩
theorem Fb {a b x:Nat×Obj}{N:aX}:((a::b::N)++[x]).Perm (b::x::a::N):=
 (((aw (l₁:=N) (l₂:=[x])).cons b).cons a).trans ((dg b a _).trans ((dg x a N).cons b))
def qn (r:dF×Int)(v:aa)(F:aX):Prop:=∃tp tc bp bc ap ac,v=.tuple #[.agg ⟨r.1.cells tp tc bp bc ap ac⟩,.int .i64 r.2]∧lv (l7 F) r.1 tp tc bp bc ap ac
theorem zeroAt:lv lk dF.zero none 0 none 0 none 0:=qi rfl rfl rfl ⟨ny,ny,ny,ny,ny⟩
theorem qn.zero {e:Int}{F:aX}:qn (dF.zero,e) (.tuple #[.agg ⟨dF.zero.cells none 0 none 0 none 0⟩,.int .i64 e]) F:=⟨none,0,none,0,none,0,rfl,zeroAt⟩
theorem Td {s:BA}(a8:s.size<4611686018427387904):lP TP 85 ⟨[.string s]⟩ [] (qn (l6 (bb s))):=by
 intro W hm;refine OB s hm fun B O B2=>?_
 refine mq.lF (L1:=[eH O 0]) (PO (B:=B2) (FB:=B) a8) (fun _ _=>trivial) Fb ?_ ?_
 ·rintro _ _ ⟨V,rfl,tp,tc,bp,bc,ap,ac,N,rfl,a5⟩
  refine⟨_,Fb,(mN (bb s)).2.1,(mN (bb s)).1,tp,tc,bp,bc,ap,ac,N,rfl,rfl,fun a6=>?_,fun a6=>?_⟩
  ·have e:l6 (bb s)=(dF.zero,10):=by rw[l6,if_neg (by simpa using V),if_pos (by rw[lB];omega)]
   rw[e];exact oy.lF (L1:=rK B2 s (mN (bb s)).2.1::N) (EY (B:=B) (C:=O) (cs:=dF.zero.cells none 0 none 0 none 0) (e:=10) rfl) (ah _) fun u' L' ⟨hu,hL⟩=>⟨_,ah _,hu,by rw[hL];rfl,fun a1 M=>⟨_,_,rfl,M,qn.zero⟩⟩
  ·refine eA.pw (fun a1 M=>FP (a5.mono (qt M fun x a3=>ag _ (ag _ (ag _ a3))))) ⟨_,rfl,rfl,fun a2=>?_,fun a2=>?_⟩
   ·have e:l6 (bb s)=((mN (bb s)).1,0):=by rw[l6,if_neg (by simpa using V),if_neg (by rw[lB];omega),if_pos a2]
    rw[e];exact oy.lF (L1:=rK B2 s (mN (bb s)).2.1::N) (EY (B:=B) (C:=O) (cs:=(mN (bb s)).1.cells tp tc bp bc ap ac) (e:=0) rfl) (ah _) fun u' L' ⟨hu,hL⟩=>⟨_,ah _,hu,by rw[hL];rfl,fun a1 M=>⟨_,_,rfl,M,tp,tc,bp,bc,ap,ac,rfl,a5.mono (mR fun x a3=>ag _ (ag _ (ag _ a3)))⟩⟩
   ·have e:l6 (bb s)=(dF.zero,50):=by rw[l6,if_neg (by simpa using V),if_neg (by rw[lB];omega),if_neg (by rw[a2];decide)]
    rw[e];exact oy.lF (L1:=rK B2 s (mN (bb s)).2.1::N) (EY (B:=B) (C:=O) (cs:=dF.zero.cells none 0 none 0 none 0) (e:=50) rfl) (ah _) fun u' L' ⟨hu,hL⟩=>⟨_,ah _,hu,by rw[hL];rfl,fun a1 M=>⟨_,_,rfl,M,qn.zero⟩⟩
 ·rintro _ _ ⟨V,rfl,a,cs,N,rfl,a4⟩
  have e:l6 (bb s)=(dF.zero,(mN (bb s)).2.2):=by rw[l6,if_pos V]
  rw[e];have a7:Ce TP 123 ⟨[pt B 0,pt O 0]⟩ [fH B cs,eH O 0] (.panicking (vS (mN (bb s)).2.2)) _:=TI a4;obtain⟨a9,b1,c6,d0,d1,d2,d3,d4,d5,d6,b3,b4,b5,b6,b7,b9,c2,c3,c4,c5,c7,c8,c9,rfl⟩:=Cq a4;refine⟨_,Fb,a9,b1,c6,d0,d1,d2,d3,d4,d5,d6,b3,b4,b5,b6,b7,b9,c2,c3,c4,c5,c7,c8,c9,_,rK B2 s a::N,rfl,rfl,?_⟩;exact oy.lF (L1:=rK B2 s a::N) a7 (ah _) fun u' L' ⟨hu,hL⟩=>⟨_,ah _,hu,by rw[hL];rfl,fun a1 M=>⟨_,_,rfl,M,qn.zero⟩⟩
abbrev zF20aa (a b x2 x3:Nat)(x4 x5:OA):Array aa:= #[IV 0,IV 0,IV 0,IV 0,sZ,IV 0,IV 0,sZ,sZ,.slice x4 a b,.slice none 0 0,IV 0,.slice x5 x2 x3,IV 0,IV 0,IV 0,IV 0,IV 0,sZ,sZ,IV 0,IV 0,IV 0]
abbrev zF20ab:Array aa:= #[IV 0,IV 0,IV 0,IV 0,sZ,IV 0,IV 0,sZ,sZ,.slice none 0 0,.slice none 0 0,IV 0,.slice none 0 0,IV 0,IV 0,IV 0,IV 0,IV 0,sZ,sZ,IV 0,IV 0,IV 0]
abbrev zF20ac (a:dF)(b x2 x3:Nat)(x4 x5:OA):Array aa:= #[IV a.n,IV a.time,IV a.kind,IV a.story,.string a.lang,IV a.rev,IV a.base,.string a.title,.string a.author,.slice x4 b x2,.slice none 0 0,IV a.lab.unt,.slice x5 a.lab.after.length x3,IV a.lab.appr,IV a.lab.den,IV a.editor,IV a.block,IV a.sentence,.string a.text,.string a.name,IV a.partner,IV a.cls,IV a.unt]
abbrev zF20ad (a:dF):Array aa:= #[IV a.n,IV a.time,IV 10,IV a.story,sZ,IV 0,IV 0,sZ,sZ,.slice none 0 0,.slice none 0 0,IV 0,.slice none 0 0,IV 0,IV 0,IV 0,IV 0,IV 0,sZ,sZ,IV 0,IV 0,IV 0]
abbrev yx (c:Nat)(a:dF)(p:OA)(o m b i h:Nat)(g:OA)(f:Nat)(cs:List aa)(d:Nat)(t:OA)(s q:Nat)(l:OA)(k j:Nat)(e:aX):aX:=((c,.cells #[IV a.n,IV a.time,IV a.kind,IV a.story,.string a.lang,IV a.rev,IV a.base,.string a.title,.string a.author,.slice p o m,.slice (SO b) i h,IV a.lab.unt,.slice g a.lab.after.length f,IV a.lab.appr,IV a.lab.den,IV a.editor,IV a.block,IV a.sentence,.string a.text,.string a.name,IV a.partner,IV a.cls,IV a.unt] 38)::(b,.cells ⟨cs⟩ 149)::(d,.cells (zF20aa s q k j t l) 38)::e)
abbrev yV (a B:Nat)(c:dF)(i:OA)(h:Nat)(g:OA)(f:Nat)(e:OA)(d:Nat)(b:aX):aX:=((a,.cells zF20ab 38)::(B,.cells ⟨c.cells i h g f e d⟩ 38)::b)
abbrev C6 (a:Nat)(d:dF)(o:OA)(n m:Nat)(f:OA)(e b:Nat)(l:OA)(k j:Nat)(i:OA)(h g:Nat)(c:aX):aX:=((a,.cells (zF20ac d n m e o f) 38)::(b,.cells (zF20aa k j h g l i) 38)::c)
abbrev FN (b:Nat)(a:dF)(B:Nat)(i:OA)(h:Nat)(g:OA)(f:Nat)(e:OA)(d:Nat)(c:aX):aX:=((b,.cells (zF20ad a) 38)::(B,.cells ⟨a.cells i h g f e d⟩ 38)::c)
abbrev tF (a:dF):Array aa:=(zF20ad a)
abbrev xN (a:dF)(i:OA)(h g c f e b d:Nat):Array aa:= #[IV a.n,IV a.time,IV a.kind,IV a.story,.string a.lang,IV a.rev,IV a.base,.string a.title,.string a.author,.slice i h g,.slice (SO c) f e,IV a.lab.unt,.slice (SO b) a.lab.after.length d,IV a.lab.appr,IV a.lab.den,IV a.editor,IV a.block,IV a.sentence,.string a.text,.string a.name,IV a.partner,IV a.cls,IV a.unt]
abbrev xj (a:dF)(f:OA)(e d b c:Nat):Array aa:= #[IV a.n,IV a.time,IV a.kind,IV a.story,.string a.lang,IV a.rev,IV a.base,.string a.title,.string a.author,.slice f e d,.slice none 0 0,IV a.lab.unt,.slice (SO b) a.lab.after.length c,IV a.lab.appr,IV a.lab.den,IV a.editor,IV a.block,IV a.sentence,.string a.text,.string a.name,IV a.partner,IV a.cls,IV a.unt]
abbrev wA (a:dF)(g:OA)(f e b d c:Nat):Array aa:= #[IV a.n,IV a.time,IV a.kind,IV a.story,.string a.lang,IV a.rev,IV a.base,.string a.title,.string a.author,.slice g f e,.slice (SO b) d c,IV a.lab.unt,.slice none 0 0,IV a.lab.appr,IV a.lab.den,IV a.editor,IV a.block,IV a.sentence,.string a.text,.string a.name,IV a.partner,IV a.cls,IV a.unt]
abbrev wg (a:dF)(d:OA)(c b:Nat):Array aa:= #[IV a.n,IV a.time,IV a.kind,IV a.story,.string a.lang,IV a.rev,IV a.base,.string a.title,.string a.author,.slice d c b,.slice none 0 0,IV a.lab.unt,.slice none 0 0,IV a.lab.appr,IV a.lab.den,IV a.editor,IV a.block,IV a.sentence,.string a.text,.string a.name,IV a.partner,IV a.cls,IV a.unt]
abbrev FI:Array aa:=zF20ab
abbrev HI (a:dF)(g:OA)(f:Nat)(e:OA)(d:Nat)(c:OA)(b:Nat):Array aa:=⟨a.cells g f e d c b⟩
abbrev LH (f:OA)(e d:Nat)(c:OA)(b a:Nat):Array aa:=(zF20aa e d b a f c)
abbrev J4 (a:dF)(i:OA)(h g b f e:Nat)(d:OA)(c:Nat):Array aa:= #[IV a.n,IV a.time,IV a.kind,IV a.story,.string a.lang,IV a.rev,IV a.base,.string a.title,.string a.author,.slice i h g,.slice (SO b) f e,IV a.lab.unt,.slice d a.lab.after.length c,IV a.lab.appr,IV a.lab.den,IV a.editor,IV a.block,IV a.sentence,.string a.text,.string a.name,IV a.partner,IV a.cls,IV a.unt]
def zn (d:dF)(w:OA)(u:Nat)(t:OA)(s:Nat)(f:OA)(e a b:Nat)(p q:Int)(o:OA)(n m:Nat)(l:OA)(k j:Nat)(i:OA)(h g:Nat)(c:aX)(w0:aj)(R:bJ→aj→Prop):Prop:=
 kO TP 81 53 (KC fF 500) [(1,PP a),(2,PP b),(27,IV p),(28,IV q)] (C6 a d o n m f e b l k j i h g c) [] w0 (lN R)
def uU (c:dF)(y:OA)(x:Nat)(w:OA)(u:Nat)(g:OA)(f a d b:Nat)(t:Int)(o:OA)(n m i h:Nat)(cs:List aa)(s:OA)(q p:Nat)(l:OA)(k j:Nat)(e:aX)(w0:aj)(R:bJ→aj→Prop):Prop:=
 kO TP 81 53 (KC fF 500) [(1,PP a),(2,PP b),(27,IV (c.blocks.length:Int)),(28,IV t)] (yx a c o n m d i h g f cs b s q p l k j e) [] w0 (lN R)
theorem U7 (b:dF)(G:OA)(F:Nat)(D:OA)(C:Nat)(k:OA)(j h i:Nat)(A w:Int)(e:OA)(d c:Nat)(t:OA)(s q:Nat)(p:OA)(o n:Nat)(l:aX)
 (H:
 Br (w<A)
 (False)
 (∃m:List aa,(∀W,Mem (C6 h b e d c k j i t s q p o n l) [] w0 W→eB TP 1 34 (.slice k b.lab.after.length j) b.lab.after.length m W)∧
 (b.lab.after.length≤9223372036854775807∧b.lab.after.length*8≤140737488355328)∧((b.lab.after.length=0→
 Fin R ((h,.cells (wg b e d c) 38)::(i,.cells (wg b e d c) 38)::l) [] w0 (.agg (wg b e d c)))∧
 (0<b.lab.after.length→∀(g f:Nat) (u:List aa),b.lab.after.length≤f→(m++u).length=f*1→
 Fin R ((g,.cells ⟨(m++u)⟩ 3)::(h,.cells (xj b e d c g f) 38)::(i,.cells (xj b e d c g f) 38)::l) [] w0 (.agg (xj b e d c g f)))))):
 zn b G F D C k j h i A w e d c t s q p o n l w0 R:=by
 unfold zn;refine .ru 5 (.sP 29 H (fun H=>?_) fun H=>?_)
 ·refine .ru 9 (.nm (KC fF 16025) [(1,PP h),(2,PP i),(3,IV w),(27,IV A),(28,IV w)] (C6 h b e d c k j i t s q p o n l) (.dD (.ph 11 [0,1,2,3,4,5,6,7,8,9] [10] [(h,.cells (zF20ac b d c j e k) 38),(i,.cells (zF20aa s q o n t p) 38)] (.pu (.ld 0 10 (.pu (.pu (.ld 0 10 ?_))))))))
  exact H.elim
 ·refine .ru 6 (.ld 0 12 ?_)
  obtain⟨m,O,H⟩:=H;refine .uc (T:=34) (U:=34) (E:=3) (z:=IV 0) (sz:=1) (bytes:=8) (x:=.slice k b.lab.after.length j) b.lab.after.length m (by kernel_rfl) O H.1 (fun y=>?_) (fun y g f u M N=>?_)
  ·replace H:=H.2.1 y
   refine .ru 2 (.store 0 12 (T:=34) (v:=.slice none 0 0) (by kernel_rfl) (.ru 3 (.ld 0 0 (.store 1 0 (T:=38) (v:=.agg (wg b e d c)) (by kernel_rfl) (.ru 1 (.qI 1 0 (a:=2) (T:=38) (v:=.agg (wg b e d c)) er (by kernel_rfl) (by kernel_rfl) H))))))
  ·skip
   replace H:=H.2.2 y g f u M N
   refine .front (.ru 2 (.store 1 12 (T:=34) (v:=.slice (SO g) b.lab.after.length f) (by kernel_rfl) (.ru 3 (.ld 1 0 (.store 2 0 (T:=38) (v:=.agg (xj b e d c g f)) (by kernel_rfl) (.ru 1 (.qI 2 0 (a:=2) (T:=38) (v:=.agg (xj b e d c g f)) er (by kernel_rfl) (by kernel_rfl) H)))))))
theorem Ml (d:dF)(a4:OA)(a3:Nat)(a2:OA)(a1:Nat)(s:OA)(q n f p:Nat)(e:Int)(l:OA)(k j g h:Nat)(cs:List aa)(G:OA)(F D:Nat)(C:OA)(A y:Nat)(t:aX)
 (H:
 Br (e<(d.blocks.length:Int))
 ((0≤e∧e<g)∧
 ∃(X:OA) (m:Nat) (V:Nat),(cs)[((((ad e)*9)+5)+1)]?=some (.slice X m V)∧
 ∃Q:List aa,(∀W,Mem (yx n d l k j f g h s q cs p G F D C A y t) [] w0 W→eB TP 1 34 (.slice X m V) m Q W)∧
 (m≤9223372036854775807∧m*8≤140737488355328)∧((m=0→
 (0≤e∧e<g)∧
 (((((ad e)*9)+5)+1)<(cs).length)∧
 uU d a4 a3 a2 a1 s q n f p (ab.wrap (e+(1:Int))) l k j g h ((cs).set ((((ad e)*9)+5)+1) (.slice none 0 0)) G F D C A y t w0 R)∧
 (0<m→∀(M N:Nat) (Z:List aa),m≤N→(Q++Z).length=N*1→
 (0≤e∧e<g)∧
 (((((ad e)*9)+5)+1)<(cs).length)∧
 uU d a4 a3 a2 a1 s q n f p (ab.wrap (e+(1:Int))) l k j g h ((cs).set ((((ad e)*9)+5)+1) (.slice (SO M) m N)) G F D C A y ((M,.cells ⟨(Q++Z)⟩ 3)::t) w0 R)))
 (∃Y:List aa,(∀W,Mem (yx n d l k j f g h s q cs p G F D C A y t) [] w0 W→eB TP 1 34 (.slice s d.lab.after.length q) d.lab.after.length Y W)∧
 (d.lab.after.length≤9223372036854775807∧d.lab.after.length*8≤140737488355328)∧((d.lab.after.length=0→
 Fin R ((n,.cells (wA d l k j f g h) 38)::(f,.cells ⟨cs⟩ 149)::(p,.cells (wA d l k j f g h) 38)::t) [] w0 (.agg (wA d l k j f g h)))∧
 (0<d.lab.after.length→∀(w u:Nat) (a0:List aa),d.lab.after.length≤u→(Y++a0).length=u*1→
 Fin R ((w,.cells ⟨(Y++a0)⟩ 3)::(n,.cells (xN d l k j f g h w u) 38)::(f,.cells ⟨cs⟩ 149)::(p,.cells (xN d l k j f g h w u) 38)::t) [] w0 (.agg (xN d l k j f g h w u)))))):
 uU d a4 a3 a2 a1 s q n f p e l k j g h cs G F D C A y t w0 R:=by
 unfold uU;refine .ru 5 (.sP 29 H (fun H=>?_) fun H=>?_)
 ·refine .ru 9 (.nm (KC fF 16025) [(1,PP n),(2,PP p),(3,IV e),(27,IV (d.blocks.length:Int)),(28,IV e)] (yx n d l k j f g h s q cs p G F D C A y t) (.dD (.ph 11 [0,1,2,3,4,5,6,7,8,9] [10] [(n,.cells (J4 d l k j f g h s q) 38),(f,.cells ⟨cs⟩ 149),(p,.cells (LH G F D C A y) 38)] (.pu (.ld 0 10 (.pu (.pu (.ld 0 10 (.pu (.nr (E:=149) (b:=f) (o:=0) (len:=g) (cap:=h) (sz:=9) (o':=((ad e)*9)) (kd:=.i64) (i:=e) (by kernel_rfl) H.1 (by omega) ?_))))))))))
  replace H:=H.2
  refine .pu (.pu ?_);obtain⟨X,m,V,a8,H⟩:=H;refine .um 1 (off:=((((ad e)*9)+5)+1)) (T:=34) (v:=.slice X m V) (by kernel_rfl) (o4 a8 (by kernel_rfl)) (.dn ?_);obtain⟨Q,a7,H⟩:=H;refine .uc _ (T:=34) (U:=34) (E:=3) (z:=IV 0) (sz:=1) (bytes:=8) (x:=.slice X m V) m Q rfl (by kernel_rfl) a7 H.1 (fun O=>?_) (fun O M N Z a5 a6=>?_)
  ·replace H:=H.2.1 O
   refine .dn (.nm [(1,PP n),(2,PP p),(27,IV (d.blocks.length:Int)),(28,IV e),(32,.slice (SO f) g h),(33,IV e),(41,.slice none 0 0)] (yx n d l k j f g h s q cs p G F D C A y t) (.tl (.nr (E:=149) (b:=f) (o:=0) (len:=g) (cap:=h) (sz:=9) (o':=((ad e)*9)) (kd:=.i64) (i:=e) (by kernel_rfl) H.1 (by omega) ?_)))
   replace H:=H.2
   refine .ru 2 (.xP 1 (off:=((((ad e)*9)+5)+1)) (lo:=0) (hi:=0) (T:=34) (v:=.slice none 0 0) (c:=cs) (by kernel_rfl) H.1 (.inr (bx _)) ?_)
   replace H:=H.2
   refine .ru 7 (.tT [0,1,2] 3 H)
  ·skip
   replace H:=H.2.2 O M N Z a5 a6
   refine .dn (.front (.nm [(1,PP n),(2,PP p),(27,IV (d.blocks.length:Int)),(28,IV e),(32,.slice (SO f) g h),(33,IV e),(41,.slice (SO M) m N)] ((M,.cells ⟨(Q++Z)⟩ 3)::(n,.cells (J4 d l k j f g h s q) 38)::(f,.cells ⟨cs⟩ 149)::(p,.cells (LH G F D C A y) 38)::t) (.tl (.nr (E:=149) (b:=f) (o:=0) (len:=g) (cap:=h) (sz:=9) (o':=((ad e)*9)) (kd:=.i64) (i:=e) (by kernel_rfl) H.1 (by omega) ?_))))
   replace H:=H.2
   refine .ru 2 (.xP 2 (off:=((((ad e)*9)+5)+1)) (lo:=0) (hi:=0) (T:=34) (v:=.slice (SO M) m N) (c:=cs) (by kernel_rfl) H.1 (.inr (bx _)) ?_)
   replace H:=H.2
   refine .ru 7 (.tT [1,2,3,0] 4 H)
 ·refine .ru 6 (.ld 0 12 ?_)
  obtain⟨Y,a7,H⟩:=H;refine .uc (T:=34) (U:=34) (E:=3) (z:=IV 0) (sz:=1) (bytes:=8) (x:=.slice s d.lab.after.length q) d.lab.after.length Y (by kernel_rfl) a7 H.1 (fun O=>?_) (fun O w u a0 a5 a6=>?_)
  ·replace H:=H.2.1 O
   refine .ru 2 (.store 0 12 (T:=34) (v:=.slice none 0 0) (by kernel_rfl) (.ru 3 (.ld 0 0 (.store 2 0 (T:=38) (v:=.agg (wA d l k j f g h)) (by kernel_rfl) (.ru 1 (.qI 2 0 (a:=2) (T:=38) (v:=.agg (wA d l k j f g h)) er (by kernel_rfl) (by kernel_rfl) H))))))
  ·skip
   replace H:=H.2.2 O w u a0 a5 a6
   refine .front (.ru 2 (.store 1 12 (T:=34) (v:=.slice (SO w) d.lab.after.length u) (by kernel_rfl) (.ru 3 (.ld 1 0 (.store 3 0 (T:=38) (v:=.agg (xN d l k j f g h w u)) (by kernel_rfl) (.ru 1 (.qI 3 0 (a:=2) (T:=38) (v:=.agg (xN d l k j f g h w u)) er (by kernel_rfl) (by kernel_rfl) H)))))))
theorem Io (b:dF)(g:OA)(f:Nat)(d:OA)(c:Nat)(i:OA)(h:Nat)(j:aX)(hm:Mem (j) [] w0 W)
 (H:
 ∀B e:Nat,
 Br (b.kind=1)
 (Fin R (FN e b B g f d c i h j) [] w0 (.agg (tF b)))
 (Br (b.kind=4)
 (Fin R (FN e b B g f d c i h j) [] w0 (.agg (tF b)))
 (Br (b.kind=5)
 (Fin R (FN e b B g f d c i h j) [] w0 (.agg (tF b)))
 (∃o:List aa,(∀W,Mem (yV e B b g f d c i h j) [] w0 W→eB TP 1 32 (.slice g b.topics.length f) b.topics.length o W)∧
 (b.topics.length≤9223372036854775807∧b.topics.length*16≤140737488355328)∧((b.topics.length=0→
 ∃w:List aa,(∀W,Mem ((e,.cells FI 38)::(B,.cells #[IV b.n,IV b.time,IV b.kind,IV b.story,.string b.lang,IV b.rev,IV b.base,.string b.title,.string b.author,.slice none 0 0,.slice d b.blocks.length c,IV b.lab.unt,.slice i b.lab.after.length h,IV b.lab.appr,IV b.lab.den,IV b.editor,IV b.block,IV b.sentence,.string b.text,.string b.name,IV b.partner,IV b.cls,IV b.unt] 38)::j) [] w0 W→eB TP 9 33 (.slice d b.blocks.length c) b.blocks.length w W)∧
 (b.blocks.length≤9223372036854775807∧b.blocks.length*96≤140737488355328)∧((b.blocks.length=0→
 zn b g f d c i h B e (0:Int) (0:Int) none 0 0 none 0 0 none 0 0 j w0 R)∧
 (0<b.blocks.length→∀(A p:Nat) (D:List aa),b.blocks.length≤p→(w++D).length=p*9→
 uU b g f d c i h B A e (0:Int) none 0 0 b.blocks.length p (w++D) none 0 0 none 0 0 j w0 R)))∧
 (0<b.topics.length→∀(l m:Nat) (r:List aa),b.topics.length≤m→(o++r).length=m*1→
 ∃y:List aa,(∀W,Mem ((l,.cells ⟨(o++r)⟩ 9)::(e,.cells FI 38)::(B,.cells #[IV b.n,IV b.time,IV b.kind,IV b.story,.string b.lang,IV b.rev,IV b.base,.string b.title,.string b.author,.slice (SO l) b.topics.length m,.slice d b.blocks.length c,IV b.lab.unt,.slice i b.lab.after.length h,IV b.lab.appr,IV b.lab.den,IV b.editor,IV b.block,IV b.sentence,.string b.text,.string b.name,IV b.partner,IV b.cls,IV b.unt] 38)::j) [] w0 W→eB TP 9 33 (.slice d b.blocks.length c) b.blocks.length y W)∧
 (b.blocks.length≤9223372036854775807∧b.blocks.length*96≤140737488355328)∧((b.blocks.length=0→
 zn b g f d c i h B e (0:Int) (0:Int) (SO l) b.topics.length m none 0 0 none 0 0 ((l,.cells ⟨(o++r)⟩ 9)::j) w0 R)∧
 (0<b.blocks.length→∀(C q:Nat) (F:List aa),b.blocks.length≤q→(y++F).length=q*9→
 uU b g f d c i h B C e (0:Int) (SO l) b.topics.length m b.blocks.length q (y++F) none 0 0 none 0 0 ((l,.cells ⟨(o++r)⟩ 9)::j) w0 R)))))))):
 aE TP 81 ⟨[.agg (HI b g f d c i h)]⟩ W R:=by
 refine kO.cs 53 er hm (.ru 2 (.nH (.cells (HI b g f d c i h) 38) H fun B H=>(.front (.nH (.cells FI 38) H fun e H=>(.front (.ru 5 (.ld 1 2 (.ru 8 (.sP 6 H (fun H=>?_) fun H=>?_)))))))))
 ·refine .ru 6 (.ld 1 0 (.ru 1 (.ld 1 1 (.ru 1 (.ld 1 3 (.nm (KR fF 212 [6,7]) [(2,PP e),(11,IV b.n),(13,IV b.time),(15,IV b.story)] (yV e B b g f d c i h j) (.ru 1 (.store 0 0 (T:=38) (v:=.agg (tF b)) (by kernel_rfl) (.ru 1 (.qI 0 0 (a:=2) (T:=38) (v:=.agg (tF b)) er (by kernel_rfl) (by kernel_rfl) H))))))))))
 ·refine .ru 6 (.sP 6 H (fun H=>?_) fun H=>?_)
  ·refine .ru 6 (.ld 1 0 (.ru 1 (.ld 1 1 (.nm (KR fF 212 [4,5,6,7]) [(1,PP B),(2,PP e),(11,IV b.n),(13,IV b.time)] (yV e B b g f d c i h j) (.ru 1 (.ld 1 3 (.ru 1 (.store 0 0 (T:=38) (v:=.agg (tF b)) (by kernel_rfl) (.ru 1 (.qI 0 0 (a:=2) (T:=38) (v:=.agg (tF b)) er (by kernel_rfl) (by kernel_rfl) H))))))))))
  ·refine .ru 5 (.sP 6 H (fun H=>?_) fun H=>?_)
   ·refine .ru 4 (.ld 1 0 (.nm (KR fF 212 [2,3,4,5,6,7]) [(1,PP B),(2,PP e),(11,IV b.n)] (yV e B b g f d c i h j) (.ru 1 (.ld 1 1 (.ru 1 (.ld 1 3 (.ru 1 (.store 0 0 (T:=38) (v:=.agg (tF b)) (by kernel_rfl) (.ru 1 (.qI 0 0 (a:=2) (T:=38) (v:=.agg (tF b)) er (by kernel_rfl) (by kernel_rfl) H))))))))))
   ·refine .ru 6 (.ld 1 9 (.nm (KR fF 14 [2,3,4]) [(1,PP B),(2,PP e),(18,.slice g b.topics.length f)] (yV e B b g f d c i h j) ?_))
    obtain⟨o,u,H⟩:=H;refine .uc (T:=32) (U:=32) (E:=9) (z:=sZ) (sz:=1) (bytes:=16) (x:=.slice g b.topics.length f) b.topics.length o (by kernel_rfl) u H.1 (fun k=>?_) (fun k l m r s t=>?_)
    ·replace H:=H.2.1 k
     refine .ru 1 (.store 1 9 (T:=32) (v:=.slice none 0 0) (by kernel_rfl) (.ru 4 (.ld 1 10 ?_)));obtain⟨w,u,H⟩:=H;refine .uc (T:=33) (U:=33) (E:=149) (z:=.agg kBdq) (sz:=9) (bytes:=96) (x:=.slice d b.blocks.length c) b.blocks.length w (by kernel_rfl) u H.1 (fun k=>?_) (fun k A p D s t=>?_)
     ·replace H:=H.2.1 k
      refine .ru 1 (.store 1 10 (T:=33) (v:=.slice none 0 0) (by kernel_rfl) (.ru 5 (.ld 1 10 (.ru 5 (.tT [1,0] 2 H)))))
     ·skip
      replace H:=H.2.2 k A p D s t
      refine .front (.ru 1 (.store 2 10 (T:=33) (v:=.slice (SO A) b.blocks.length p) (by kernel_rfl) (.ru 5 (.ld 2 10 (.ru 5 (.tT [2,0,1] 3 H))))))
    ·skip
     replace H:=H.2.2 k l m r s t
     refine .front (.ru 1 (.store 2 9 (T:=32) (v:=.slice (SO l) b.topics.length m) (by kernel_rfl) (.ru 4 (.ld 2 10 ?_))));obtain⟨y,u,H⟩:=H;refine .uc (T:=33) (U:=33) (E:=149) (z:=.agg kBdq) (sz:=9) (bytes:=96) (x:=.slice d b.blocks.length c) b.blocks.length y (by kernel_rfl) u H.1 (fun k=>?_) (fun k C q F s t=>?_)
     ·replace H:=H.2.1 k
      refine .ru 1 (.store 2 10 (T:=33) (v:=.slice none 0 0) (by kernel_rfl) (.ru 5 (.ld 2 10 (.ru 5 (.tT [2,1,0] 3 H)))))
     ·skip
      replace H:=H.2.2 k C q F s t
      refine .front (.ru 1 (.store 3 10 (T:=33) (v:=.slice (SO C) b.blocks.length q) (by kernel_rfl) (.ru 5 (.ld 3 10 (.ru 5 (.tT [3,0,2,1] 4 H))))))
theorem eA.XO (told:aX){F:aX}(h:lP P g args [] K)(M:∀v F',K v F'→K' v (told++(F'++F))):eA P g args (told++F) S w0 K':=
 eA.lF (L1:=told++F) h (ah _) fun v L' O=>⟨told++(L'++F),List.perm_append_comm_assoc _ _ _,M v L' O⟩
theorem Mu {f:dF}(h:f.ok=true):u6 f=.tuple #[.string (ba (mE f)),.int .i64 0]:=if_pos h
def vX (f:dF):dF:=⟨f.n,f.time,10,f.story,e0,0,0,e0,e0,[],[],mi.zero,0,0,0,e0,e0,0,0,0⟩
def uE (k:Int):Bool:=decide (k=1∨k=4∨k=5)
theorem JZ {f:dF}:lv lk (vX f) none 0 none 0 none 0:=qi rfl rfl rfl ⟨ny,ny,ny,ny,ny⟩
def RN (f:dF)(v:aa)(F:aX):Prop:=v=.agg ⟨(vX f).cells none 0 none 0 none 0⟩
theorem ZR {f:dF}(M:uE f.kind=true):lP TP 81 ⟨[.agg ⟨f.cells tp tc bp bc ap ac⟩]⟩ [] (RN f):=by
 intro W hm;have M:=of_decide_eq_true M;refine Io f tp tc bp bc ap ac [] hm fun B V=>⟨fun _=>?_,fun a2=>⟨fun _=>?_,fun a3=>⟨fun _=>?_,fun a4=>absurd M (by omega)⟩⟩⟩
 all_goals exact fun a1 O=>⟨_,_,rfl,O,rfl⟩
def I6 (lk:Lk)(cs:List aa)(b:kT):Prop:=∃p c,cs=b.cells p c∧lX lk p b.lab.after∧b.Fits∧b.lab.after.length≤c
structure xT (lk:Lk)(f:dF)(tp:OA)(tc:Nat)(bp:OA)(bc:Nat)(ap:OA)(ac:Nat):Prop where
 tops:nh lk tp f.topics
 blks:pb lk 9 (I6 lk) bp f.blocks
 ints:lX lk ap f.lab.after
 ct:f.topics.length≤tc
 cb:f.blocks.length≤bc
 ca:f.lab.after.length≤ac
 fits:f.Fits
def rB (s:BA)(n:Nat):BA:=s.extract 0 (min s.size n)
theorem LK (s:BA)(n:Nat):(rB s n).size=min n s.size:=by
 rw[rB,ByteArray.size_extract];omega
theorem Jf {s:BA}{n:Nat}{i:Int}(hi:i=(n:Int)):s.extract 0 (ad (if i<(s.size:Int)then i else(s.size:Int)))=rB s n:=by
 subst hi;have:ad (if(n:Int)<(s.size:Int)then(n:Int)else(s.size:Int))=min s.size n:=by split<;>omega
 rw[this,rB]
def rn (lk:Lk)(cs:List aa)(l:List kT):Prop:=∀i (h:i<l.length),i*9+9≤cs.length∧r9 lk ((cs.drop (i*9)).take 9) l[i]
def DU (lk:Lk)(r:dF)(v:aa)(F:aX):Prop:=∃tp tc bp bc ap ac,v=.agg ⟨r.cells tp tc bp bc ap ac⟩∧lv (mJ F lk) r tp tc bp bc ap ac
theorem Xw (b:kT)(p:OA)(c:Nat):∀u∈b.cells p c,u.oneCell'=true:=by
 intro u M;simp only[List.mem_cons,List.not_mem_nil,or_false]at M;rcases M with rfl|rfl|rfl|rfl|rfl|rfl|rfl|rfl|rfl<;>rfl
theorem SS {c:List aa}{o n:Nat}:(c.drop o).take ((n+1)*9)=(c.drop o).take (n*9)++(c.drop (o+n*9)).take 9:=by
 rw[show(n+1)*9=n*9+9 by omega,List.take_add,cV]
theorem HZ {c:List aa}{o:Nat}{l:List kT}(h:∀i (h:i<l.length),o+i*9+9≤c.length∧r9 lk ((c.drop (o+i*9)).take 9) l[i]):∀n,n≤l.length→∀u∈(c.drop o).take (n*9),u.oneCell'=true
 |0,_,u,hu=>by simp at hu
 | n+1,hn,u,hu=>by
  rw[SS]at hu;rcases cn.1 hu with h1|h1
  ·exact HZ h n (by omega) u h1
  ·obtain⟨p,c',e,_,_⟩:=(h n (by omega)).2
   rw[e]at h1;exact Xw _ _ _ u h1
theorem OR {b:Nat}{c:List aa}(h:kY W b c)(o:Nat):W.cell? ⟨b,o,none⟩=c[o]?:=by
 unfold kY lG at h;split at h
 ·next c' t fz hh=>
  have hc:c'.toList=c:=by simpa using h
  rw[cell_of_heap (c:=c'.toList) (t:=t) (fz:=fz) (by simpa using hh),hc]
 ·cases h
theorem BO {L:aX}{b o:Nat}{c news:List aa}(h:∀W,Mem L [] w0 W→kY W b c)(hn:∀i,i<news.length→c[o+i]?=news[i]?):Src L [] w0 ⟨b,o,none⟩ news:=by
 intro W hm i u hi;have M:=(List.getElem?_eq_some_iff.1 hi).1;rw[pN,OR (h W hm),hn i M,hi]
theorem CC {L:aX}{w0:aj}{lk:Lk}{p:OA}{c:Nat}{l:List Int}(h:lX lk p l)(a1:∀W,Mem L [] w0 W→∀b c,lk b c→kY W b c):∀W,Mem L [] w0 W→eB TP 1 34 (.slice p l.length c) l.length (l.map (.int .i64)) W:=by
 have M:∀u∈l.map (Value.int .i64),u.oneCell'=true:=fun u a2=>by obtain⟨n,_,rfl⟩:=List.mem_map.1 a2;rfl
 rcases bX l.length with h0|hpos
 ·have:l=[]:=aQ.1 h0
  subst this;cases p with
  |none=>exact yQ (E':=3) (by kernel_rfl)
  |some a=>exact uw (E':=3) (by kernel_rfl) (Src.nil a) rfl M
 ·obtain⟨b,o,cs,rfl,O,V⟩:=h hpos
  exact uw (E':=3) (by kernel_rfl) (BO (fun W hm=>a1 W hm _ _ O) fun i hi=>by rw[du]at hi;rw[V i hi,bP,ar hi];rfl) (by simp) M
theorem J9 {L:aX}{w0:aj}{lk:Lk}{p:OA}{c:Nat}{l:List BA}(h:nh lk p l)(a1:∀W,Mem L [] w0 W→∀b c,lk b c→kY W b c):∀W,Mem L [] w0 W→eB TP 1 32 (.slice p l.length c) l.length (l.map .string) W:=by
 have M:∀u∈l.map Value.string,u.oneCell'=true:=fun u a2=>by obtain⟨n,_,rfl⟩:=List.mem_map.1 a2;rfl
 rcases bX l.length with h0|hpos
 ·have:l=[]:=aQ.1 h0
  subst this;cases p with
  |none=>exact yQ (E':=9) (by kernel_rfl)
  |some a=>exact uw (E':=9) (by kernel_rfl) (Src.nil a) rfl M
 ·obtain⟨b,o,cs,rfl,O,V⟩:=h hpos
  exact uw (E':=9) (by kernel_rfl) (BO (fun W hm=>a1 W hm _ _ O) fun i hi=>by rw[du]at hi;rw[V i hi,bP,ar hi];rfl) (by simp) M
theorem D1 {L:aX}{w0:aj}{lk:Lk}{p:OA}{c:Nat}{l:List kT}(h:mY lk p l)(a1:∀W,Mem L [] w0 W→∀b c,lk b c→kY W b c):
  ∃news,(∀W,Mem L [] w0 W→eB TP 9 33 (.slice p l.length c) l.length news W)∧news.length=l.length*9∧rn lk news l:=by
 rcases bX l.length with h0|hpos
 ·have:l=[]:=aQ.1 h0
  subst this;refine⟨[],?_,rfl,fun i hi=>absurd hi (by simp)⟩;cases p with
  |none=>exact yQ (E':=149) (by kernel_rfl)
  |some a=>exact uw (E':=149) (by kernel_rfl) (Src.nil a) rfl (fun u a2=>absurd a2 (by simp))
 ·obtain⟨b,o,cs,rfl,V,O⟩:=h hpos
  have a3:=(O (l.length-1) (by omega)).1;have M:((cs.drop o).take (l.length*9)).length=l.length*9:=by rw[ao,aZ];omega
  refine⟨(cs.drop o).take (l.length*9),uw (E':=149) (by kernel_rfl) (BO (fun W hm=>a1 W hm _ _ V) fun i hi=>?_) M (HZ O l.length (aD _)),M,fun i hi=>⟨by rw[M];omega,?_⟩⟩
  ·rw[M]at hi
   rw[bh hi,cd]
  ·have:(((cs.drop o).take (l.length*9)).drop (i*9)).take 9=(cs.drop (o+i*9)).take 9:=by
    rw[List.drop_take,cV,List.take_take,Nat.min_eq_left (by omega)]
   rw[this];exact(O i hi).2
theorem rn.mono {lk M:Lk}{cs:List aa}{l:List kT}(h:rn lk cs l)(O:∀b c,lk b c→M b c):rn M cs l:=fun i hi=>⟨(h i hi).1,(h i hi).2.mono O⟩
theorem rn.vO {cs r:List aa}{l:List kT}(h:rn lk cs l):rn lk (cs++r) l:=by
 intro i hi;have:=(h i hi).1;refine⟨by rw[ae];omega,?_⟩;rw[fa (by omega),fb (by rw[aZ];omega)];exact(h i hi).2
theorem Gl {cs:List aa}{k j:Nat}{v:aa}(h:k<j*9∨j*9+9≤k):((cs.set k v).drop (j*9)).take 9=(cs.drop (j*9)).take 9:=by
 apply eX;intro q
 by_cases hq:q<9
 ·rw[bh hq,bh hq,cd,cd,jo (by omega)]
 ·rw[cQ (by rw[ao];omega),cQ (by rw[ao];omega)]
theorem Fw {cs:List aa}{i q:Nat}(M:q<9){r:List aa}(e:(cs.drop (i*9)).take 9=r):cs[i*9+q]?=r[q]?:=by
 rw[←e,bh M,cd]
theorem Lz {cs:List aa}{i:Nat}{b:kT}{p p':OA}{c c':Nat}(h:i*9+9≤cs.length)(e:(cs.drop (i*9)).take 9=b.cells p c):((cs.set (i*9+5+1) (.slice p' b.lab.after.length c')).drop (i*9)).take 9=b.cells p' c':=by
 apply eX;intro q
 by_cases hq:q<9
 ·rw[bh hq,cd]
  have M:=Fw hq e;have:q=0∨q=1∨q=2∨q=3∨q=4∨q=5∨q=6∨q=7∨q=8:=by omega
  rcases this with rfl|rfl|rfl|rfl|rfl|rfl|rfl|rfl|rfl
  case inr.inr.inr.inr.inr.inr.inl=>rw[show i*9+5+1=i*9+6 from rfl,List.getElem?_set_self (by omega)];rfl
  all_goals (rw[jo (by omega),M];rfl)
 ·rw[cQ (by rw[ao];omega),cQ (by simp;omega)]
theorem rn.set {lk M:Lk}{cs:List aa}{l:List kT}{i:Nat}{p':OA}{c':Nat}(h:rn lk cs l)(hi:i<l.length)(a3:∀b c,lk b c→M b c)(hp:lX M p' l[i].lab.after):rn M (cs.set (i*9+5+1) (.slice p' l[i].lab.after.length c')) l:=by
 intro j a2;obtain⟨O,p,c,e,a1,V⟩:=h j a2;refine⟨by rw[hP];exact O,?_⟩
 by_cases hji:j=i
 ·subst hji
  exact⟨p',c',Lz O e,hp,V⟩
 ·refine⟨p,c,?_,a1.mono a3,V⟩
  rw[Gl (by omega)];exact e
def nn (f:dF):dF:=if uE f.kind=true then vX f else f
structure dF.Small (f:dF):Prop where
 tops:f.topics.length≤100
 blks:f.blocks.length≤100
 ints:f.lab.after.length≤100
 each:∀b∈f.blocks,b.lab.after.length≤100
theorem Cd {F:aX}{B:Nat}{l:List Int}{r:List aa}{t:TypeId}{fz:Nat×Nat}(h:(B,Obj.cells ⟨l.map (.int .i64)++r⟩ t fz)∈F):lX (mJ F lk) (SO B) l:=
 fun _=>⟨B,0,_,rfl,.inl ⟨t,fz,h⟩,fun i hi=>by rw[az,dG (by rw[du];exact hi),bP,ar hi];rfl⟩
theorem DJ {F:aX}{B:Nat}{l:List BA}{r:List aa}{t:TypeId}{fz:Nat×Nat}(h:(B,Obj.cells ⟨l.map .string++r⟩ t fz)∈F):nh (mJ F lk) (SO B) l:=
 fun _=>⟨B,0,_,rfl,.inl ⟨t,fz,h⟩,fun i hi=>by rw[az,dG (by rw[du];exact hi),bP,ar hi];rfl⟩
theorem oR {F F':aX}(h:∀x∈F,x∈F'):∀b c,mJ F lk b c→mJ F' lk b c:=by
 rintro b c (M|M)
 ·exact .inl (mR h b c M)
 ·exact .inr M
theorem II {F L:aX}(O:∀b c,lk b c→kY w0 b c)(hm:Mem L [] w0 W)(h:∀x∈F,x∈L):∀b c,mJ F lk b c→kY W b c:=by
 rintro b c (M|M)
 ·exact qt hm h b c M
 ·exact lK hm b c (O b c M)
theorem Al {p:OA}{l:List Int}(h:l.length=0):lX lk p l:=fun hp=>absurd hp (by omega)
theorem Hs {f:dF}(a8:∀b c,lk b c→kY w0 b c)(h:lv lk f tp tc bp bc ap ac)(a5:f.Small){a4:OA}{a6 qc:Nat}(c3:a6=f.topics.length)(a9:a6≤qc){B6 B7 B8 a2:Nat}(a7:f.blocks.length≤a2){xp yp:OA}{c5 xc c6 yc:Nat}:
  ∀(g i:Nat) (cs:List aa) (F:aX),g+i=f.blocks.length→rn (mJ F lk) cs f.blocks→nh (mJ F lk) a4 f.topics→
   uU f tp tc bp bc ap ac B6 B7 B8 (i:Int) a4 a6 qc f.blocks.length a2 cs xp c5 xc yp c6 yc F w0 (fun e b5=>∃v L',e=.returned v∧Mem L' [] w0 b5∧DU lk f v L'):=by
 subst c3;intro g;induction g with
 | zero=>
  intro i cs F b9 O a1;apply Ml;have d2:=a5.ints;refine no (by omega) ⟨_,CC h.ints fun W hm=>fun b c a3=>lK hm b c (a8 b c a3),by omega,fun V=>?_,fun c2 b4 b6 d4 b3 c4=>?_⟩
  ·refine kR ⟨a4,qc,some ⟨B7,0,none⟩,a2,none,0,?_,?_⟩
   ·delta wA dF.cells;rw[V]
   ·exact⟨a1.mono (oR fun x M=>by simp[M]),fun _=>⟨B7,0,cs,rfl,.inl ⟨_,_,ag _ au⟩,fun i hi=>⟨by rw[az];exact(O i hi).1,by rw[az];exact(O i hi).2.mono (oR fun x M=>by simp[M])⟩⟩,Al V,a9,a7,by omega,h.fits⟩
  ·refine kR ⟨a4,qc,some ⟨B7,0,none⟩,a2,some ⟨b4,0,none⟩,b6,rfl,?_⟩
   exact⟨a1.mono (oR fun x M=>by simp[M]),fun _=>⟨B7,0,cs,rfl,.inl ⟨_,_,ag _ (ag _ au)⟩,fun i hi=>⟨by rw[az];exact(O i hi).1,by rw[az];exact(O i hi).2.mono (oR fun x M=>by simp[M])⟩⟩,Cd au,a9,a7,b3,h.fits⟩
 | succ g ih=>
  intro i cs F b9 O a1;apply Ml;have a3:=a5.blks;have hi:i<f.blocks.length:=by omega
  obtain⟨c9,p,c,e,b7,d0⟩:=O i hi;have d1:=a5.each _ (bH hi);have b1:ab.wrap ((i:Int)+1)=((i+1:Nat):Int):=by rw[kS (by omega)];omega
  refine yes (by omega) ⟨by omega,p,f.blocks[i].lab.after.length,c,?_,_,CC b7 fun W hm=>II a8 hm fun x M=>by simp[M],by omega,fun V=>⟨by omega,by rw[ai];omega,?_⟩,fun c2 c7 c8 d3 b3 c4=>⟨by omega,by rw[ai];omega,?_⟩⟩
  ·rw[ai,Nat.add_assoc,Fw (by decide) e];rfl
  ·rw[b1,ai]
   have:=O.set (i:=i) (p':=none) (c':=0) hi (fun b c a3=>a3) (Al V);rw[V]at this;exact ih (i+1) _ F (by omega) this a1
  ·rw[b1,ai]
   exact ih (i+1) _ _ (by omega) (O.set hi (oR fun x M=>ag _ M) (Cd au)) (a1.mono (oR fun x M=>ag _ M))
theorem H7 {f:dF}(b4:∀b c,lk b c→kY w0 b c)(h:lv lk f tp tc bp bc ap ac)(b6:f.Small){M:OA}{a1 qc:Nat}(b5:a1=f.topics.length)(a4:a1≤qc)(O:f.blocks.length=0){a7 a8:Nat}{xp yp:OA}{b9 xc c2 yc:Nat}{F:aX}(a5:nh (mJ F lk) M f.topics):
  zn f tp tc bp bc ap ac a7 a8 (0:Int) (0:Int) M a1 qc xp b9 xc yp c2 yc F w0 (fun e a9=>∃v L',e=.returned v∧Mem L' [] w0 a9∧DU lk f v L'):=by
 subst b5;apply U7;have c3:=b6.ints;have a3:f.blocks=[]:=aQ.1 O;refine no (by omega) ⟨_,CC h.ints fun W hm=>fun b c b3=>lK hm b c (b4 b c b3),by omega,fun a2=>?_,fun c4 a6 b1 c6 b7 c5=>?_⟩
 ·refine kR ⟨M,qc,none,0,none,0,?_,?_⟩
  ·delta wg dF.cells;rw[a2,O]
  ·exact⟨a5.mono (oR fun x V=>by simp[V]),by rw[a3];exact uN,Al a2,a4,by omega,by omega,h.fits⟩
 ·refine kR ⟨M,qc,none,0,some ⟨a6,0,none⟩,b1,?_,?_⟩
  ·delta xj dF.cells;rw[O]
  ·exact⟨a5.mono (oR fun x V=>by simp[V]),by rw[a3];exact uN,Cd au,a4,by omega,b7,h.fits⟩
theorem E6 {p:OA}{l:List BA}(h:l.length=0):nh lk p l:=fun hp=>absurd hp (by omega)
theorem TH {lk:Lk}{f:dF}{tp bp ap:OA}{tc bc ac:Nat}(h:lv lk f tp tc bp bc ap ac)(V:f.Small):m0 TP 81 ⟨[.agg ⟨f.cells tp tc bp bc ap ac⟩]⟩ [] (fun W=>∀b c,lk b c→kY W b c) (DU lk (nn f)):=by
 intro W hm O;cases M:uE f.kind with
 |true=>
  rw[nn,if_pos M];refine(ZR (tp:=tp) (tc:=tc) (bp:=bp) (bc:=bc) (ap:=ap) (ac:=ac) M W hm).mono ?_;rintro e b6 ⟨v,L',b1,a8,b3⟩;exact⟨v,L',b1,a8,none,0,none,0,none,0,b3,JZ⟩
 | false=>
  rw[nn,if_neg (by rw[M];decide)];have M:=of_decide_eq_false M;have c2:=V.tops;have b9:=V.blks;refine Io f tp tc bp bc ap ac [] hm fun B b5=>no (fun a2=>M (.inl a2)) (no (fun a2=>M (.inr (.inl a2))) (no (fun a2=>M (.inr (.inr a2))) ?_))
  refine⟨_,J9 h.tops fun W hm=>fun b c a1=>lK hm b c (O b c a1),by omega,fun a3=>?_,fun b7 B2 cap r a4 b4=>?_⟩
  ·obtain⟨news,n1,n2,a6⟩:=D1 (c:=bc) (L:=_) (w0:=W) h.blks fun W hm=>fun b c a1=>lK hm b c (O b c a1)
   refine⟨news,n1,by omega,fun a5=>H7 O h V a3.symm (aD _) a5 (E6 a3),fun a9 B3 a7 r1 a4 b4=>?_⟩;exact Hs O h V a3.symm (aD _) a4 _ 0 _ _ rfl (a6.mono p6).vO (E6 a3)
  ·obtain⟨news,n1,n2,a6⟩:=D1 (c:=bc) (L:=_) (w0:=W) h.blks fun W hm=>fun b c a1=>lK hm b c (O b c a1)
   refine⟨news,n1,by omega,fun a5=>H7 O h V rfl a4 a5 (DJ au),fun a9 B3 a7 r1 p1 c3=>?_⟩;exact Hs O h V rfl a4 p1 _ 0 _ _ rfl (a6.mono p6).vO (DJ au)
def lu {α:Type}(b:List α)(o:Nat)(s:List α):List α:=b.take o++s++b.drop (o+s.length)
theorem Gz (b:List aa)(o:Nat)(s:List aa):over b o s=lu b o s:=rfl
theorem qw {α:Type}{b:List α}{o:Nat}{s:List α}(h:o+s.length≤b.length):(lu b o s).length=b.length:=by simp[lu];omega
theorem vA {α:Type}(b:List α)(o:Nat):lu b o []=b:=by simp[lu]
theorem vV (b:List UInt8)(o:Nat)(s:List UInt8):over (kU b) o (kU s)=kU (lu b o s):=by
 simp[over,lu,kU]
theorem nV (l:List UInt8):(kU l).length=l.length:=by simp[kU]
theorem Dd {α:Type}{b s:List α}(h:b.length=s.length):lu b 0 s=s:=by simp[lu,ax (by omega:b.length≤s.length)]
structure DS where
 on:Bool
 cut:Nat
 dur:List UInt8
 vis:List UInt8
 pend:List (Nat×BA)
structure mj (d:DS):Prop where
 len:d.dur.length=d.vis.length
 pos:0<d.vis.length
 le:d.vis.length≤4194304
 cut:d.cut≤9223372036854775807
 pend:∀p∈d.pend,p.1+p.2.size≤d.vis.length
def DS.mT (d:DS):DS:=if d.cut=0 then d else if d.cut=1 then {d with on:=false,cut:=0}else {d with cut:=d.cut-1}
def DS.put (d:DS)(o:Nat)(s:BA):DS:={d with pend:=d.pend++[(o,s)],vis:=lu d.vis o (bb s)}
def DS.write (d:DS)(off:Int)(s:BA):Int×DS:=
 if d.on=false then(231,d)else if 0≤off∧off+s.size≤d.vis.length then(0,(d.put off.toNat s).mT)else(230,d)
def DS.sync (d:DS):Int×DS:=if d.on=false then(231,d)else(0,{d with dur:=d.vis,pend:=[]})
def DS.read (d:DS)(off n:Int):BA×Int:=
 if d.on=false then(⟨#[]⟩,231)else if 0≤off∧0≤n∧off+n≤d.vis.length then(⟨((d.vis.drop off.toNat).take n.toNat).toArray⟩,0)else(⟨#[]⟩,230)
def DS.cutAt (d:DS)(n:Int):Int×DS:=
 if d.on=false then(231,d)else if n<0 then(2,d)else if n=0 then(0,{d with on:=false,cut:=0})else(0,{d with cut:=n.toNat})
def ov (p:Nat):List Int→List Bool→Int→List Bool×Int
 |[],sv,last=>(sv,last)
 |n::r,sv,last=>if 0≤n∧n<p then ov p r (sv.set n.toNat true) (if n>last then n else last)else ov p r sv last
def sx (last torn:Int)(i:Nat)(s:BA):List UInt8:=if(i:Int)=last∧0≤torn∧torn<s.size then(bb s).take torn.toNat else bb s
def rE (last torn:Int)(sv:List Bool):Nat→List (Nat×BA)→List UInt8→List UInt8
 |_,[],b=>b
 |i,(o,s)::r,b=>rE last torn sv (i+1) r (if sv.getD i false=true then lu b o (sx last torn i s)else b)
def DS.crashed (d:DS)(lH:List Int)(torn:Int):List UInt8:=
 rE (ov d.pend.length lH (aA d.pend.length false) (-1)).2 torn (ov d.pend.length lH (aA d.pend.length false) (-1)).1 0 d.pend d.dur
def DS.om (d:DS)(lH:List Int)(torn:Int):DS:=
 {on:=true,cut:=0,dur:=d.crashed lH torn,vis:=d.crashed lH torn,pend:=[]}
theorem Yb (last torn:Int)(i:Nat)(s:BA):(sx last torn i s).length≤s.size:=by
 unfold sx;split
 ·rw[ao];exact Nat.min_le_right _ _
 ·exact aD _
theorem Nq (last torn:Int)(M:List Bool):∀(r:List (Nat×BA)) (i:Nat) (b:List UInt8),(∀p∈r,p.1+p.2.size≤b.length)→(rE last torn M i r b).length=b.length
 |[],_,_,_=>rfl
 | (o,s)::r,i,b,h=>by
  have V:=h (o,s) (by simp);have a1:=Yb last torn i s;have O:(if M.getD i false=true then lu b o (sx last torn i s)else b).length=b.length:=by
   split
   ·exact qw (by simp at V;omega)
   ·rfl
  rw[rE,Nq last torn M r (i+1) _ (fun p hp=>by rw[O];exact h p (by simp[hp])),O]
theorem mj.mT {d:DS}(h:mj d):mj d.mT:=by
 unfold DS.mT;split
 ·exact h
 ·split
  ·exact⟨h.len,h.pos,h.le,by simp,h.pend⟩
  ·exact⟨h.len,h.pos,h.le,by have:=h.cut;simp only;omega,h.pend⟩
theorem mj.put {d:DS}(h:mj d){o:Nat}{s:BA}(O:o+s.size≤d.vis.length):mj (d.put o s):=by
 have M:(lu d.vis o (bb s)).length=d.vis.length:=qw O;refine⟨by simp only[DS.put,M,h.len],by simp only[DS.put,M,h.pos],by simp only[DS.put,M,h.le],h.cut,fun p hp=>?_⟩;simp only[DS.put,M]at hp ⊢;rcases cn.1 hp with hp|hp
 ·exact h.pend p hp
 ·simp at hp;subst hp;exact O
theorem mj.write {d:DS}(h:mj d)(off:Int)(s:BA):mj (d.write off s).2:=by
 unfold DS.write;split
 ·exact h
 ·split
  ·next hh=>exact mj.mT (mj.put h (by omega))
  ·exact h
theorem mj.sync {d:DS}(h:mj d):mj d.sync.2:=by
 unfold DS.sync;split
 ·exact h
 ·exact⟨rfl,h.pos,h.le,h.cut,fun p hp=>by cases hp⟩
theorem mj.cutAt {d:DS}(h:mj d){n:Int}(hn:n≤9223372036854775807):mj (d.cutAt n).2:=by
 unfold DS.cutAt
 repeat' split
 ·exact h
 ·exact h
 ·exact⟨h.len,h.pos,h.le,by simp,h.pend⟩
 ·exact⟨h.len,h.pos,h.le,by simp only;omega,h.pend⟩
theorem DR {d:DS}(h:mj d)(lH:List Int)(torn:Int):(d.crashed lH torn).length=d.vis.length:=by
 rw[DS.crashed,Nq _ _ _ _ _ _ (fun p hp=>by rw[h.len];exact h.pend p hp),h.len]
theorem mj.om {d:DS}(h:mj d)(lH:List Int)(torn:Int):mj (d.om lH torn):=by
 have M:=DR h lH torn;exact⟨rfl,by simp only[DS.om,M,h.pos],by simp only[DS.om,M,h.le],by simp[DS.om],fun p hp=>by cases hp⟩
theorem Gh (p:Nat):∀(l:List Int) (M:List Bool) (last:Int),(ov p l M last).1.length=M.length
 |[],_,_=>rfl
 |n::r,M,last=>by
  unfold ov;split
  ·rw[Gh,hP]
  ·rw[Gh]
def mm (l:List (Nat×BA)):List aa:=l.flatMap fun p=>[.int .i64 (p.1:Int),.string p.2]
theorem yG (l:List (Nat×BA)):(mm l).length=l.length*2:=by
 induction l with
 |nil=>rfl
 |cons p r ih=>simp only[mm,List.flatMap_cons,ae]at*;simp only[List.length_cons,List.length_nil,ih];omega
theorem D6 (a b:List (Nat×BA)):mm (a++b)=mm a++mm b:=by simp[mm]
theorem EI:∀(l:List (Nat×BA)) (i:Nat) (h:i<l.length),((mm l).drop (i*2)).take 2=[.int .i64 (l[i].1:Int),.string l[i].2]
 |p::r,0,_=>by simp[mm]
 |p::r,i+1,h=>by
  have:(i+1)*2=2+i*2:=by omega
  have M:mm (p::r)=[.int .i64 (p.1:Int),.string p.2]++mm r:=by simp[mm]
  rw[this,←cV,M,List.drop_left' (by rfl)];simpa using EI r i (by simpa using h)
abbrev sn (T:Nat)(D DB VB n:Nat)(on:Bool)(cut:Int)(pv:aa):Nat×Obj:=
 (D,.cells #[.bool on,.int .i64 cut,.slice (SO DB) n n,.slice (SO VB) n n,pv] T)
def Y1 (td tb tw:Nat)(D:Nat)(d:DS)(F:aX):Prop:=
 mj d∧∃DB VB:Nat,
  (d.pend=[]∧F=[sn td D DB VB d.vis.length d.on d.cut (.slice none 0 0),(DB,.cells ⟨kU d.dur⟩ tb),(VB,.cells ⟨kU d.vis⟩ tb)])∨
  ∃(PB pc:Nat) (r:List aa),d.pend.length≤pc∧(mm d.pend++r).length=pc*2∧
   F=[sn td D DB VB d.vis.length d.on d.cut (.slice (SO PB) d.pend.length pc),(DB,.cells ⟨kU d.dur⟩ tb),(VB,.cells ⟨kU d.vis⟩ tb),(PB,.cells ⟨mm d.pend++r⟩ tw)]
theorem DK.fin {K:aa→aX→Prop}{L:aX}{S:List Nat}{W:aj}{v:aa}(h:K v L):Fin (fun e M=>∃v L',e=.returned v∧Mem L' S W M∧K v L') L S W v:=
 fun _ hm=>⟨v,L,rfl,hm,h⟩
theorem DK.tj (O:List Nat){K:aa→aX→Prop}{L L':aX}{S:List Nat}{W:aj}{v:aa}(M:(nE L O,o5 O)=(L',true))(h:K v L'):
  Fin (fun e V=>∃v L',e=.returned v∧Mem L' S W V∧K v L') L S W v:=by
 simp only[af]at M;obtain⟨rfl,a1⟩:=M;exact fun _ hm=>⟨v,_,rfl,hm.vB (rY a1),h⟩
abbrev zD1aa (a:Bool)(b:Int)(x2 x3 x4:Nat):Array aa:= #[.bool a,IV b,.slice (SO x2) x3 x3,.slice (SO x4) x3 x3,.slice none 0 0]
abbrev zD1ab (a:Bool)(b:Int)(x2 x3 x4 x5 c d:Nat):Array aa:= #[.bool a,IV b,.slice (SO x2) x3 x3,.slice (SO x4) x3 x3,.slice (SO x5) c d]
abbrev yD1aa (b:Bool)(c:Int)(x2 x3:List aa)(x4 x5 d a:Nat):aX:=[(x4,.cells (zD1aa b c x5 d a) 82),(x5,.cells ⟨x2⟩ 5),(a,.cells ⟨x3⟩ 5)]
abbrev yD1ab (d:Bool)(e:Int)(x2 x3 x4:List aa)(x5 a h b c f g:Nat):aX:=[(x5,.cells (zD1ab d e a h b c f g) 82),(a,.cells ⟨x2⟩ 5),(b,.cells ⟨x3⟩ 5),(c,.cells ⟨x4⟩ 111)]
theorem ZL (a:Nat)(f:Bool)(cut:Int)(c b d:Nat)(e g:List aa)(hm:Mem (yD1aa f cut e g a c b d) S w0 W)(H:VP S w0 R (.ru [17,200]<|.li 2 2 (b:Int) fun h=>.re 1 (IV h) (yD1aa f cut e g a c b d))):aE TP 42 ⟨[PP a]⟩ W R:=VC.cs bZ hm _ H
theorem Rt (a:Nat)(g:Bool)(cut:Int)(c b e:Nat)(f k:List aa)(d j h:Nat)(i:List aa)(hm:Mem (yD1ab g cut f k i a c b e d j h) S w0 W)(H:VP S w0 R (.ru [17,200]<|.li 2 2 (b:Int) fun l=>.re 1 (IV l) (yD1ab g cut f k i a c b e d j h))):aE TP 42 ⟨[PP a]⟩ W R:=VC.cs bZ hm _ H
theorem T0 (b:Nat)(e:Bool)(cut:Int)(g a d:Nat)(i f:List aa)(off n1:Int)(hm:Mem (yD1aa e cut i f b g a d) S w0 W)(H:VP S w0 R (.hp (yD1aa e cut i f b g a d) fun c=>.il 9 eu [PP b]<|.il 8 bZ [PP b]<|.ru [17,200]<|.li 2 2 (a:Int) fun k=>.rk 1<|.P 2 5 (k=0) (.rk 5<|.re 14 (.tuple #[sZ,IV 1]) c)<|.ru [9,200]<|.B 0 10 e (.rk 8<|.il 15 gW [PP b,IV off,IV n1]<|.P 9 9 (0≤off) (.P 4 13 (0≤n1) (.il 2 bZ [PP b]<|.ru [17,200]<|.li 2 2 (a:Int) fun l=>.rk 1<|.P 3 19 (n1≤l) (.il 2 bZ [PP b]<|.ru [17,200]<|.li 2 2 (a:Int) fun m=>.rk 1<|.rk 6<|.I 2 18 (off≤(ab.wrap (m-n1))) (.re 6 (.tuple #[sZ,IV 230]) c)<|.ru [7,200]<|.r 4<|.sO d 0 a a 1 ((ad (ab.wrap (off+n1)))-(ad off)) (a-(ad off)) (some (IV off)) (some (IV (ab.wrap (off+n1)))) off (ab.wrap (off+n1)) fun(j:Nat)=>.ex fun(h:List UInt8)=>.tG 2 d 5 j ((ad (ab.wrap (off+n1)))-(ad off)) (a-(ad off)) f h<|.ls 1 6 (⟨h.toArray⟩) fun n=>.re 2 (kCjq n) c)<|.rk 9<|.re 8 (.tuple #[sZ,IV 230]) c)<|.rk 15<|.re 8 (.tuple #[sZ,IV 230]) c)<|.rk 19<|.re 8 (.tuple #[sZ,IV 230]) c)<|.rk 7<|.re 14 (.tuple #[sZ,IV 231]) c)):aE TP 43 ⟨[PP b,IV off,IV n1]⟩ W R:=VC.cs Tryz.func43 hm _ H
theorem Y6 (b:Nat)(e:Bool)(cut:Int)(g a d:Nat)(j f:List aa)(h m k:Nat)(l:List aa)(off n1:Int)(hm:Mem (yD1ab e cut j f l b g a d h m k) S w0 W)(H:VP S w0 R (.hp (yD1ab e cut j f l b g a d h m k) fun c=>.il 9 eu [PP b]<|.il 8 bZ [PP b]<|.ru [17,200]<|.li 2 2 (a:Int) fun o=>.rk 1<|.P 2 5 (o=0) (.rk 5<|.re 14 (.tuple #[sZ,IV 1]) c)<|.ru [9,200]<|.B 0 10 e (.rk 8<|.il 15 gW [PP b,IV off,IV n1]<|.P 9 9 (0≤off) (.P 4 13 (0≤n1) (.il 2 bZ [PP b]<|.ru [17,200]<|.li 2 2 (a:Int) fun p=>.rk 1<|.P 3 19 (n1≤p) (.il 2 bZ [PP b]<|.ru [17,200]<|.li 2 2 (a:Int) fun q=>.rk 1<|.rk 6<|.I 2 18 (off≤(ab.wrap (q-n1))) (.re 6 (.tuple #[sZ,IV 230]) c)<|.ru [7,200]<|.r 4<|.sO d 0 a a 1 ((ad (ab.wrap (off+n1)))-(ad off)) (a-(ad off)) (some (IV off)) (some (IV (ab.wrap (off+n1)))) off (ab.wrap (off+n1)) fun(n:Nat)=>.ex fun(i:List UInt8)=>.tG 2 d 5 n ((ad (ab.wrap (off+n1)))-(ad off)) (a-(ad off)) f i<|.ls 1 6 (⟨i.toArray⟩) fun s=>.re 2 (kCjq s) c)<|.rk 9<|.re 8 (.tuple #[sZ,IV 230]) c)<|.rk 15<|.re 8 (.tuple #[sZ,IV 230]) c)<|.rk 19<|.re 8 (.tuple #[sZ,IV 230]) c)<|.rk 7<|.re 14 (.tuple #[sZ,IV 231]) c)):aE TP 43 ⟨[PP b,IV off,IV n1]⟩ W R:=VC.cs Tryz.func43 hm _ H
theorem Px (b:Nat)(g:Bool)(cut:Int)(c a d:Nat)(f e:List aa)(hm:Mem (yD1aa g cut f e b c a d) S w0 W)(H:VP S w0 R (.hp (yD1aa g cut f e b c a d) fun h=>.il 8 eu [PP b]<|.il 8 bZ [PP b]<|.ru [17,200]<|.li 2 2 (a:Int) fun i=>.rk 1<|.P 2 5 (i=0) (.rk 5<|.re 13 (IV 1) h)<|.ru [9,200]<|.B 0 10 g (.rk 8<|.r 10<|.dr 8<|.qu [3,100,3,100]<|.dn<|.cO 1 c 0 a a 2 d 0 a a 47 5 f (((e).drop 0).take (min a a))<|.il 4 gg [PP b]<|.ru [5,200,7,200,3,200]<|.rk 1<|.re 5 (IV 0) [(b,.cells (zD1aa g cut c a d) 82),(c,.cells ⟨(over (f) 0 (((e).drop 0).take (min a a)))⟩ 5),(d,.cells ⟨e⟩ 5)])<|.rk 7<|.re 13 (IV 231) h)):aE TP 68 ⟨[PP b]⟩ W R:=VC.cs Tryz.func68 hm _ H
theorem RO (b:Nat)(j:Bool)(cut:Int)(e a f:Nat)(i h:List aa)(c g d:Nat)(k:List aa)(hm:Mem (yD1ab j cut i h k b e a f c g d) S w0 W)(H:VP S w0 R (.hp (yD1ab j cut i h k b e a f c g d) fun l=>.il 8 eu [PP b]<|.il 8 bZ [PP b]<|.ru [17,200]<|.li 2 2 (a:Int) fun m=>.rk 1<|.P 2 5 (m=0) (.rk 5<|.re 13 (IV 1) l)<|.ru [9,200]<|.B 0 10 j (.rk 8<|.r 10<|.dr 8<|.qu [3,100,3,100]<|.dn<|.cO 1 e 0 a a 2 f 0 a a 47 5 i (((h).drop 0).take (min a a))<|.il 4 gg [PP b]<|.ru [5,200]<|.cR 3 c 0 g d 80 111 (.agg #[IV 0,sZ]) 2 24 k<|.ru [6,200]<|.sL c 0 g d 2 0 (ad 0) d none (some (IV 0)) 0 0<|.ru [2,200]<|.rk 1<|.re 5 (IV 0) [(b,.cells #[.bool j,IV cut,.slice (SO e) a a,.slice (SO f) a a,.slice (SO c) (ad 0) d] 82),(e,.cells ⟨(over (i) 0 (((h).drop 0).take (min a a)))⟩ 5),(f,.cells ⟨h⟩ 5),(c,.cells ⟨(over (k) 0 (ox #[IV 0,sZ] g))⟩ 111)])<|.rk 7<|.re 13 (IV 231) l)):aE TP 68 ⟨[PP b]⟩ W R:=VC.cs Tryz.func68 hm _ H
theorem YV (a:Nat)(f:Bool)(cut:Int)(c b d:Nat)(e g:List aa)(n1:Int)(hm:Mem (yD1aa f cut e g a c b d) S w0 W)(H:VP S w0 R (.hp (yD1aa f cut e g a c b d) fun h=>.il 8 eu [PP a]<|.il 8 bZ [PP a]<|.ru [17,200]<|.li 2 2 (b:Int) fun i=>.rk 1<|.P 2 5 (i=0) (.rk 5<|.re 13 (IV 1) h)<|.ru [9,200]<|.B 0 10 f (.rk 8<|.P 15 12 (n1<0) (.re 5 (IV 2) h)<|.P 8 14 (n1=0) (.il 6 gX [PP a]<|.ru [5,200,2,200]<|.rk 1<|.re 5 (IV 0) [(a,.cells #[.bool false,IV 0,.slice (SO c) b b,.slice (SO d) b b,.slice none 0 0] 82),(c,.cells ⟨e⟩ 5),(d,.cells ⟨g⟩ 5)])<|.ru [9,200]<|.re 5 (IV 0) (yD1aa f n1 e g a c b d))<|.rk 7<|.re 13 (IV 231) h)):aE TP 29 ⟨[PP a,IV n1]⟩ W R:=VC.cs Tryz.func29 hm _ H
theorem Ux (a:Nat)(g:Bool)(cut:Int)(c b e:Nat)(f k:List aa)(d j h:Nat)(i:List aa)(n1:Int)(hm:Mem (yD1ab g cut f k i a c b e d j h) S w0 W)(H:VP S w0 R (.hp (yD1ab g cut f k i a c b e d j h) fun l=>.il 8 eu [PP a]<|.il 8 bZ [PP a]<|.ru [17,200]<|.li 2 2 (b:Int) fun m=>.rk 1<|.P 2 5 (m=0) (.rk 5<|.re 13 (IV 1) l)<|.ru [9,200]<|.B 0 10 g (.rk 8<|.P 15 12 (n1<0) (.re 5 (IV 2) l)<|.P 8 14 (n1=0) (.il 6 gX [PP a]<|.ru [5,200,2,200]<|.rk 1<|.re 5 (IV 0) [(a,.cells #[.bool false,IV 0,.slice (SO c) b b,.slice (SO e) b b,.slice (SO d) j h] 82),(c,.cells ⟨f⟩ 5),(e,.cells ⟨k⟩ 5),(d,.cells ⟨i⟩ 111)])<|.ru [9,200]<|.re 5 (IV 0) (yD1ab g n1 f k i a c b e d j h))<|.rk 7<|.re 13 (IV 231) l)):aE TP 29 ⟨[PP a,IV n1]⟩ W R:=VC.cs Tryz.func29 hm _ H
abbrev kDwq (x0 x1 x2):=((x0,.cells #[IV x1,.string x2] 111):Nat×Obj)
theorem SV (c:Nat)(j:Bool)(cut:Int)(e a d:Nat)(i h:List aa)(off:Int)(b:BA)(hm:Mem (yD1aa j cut i h c e a d) S w0 W)(H:VP S w0 R (.hp (yD1aa j cut i h c e a d) fun g=>.il 8 eu [PP c]<|.il 8 bZ [PP c]<|.ru [17,200]<|.li 2 2 (a:Int) fun n=>.rk 1<|.P 2 5 (n=0) (.rk 5<|.re 13 (IV 1) g)<|.ru [9,200]<|.B 0 10 j (.rk 8<|.il 16 gW [PP c,IV off,IV (b.size:Int)]<|.P 9 9 (0≤off) (.P 4 13 (0≤(b.size:Int)) (.il 2 bZ [PP c]<|.ru [17,200]<|.li 2 2 (a:Int) fun o=>.rk 1<|.P 3 19 ((b.size:Int)≤o) (.il 2 bZ [PP c]<|.ru [17,200]<|.li 2 2 (a:Int) fun p=>.rk 1<|.rk 6<|.I 2 18 (off≤(ab.wrap (p-(b.size:Int)))) (.re 5 (IV 230) g)<|.ru [8,200]<|.r 3<|.ns false 1 (.cells #[IV off,.string b] 111) fun B=>.aN false 3 B 0 1 1 80 111 2 24 [IV off,.string b] fun(f l:Nat) (m:List aa)=>.ru [2,200,6,200]<|.r 1<|.sO d 0 a a 1 (a-(ad off)) (a-(ad off)) (some (IV off)) none off (a:Int) fun(k:Nat)=>.r 1<|.cS 2 d k (a-(ad off)) (a-(ad off)) 47 5 9 b h<|.il 6 Tryz.func63 [PP c]<|.ru [6,200]<|.P 2 6 (cut=0) (.rk 1<|.re 5 (IV 0) [(c,.cells #[.bool j,IV cut,.slice (SO e) a a,.slice (SO d) a a,.slice (SO f) 1 l] 82),(e,.cells ⟨i⟩ 5),(d,.cells ⟨(over (h) k (kU (b.data.toList.take (a-(ad off)))))⟩ 5),(kDwq B off b),(f,.cells ⟨(([IV off,.string b]:List aa)++m)⟩ 111)])<|.ru [7,200,3,200,6,200]<|.P 2 18 ((ab.wrap (cut-1))=0) (.il 3 gX [PP c]<|.ru [5,200,2,200]<|.rk 1<|.rk 1<|.re 5 (IV 0) [(c,.cells #[.bool false,IV 0,.slice (SO e) a a,.slice (SO d) a a,.slice (SO f) 1 l] 82),(e,.cells ⟨i⟩ 5),(d,.cells ⟨(over (h) k (kU (b.data.toList.take (a-(ad off)))))⟩ 5),(kDwq B off b),(f,.cells ⟨(([IV off,.string b]:List aa)++m)⟩ 111)])<|.rk 2<|.re 5 (IV 0) [(c,.cells #[.bool j,IV (ab.wrap (cut-1)),.slice (SO e) a a,.slice (SO d) a a,.slice (SO f) 1 l] 82),(e,.cells ⟨i⟩ 5),(d,.cells ⟨(over (h) k (kU (b.data.toList.take (a-(ad off)))))⟩ 5),(kDwq B off b),(f,.cells ⟨(([IV off,.string b]:List aa)++m)⟩ 111)])<|.rk 9<|.re 7 (IV 230) g)<|.rk 15<|.re 7 (IV 230) g)<|.rk 19<|.re 7 (IV 230) g)<|.rk 7<|.re 13 (IV 231) g)):aE TP 22 ⟨[PP c,IV off,.string b]⟩ W R:=VC.cs Tryz.func22 hm _ H
theorem Vf (c:Nat)(l:Bool)(cut:Int)(f a d:Nat)(k j:List aa)(n e p:Nat)(i:List aa)(off:Int)(b:BA)(hm:Mem (yD1ab l cut k j i c f a d n e p) S w0 W)(H:VP S w0 R (.hp (yD1ab l cut k j i c f a d n e p) fun h=>.il 8 eu [PP c]<|.il 8 bZ [PP c]<|.ru [17,200]<|.li 2 2 (a:Int) fun s=>.rk 1<|.P 2 5 (s=0) (.rk 5<|.re 13 (IV 1) h)<|.ru [9,200]<|.B 0 10 l (.rk 8<|.il 16 gW [PP c,IV off,IV (b.size:Int)]<|.P 9 9 (0≤off) (.P 4 13 (0≤(b.size:Int)) (.il 2 bZ [PP c]<|.ru [17,200]<|.li 2 2 (a:Int) fun t=>.rk 1<|.P 3 19 ((b.size:Int)≤t) (.il 2 bZ [PP c]<|.ru [17,200]<|.li 2 2 (a:Int) fun u=>.rk 1<|.rk 6<|.I 2 18 (off≤(ab.wrap (u-(b.size:Int)))) (.re 5 (IV 230) h)<|.ru [8,200]<|.r 3<|.ns false 1 (.cells #[IV off,.string b] 111) fun B=>.aO false 3 n e p i 4 B 0 1 1 80 111 2 24 [IV off,.string b] fun(g o:Nat) (q:List aa)=>.ru [2,200,6,200]<|.r 1<|.sO d 0 a a 1 (a-(ad off)) (a-(ad off)) (some (IV off)) none off (a:Int) fun(m:Nat)=>.r 1<|.cS 2 d m (a-(ad off)) (a-(ad off)) 47 5 9 b j<|.il 6 Tryz.func63 [PP c]<|.ru [6,200]<|.P 2 6 (cut=0) (.rk 1<|.re 5 (IV 0) [(c,.cells #[.bool l,IV cut,.slice (SO f) a a,.slice (SO d) a a,.slice (SO g) (e+1) o] 82),(f,.cells ⟨k⟩ 5),(d,.cells ⟨(over (j) m (kU (b.data.toList.take (a-(ad off)))))⟩ 5),(kDwq B off b),(g,.cells ⟨((i).take (e*2)++([IV off,.string b]:List aa)++q)⟩ 111)])<|.ru [7,200,3,200,6,200]<|.P 2 18 ((ab.wrap (cut-1))=0) (.il 3 gX [PP c]<|.ru [5,200,2,200]<|.rk 1<|.rk 1<|.re 5 (IV 0) [(c,.cells #[.bool false,IV 0,.slice (SO f) a a,.slice (SO d) a a,.slice (SO g) (e+1) o] 82),(f,.cells ⟨k⟩ 5),(d,.cells ⟨(over (j) m (kU (b.data.toList.take (a-(ad off)))))⟩ 5),(kDwq B off b),(g,.cells ⟨((i).take (e*2)++([IV off,.string b]:List aa)++q)⟩ 111)])<|.rk 2<|.re 5 (IV 0) [(c,.cells #[.bool l,IV (ab.wrap (cut-1)),.slice (SO f) a a,.slice (SO d) a a,.slice (SO g) (e+1) o] 82),(f,.cells ⟨k⟩ 5),(d,.cells ⟨(over (j) m (kU (b.data.toList.take (a-(ad off)))))⟩ 5),(kDwq B off b),(g,.cells ⟨((i).take (e*2)++([IV off,.string b]:List aa)++q)⟩ 111)])<|.rk 9<|.re 7 (IV 230) h)<|.rk 15<|.re 7 (IV 230) h)<|.rk 19<|.re 7 (IV 230) h)<|.rk 7<|.re 13 (IV 231) h)):aE TP 22 ⟨[PP c,IV off,.string b]⟩ W R:=VC.cs Tryz.func22 hm _ H
abbrev mV (D:Nat)(d:DS)(F:aX):Prop:=Y1 82 5 111 D d F
abbrev DP (D:Nat):aa:=.pointer (SO D)
def rT (D:Nat)(v:aa)(d:DS):aa→aX→Prop:=fun u F=>u=v∧mV D d F
theorem A6 {D:Nat}{d:DS}{F:aX}(h:mV D d F):lP TP 42 ⟨[DP D]⟩ F (rT D (.int .i64 d.vis.length) d):=by
 obtain⟨a1,M,O,⟨hp,rfl⟩|⟨V,a2,r,a3,a4,rfl⟩⟩:=h<;>intro W hm
 ·refine ZL D _ _ M _ O _ _ hm ?_
  rintro _ rfl;exact DK.fin ⟨rfl,a1,M,O,.inl ⟨hp,rfl⟩⟩
 ·refine Rt D _ _ M _ O _ _ V _ a2 _ hm ?_
  rintro _ rfl;exact DK.fin ⟨rfl,a1,M,O,.inr ⟨V,a2,r,a3,a4,rfl⟩⟩
theorem Qi {D:Nat}{d:DS}{F:aX}(h:mV D d F){n:Int}(hn:n≤9223372036854775807):lP TP 29 ⟨[DP D,.int .i64 n]⟩ F (rT D (.int .i64 (d.cutAt n).1) (d.cutAt n).2):=by
 have M:=mj.cutAt h.1 hn;unfold DS.cutAt at M ⊢;obtain⟨a4,V,a1,⟨hp,rfl⟩|⟨a5,a6,r,a7,a8,rfl⟩⟩:=h<;>intro W hm
 ·refine YV D _ _ V _ a1 _ _ n hm ?_
  have:=a4.pos;rintro _ rfl;refine⟨fun h=>absurd h (by omega),fun _=>⟨fun a3=>?_,fun a3=>?_⟩⟩
  ·rw[if_neg (by simp[a3])]at M ⊢
   refine⟨fun O=>?_,fun O=>⟨fun a2=>?_,fun a2=>?_⟩⟩
   ·rw[if_pos O];exact DK.fin ⟨rfl,a4,V,a1,.inl ⟨hp,rfl⟩⟩
   ·rw[if_neg O,if_pos a2]at M ⊢
    exact DK.fin ⟨rfl,M,V,a1,.inl ⟨hp,rfl⟩⟩
   ·rw[if_neg O,if_neg a2]at M ⊢
    refine DK.fin ⟨rfl,M,V,a1,.inl ⟨hp,?_⟩⟩;simp only[dM (Int.not_lt.1 O)]
  ·rw[if_pos a3];exact DK.fin ⟨rfl,a4,V,a1,.inl ⟨hp,rfl⟩⟩
 ·refine Ux D _ _ V _ a1 _ _ a5 _ a6 _ n hm ?_
  have:=a4.pos;rintro _ rfl;refine⟨fun h=>absurd h (by omega),fun _=>⟨fun a3=>?_,fun a3=>?_⟩⟩
  ·rw[if_neg (by simp[a3])]at M ⊢
   refine⟨fun O=>?_,fun O=>⟨fun a2=>?_,fun a2=>?_⟩⟩
   ·rw[if_pos O];exact DK.fin ⟨rfl,a4,V,a1,.inr ⟨a5,a6,r,a7,a8,rfl⟩⟩
   ·rw[if_neg O,if_pos a2]at M ⊢
    exact DK.fin ⟨rfl,M,V,a1,.inr ⟨a5,a6,r,a7,a8,rfl⟩⟩
   ·rw[if_neg O,if_neg a2]at M ⊢
    refine DK.fin ⟨rfl,M,V,a1,.inr ⟨a5,a6,r,a7,a8,?_⟩⟩;simp only[dM (Int.not_lt.1 O)]
  ·rw[if_pos a3];exact DK.fin ⟨rfl,a4,V,a1,.inr ⟨a5,a6,r,a7,a8,rfl⟩⟩
theorem H8 {d:DS}{off n:Int}(h:0≤off∧0≤n∧off+n≤d.vis.length){o:Nat}(M:o=(if off.toNat=d.vis.length then 0 else 0+off.toNat*1)):
  (((kU d.vis).drop o).take ((off+n).toNat-off.toNat)=kU ((d.vis.drop off.toNat).take n.toNat)∧((d.vis.drop off.toNat).take n.toNat).length=(off+n).toNat-off.toNat):=by
 have e:(off+n).toNat-off.toNat=n.toNat:=by omega
 rw[e];constructor
 ·by_cases hc:off.toNat=d.vis.length
  ·have:n.toNat=0:=by omega
   simp[this,kU]
  ·rw[if_neg hc]at M
   rw[M];simp[kU]
 ·simp;omega
theorem FQ {D:Nat}{d:DS}{F:aX}(h:mV D d F){off n:Int}(b6: -9223372036854775808≤off∧off≤9223372036854775807):
  lP TP 43 ⟨[DP D,.int .i64 off,.int .i64 n]⟩ F (rT D (.tuple #[.string (d.read off n).1,.int .i64 (d.read off n).2]) d):=by
 unfold DS.read;have b7:=h.1.pos;have a6:=h.1.le;have key:∀L,mV D d L→∀S W,((d.on=true)→¬(0≤off∧0≤n∧off+n≤d.vis.length)→Fin (fun e a7=>∃v L',e=.returned v∧Mem L' S W a7∧rT D (.tuple #[.string (if d.on=false then(⟨#[]⟩,231)else if 0≤off∧0≤n∧off+n≤d.vis.length then(⟨((d.vis.drop off.toNat).take n.toNat).toArray⟩,0)else(⟨#[]⟩,230):BA×Int).1,.int .i64 (if d.on=false then(⟨#[]⟩,231)else if 0≤off∧0≤n∧off+n≤d.vis.length then(⟨((d.vis.drop off.toNat).take n.toNat).toArray⟩,0)else(⟨#[]⟩,230):BA×Int).2]) d v L') L S W (.tuple #[.string (⟨#[]⟩),.int .i64 (230:Int)]))∧
   ((d.on=false)→Fin (fun e a7=>∃v L',e=.returned v∧Mem L' S W a7∧rT D (.tuple #[.string (if d.on=false then(⟨#[]⟩,231)else if 0≤off∧0≤n∧off+n≤d.vis.length then(⟨((d.vis.drop off.toNat).take n.toNat).toArray⟩,0)else(⟨#[]⟩,230):BA×Int).1,.int .i64 (if d.on=false then(⟨#[]⟩,231)else if 0≤off∧0≤n∧off+n≤d.vis.length then(⟨((d.vis.drop off.toNat).take n.toNat).toArray⟩,0)else(⟨#[]⟩,230):BA×Int).2]) d v L') L S W (.tuple #[.string (⟨#[]⟩),.int .i64 (231:Int)])):=by
  intro L b1 S W;refine⟨fun M a4=>DK.fin ?_,fun M=>DK.fin ?_⟩
  ·rw[if_neg (by simp[M]),if_neg a4];exact⟨rfl,b1⟩
  ·rw[if_pos M];exact⟨rfl,b1⟩
 obtain⟨b3,V,a1,⟨hp,rfl⟩|⟨a5,a9,r,b4,b5,rfl⟩⟩:=h<;>intro W hm
 ·have a3:mV D d _:=⟨b3,V,a1,.inl ⟨hp,rfl⟩⟩
  have O:=key _ a3 (jA (·.1) [sn 82 D V a1 d.vis.length d.on d.cut (.slice none 0 0),(V,.cells ⟨kU d.dur⟩ 5),(a1,.cells ⟨kU d.vis⟩ 5)]) W;refine T0 D _ _ V _ a1 _ _ off n hm ?_;rintro _ rfl;refine⟨fun h=>absurd h (by omega),fun _=>⟨fun M=>⟨fun a2=>⟨fun hn=>?_,fun hn=>O.1 M (by omega)⟩,fun a2=>O.1 M (by omega)⟩,fun M=>O.2 M⟩⟩;rintro _ rfl;refine⟨fun a6=>?_,fun a6=>O.1 M (by omega)⟩;rintro _ rfl
  try dsimp only
  rw[kS (by omega)];refine⟨fun a4=>O.1 M (by omega),fun a4=>?_⟩
  try dsimp only
  rw[kS (by omega)];refine⟨by omega,?_⟩;intro o a8;refine⟨_,H8 ⟨a2,hn,by omega⟩ a8,?_⟩;rintro _ rfl;refine DK.fin ?_;rw[if_neg (by simp[M]),if_pos ⟨a2,hn,by omega⟩];exact⟨rfl,a3⟩
 ·have a3:mV D d _:=⟨b3,V,a1,.inr ⟨a5,a9,r,b4,b5,rfl⟩⟩
  have O:=key _ a3 (jA (·.1) [sn 82 D V a1 d.vis.length d.on d.cut (.slice (SO a5) d.pend.length a9),(V,.cells ⟨kU d.dur⟩ 5),(a1,.cells ⟨kU d.vis⟩ 5),(a5,.cells ⟨mm d.pend++r⟩ 111)]) W;refine Y6 D _ _ V _ a1 _ _ a5 _ a9 _ off n hm ?_;rintro _ rfl;refine⟨fun h=>absurd h (by omega),fun _=>⟨fun M=>⟨fun a2=>⟨fun hn=>?_,fun hn=>O.1 M (by omega)⟩,fun a2=>O.1 M (by omega)⟩,fun M=>O.2 M⟩⟩;rintro _ rfl;refine⟨fun a6=>?_,fun a6=>O.1 M (by omega)⟩;rintro _ rfl
  try dsimp only
  rw[kS (by omega)];refine⟨fun a4=>O.1 M (by omega),fun a4=>?_⟩
  try dsimp only
  rw[kS (by omega)];refine⟨by omega,?_⟩;intro o a8;refine⟨_,H8 ⟨a2,hn,by omega⟩ a8,?_⟩;rintro _ rfl;refine DK.fin ?_;rw[if_neg (by simp[M]),if_pos ⟨a2,hn,by omega⟩];exact⟨rfl,a3⟩
theorem GI {d:DS}(M:mj d):over (kU d.dur) 0 (((kU d.vis).drop 0).take (min d.vis.length d.vis.length))=kU d.vis:=by
 rw[jk,aU,aK (by rw[nV];exact aD _),vV,Dd M.len]
theorem NM {l:List (Nat×BA)}{r:List aa}{M:Nat}(h:(mm l++r).length=M*2):
  (mm []++over (mm l++r) 0 (ox #[.int .i64 (0:Int),.string (⟨#[]⟩)] l.length)).length=M*2:=by
 have e:mm []=[]:=rfl;have hn:(ox #[.int .i64 (0:Int),.string (⟨#[]⟩)] l.length).length=l.length*2:=Dc _ _;have hp:=yG l;rw[ae]at h;rw[e,List.nil_append,wm (by rw[hn,ae];omega),ae,h]
theorem TR {D:Nat}{d:DS}{F:aX}(h:mV D d F):lP TP 68 ⟨[DP D]⟩ F (rT D (.int .i64 d.sync.1) d.sync.2):=by
 have a1:=mj.sync h.1;unfold DS.sync at a1 ⊢;have b3:=h.1.pos;have a4:(((kU d.vis).drop 0).take (min d.vis.length d.vis.length)).length=min d.vis.length d.vis.length:=by
  rw[ao,aU,nV];omega
 have a8:∀u∈(((kU d.vis).drop 0).take (min d.vis.length d.vis.length)),u.oneCell'=true:=fun u b1=>zd _ u (List.mem_of_mem_drop (List.mem_of_mem_take b1))
 have a7:0+(((kU d.vis).drop 0).take (min d.vis.length d.vis.length)).length≤(kU d.dur).length:=by rw[a4,nV,h.1.len];omega
 obtain⟨a2,O,V,⟨hp,rfl⟩|⟨a3,a5,r,a9,a6,rfl⟩⟩:=h<;>intro W hm
 ·refine Px D _ _ O _ V _ _ hm ?_
  rintro _ rfl;refine⟨fun h=>absurd h (by omega),fun _=>⟨fun M=>⟨a4,a8,a7,?_⟩,fun M=>?_⟩⟩
  ·rw[if_neg (by simp[M])]at a1 ⊢
   rw[GI a2];exact DK.fin ⟨rfl,a1,O,V,.inl ⟨rfl,rfl⟩⟩
  ·rw[if_pos M];exact DK.fin ⟨rfl,a2,O,V,.inl ⟨hp,rfl⟩⟩
 ·refine RO D _ _ O _ V _ _ a3 _ a5 _ hm ?_
  rintro _ rfl;refine⟨fun h=>absurd h (by omega),fun _=>⟨fun M=>⟨a4,a8,a7,by rw[ae,yG];omega,by omega,?_⟩,fun M=>?_⟩⟩
  ·rw[if_neg (by simp[M])]at a1 ⊢
   rw[GI a2];refine DK.fin ⟨rfl,a1,O,V,.inr ⟨a3,a5,_,bx _,?_,rfl⟩⟩;exact NM a6
  ·rw[if_pos M];exact DK.fin ⟨rfl,a2,O,V,.inr ⟨a3,a5,r,a9,a6,rfl⟩⟩
theorem JJ {d:DS}{off:Int}{s:BA}(h:0≤off∧off+s.size≤d.vis.length){o:Nat}(M:o=(if off.toNat=d.vis.length then 0 else 0+off.toNat*1)):
  o+(d.vis.length-off.toNat)≤(kU d.vis).length∧over (kU d.vis) o (kU (s.data.toList.take (d.vis.length-off.toNat)))=kU (lu d.vis off.toNat (bb s)):=by
 have a1:(bb s).length=s.size:=lB s;have O:s.data.toList.take (d.vis.length-off.toNat)=bb s:=aK (by show(bb s).length≤_;omega);rw[O,nV]
 by_cases hc:off.toNat=d.vis.length
 ·rw[if_pos hc]at M
  have V:s.size=0:=by omega
  have hn:bb s=[]:=gS (by omega);subst M;refine⟨by omega,?_⟩;rw[hn,vA,vV,vA]
 ·rw[if_neg hc]at M
  rw[show o=off.toNat by omega];exact⟨by omega,vV _ _ _⟩
theorem Aj {D:Nat}{d:DS}{F:aX}(h:mV D d F)(d5:d.pend.length<1000000){off:Int}{s:BA}:
  lP TP 22 ⟨[DP D,.int .i64 off,.string s]⟩ F (rT D (.int .i64 (d.write off s).1) (d.write off s).2):=by
 have M:=mj.write h.1 off s;unfold DS.write at M ⊢;have d6:=h.1.pos;have d4:=h.1.le;have d3:=h.1.cut;have bad:∀L,mV D d L→∀S W,d.on=true→¬(0≤off∧off+s.size≤d.vis.length)→Fin (fun e d0=>∃v L',e=.returned v∧Mem L' S W d0∧rT D (.int .i64 (if d.on=false then(231,d)else if 0≤off∧off+s.size≤d.vis.length then(0,(d.put off.toNat s).mT)else(230,d):Int×DS).1) (if d.on=false then(231,d)else if 0≤off∧off+s.size≤d.vis.length then(0,(d.put off.toNat s).mT)else(230,d):Int×DS).2 v L') L S W (.int .i64 (230:Int)):=by
  intro L d1 S W O b4;refine DK.fin ?_;rw[if_neg (by simp[O]),if_neg b4];exact⟨rfl,d1⟩
 obtain⟨c9,V,a1,⟨hp,rfl⟩|⟨b6,c4,r,c7,c8,rfl⟩⟩:=h<;>intro W hm
 ·have b3:mV D d _:=⟨c9,V,a1,.inl ⟨hp,rfl⟩⟩
  have a9:=bad _ b3 (jA (·.1) [sn 82 D V a1 d.vis.length d.on d.cut (.slice none 0 0),(V,.cells ⟨kU d.dur⟩ 5),(a1,.cells ⟨kU d.vis⟩ 5)]) W;refine SV D _ _ V _ a1 _ _ off s hm ?_;rintro _ rfl
  try dsimp only
  refine⟨fun h=>absurd h (by omega),fun _=>⟨fun O=>⟨fun b1=>⟨fun _=>?_,fun h=>absurd (by omega) h⟩,fun b1=>a9 O (by omega)⟩,fun O=>?_⟩⟩
  ·rintro _ rfl
   refine⟨fun c3=>?_,fun c3=>a9 O (by omega)⟩;rintro _ rfl
   try dsimp only
   rw[kS (by omega)];refine⟨fun b4=>a9 O (by omega),fun b4=>?_⟩;have b5:0≤off∧off+s.size≤d.vis.length:=by omega
   have b7:(if d.on=false then(231,d)else if 0≤off∧off+s.size≤d.vis.length then(0,(d.put off.toNat s).mT)else(230,d):Int×DS)=(0,(d.put off.toNat s).mT):=by
    rw[if_neg (by simp[O]),if_pos b5]
   rw[b7]at M ⊢;intro B a3 cap r1 a5 a2;refine⟨by omega,?_⟩;intro o b9;obtain⟨c5,c6⟩:=JJ b5 b9;rw[c6];refine⟨c5,?_⟩;have a8:(lu d.vis off.toNat (bb s)).length=d.vis.length:=qw (by rw[lB];omega);have c2:((off.toNat:Nat):Int)=off:=dM b1;have a6:mm (d.pend++[(off.toNat,s)])=[.int .i64 off,.string s]:=by rw[hp];simp[mm,c2]
   have a7:(d.pend++[(off.toNat,s)]).length=1:=by rw[hp];rfl
   unfold DS.mT DS.put at M ⊢;simp only at M ⊢;refine⟨fun hc=>?_,fun hc=>⟨fun a4=>?_,fun a4=>?_⟩⟩
   ·rw[if_pos (by omega)]at M ⊢
    refine DK.tj [0,1,2,4] rfl ⟨rfl,M,V,a1,.inr ⟨a3,cap,r1,?_,?_,?_⟩⟩<;>simp only[a6,a7,a8]
    ·exact a5
    ·exact a2
    ·rfl
   ·rw[kS (by omega)]at a4
    rw[if_neg (by omega),if_pos (by omega)]at M ⊢;refine DK.tj [0,1,2,4] rfl ⟨rfl,M,V,a1,.inr ⟨a3,cap,r1,?_,?_,?_⟩⟩<;>simp only[a6,a7,a8]
    ·exact a5
    ·exact a2
    ·rfl
   ·rw[kS (by omega)]at a4
    rw[kS (by omega)];rw[if_neg (by omega),if_neg (by omega)]at M ⊢;refine DK.tj [0,1,2,4] rfl ⟨rfl,M,V,a1,.inr ⟨a3,cap,r1,?_,?_,?_⟩⟩<;>simp only[a6,a7,a8]
    ·exact a5
    ·exact a2
    ·rw[show((d.cut:Int)-1)=((d.cut-1:Nat):Int)by omega];rfl
  ·refine DK.fin ?_
   rw[if_pos O];exact⟨rfl,b3⟩
 ·have b3:mV D d _:=⟨c9,V,a1,.inr ⟨b6,c4,r,c7,c8,rfl⟩⟩
  have a9:=bad _ b3 (jA (·.1) [sn 82 D V a1 d.vis.length d.on d.cut (.slice (SO b6) d.pend.length c4),(V,.cells ⟨kU d.dur⟩ 5),(a1,.cells ⟨kU d.vis⟩ 5),(b6,.cells ⟨mm d.pend++r⟩ 111)]) W;refine Vf D _ _ V _ a1 _ _ b6 _ c4 _ off s hm ?_;rintro _ rfl
  try dsimp only
  refine⟨fun h=>absurd h (by omega),fun _=>⟨fun O=>⟨fun b1=>⟨fun _=>?_,fun h=>absurd (by omega) h⟩,fun b1=>a9 O (by omega)⟩,fun O=>?_⟩⟩
  ·rintro _ rfl
   refine⟨fun c3=>?_,fun c3=>a9 O (by omega)⟩;rintro _ rfl
   try dsimp only
   rw[kS (by omega)];refine⟨fun b4=>a9 O (by omega),fun b4=>?_⟩;have b5:0≤off∧off+s.size≤d.vis.length:=by omega
   have b7:(if d.on=false then(231,d)else if 0≤off∧off+s.size≤d.vis.length then(0,(d.put off.toNat s).mT)else(230,d):Int×DS)=(0,(d.put off.toNat s).mT):=by
    rw[if_neg (by simp[O]),if_pos b5]
   rw[b7]at M ⊢;intro B;refine⟨⟨c7,c8⟩,⟨by omega,by omega⟩,?_⟩;intro a3 cap r1 a5 a2;refine⟨by omega,?_⟩;intro o b9;obtain⟨c5,c6⟩:=JJ b5 b9;rw[c6];refine⟨c5,?_⟩;have a8:(lu d.vis off.toNat (bb s)).length=d.vis.length:=qw (by rw[lB];omega);have c2:((off.toNat:Nat):Int)=off:=dM b1;have d2:(mm d.pend++r).take (d.pend.length*2)=mm d.pend:=List.take_left' (yG _);rw[d2]at a2 ⊢;have a6:mm (d.pend++[(off.toNat,s)])=mm d.pend++[.int .i64 off,.string s]:=by rw[D6];simp[mm,c2]
   have a7:(d.pend++[(off.toNat,s)]).length=d.pend.length+1:=by simp
   unfold DS.mT DS.put at M ⊢;simp only at M ⊢;refine⟨fun hc=>?_,fun hc=>⟨fun a4=>?_,fun a4=>?_⟩⟩
   ·rw[if_pos (by omega)]at M ⊢
    refine DK.tj [0,1,2,4] rfl ⟨rfl,M,V,a1,.inr ⟨a3,cap,r1,?_,?_,?_⟩⟩<;>simp only[a6,a7,a8]
    ·exact a5
    ·exact a2
    ·rfl
   ·rw[kS (by omega)]at a4
    rw[if_neg (by omega),if_pos (by omega)]at M ⊢;refine DK.tj [0,1,2,4] rfl ⟨rfl,M,V,a1,.inr ⟨a3,cap,r1,?_,?_,?_⟩⟩<;>simp only[a6,a7,a8]
    ·exact a5
    ·exact a2
    ·rfl
   ·rw[kS (by omega)]at a4
    rw[kS (by omega)];rw[if_neg (by omega),if_neg (by omega)]at M ⊢;refine DK.tj [0,1,2,4] rfl ⟨rfl,M,V,a1,.inr ⟨a3,cap,r1,?_,?_,?_⟩⟩<;>simp only[a6,a7,a8]
    ·exact a5
    ·exact a2
    ·rw[show((d.cut:Int)-1)=((d.cut-1:Nat):Int)by omega];rfl
  ·refine DK.fin ?_
   rw[if_pos O];exact⟨rfl,b3⟩
abbrev yD2aa (d:BA)(e:Bool)(x2 x3:Int)(x4 x5 n o:List aa)(p c f g a h i b j k l m:Nat):aX:=[(p,.cells #[.bool e,IV x2,.slice (SO c) f g,.slice (SO a) h i,.slice (SO b) j k] 82),(c,.cells ⟨x4⟩ 5),(a,.cells ⟨x5⟩ 5),(b,.cells ⟨n⟩ 111),(l,.cells ⟨o⟩ 4),(m,.cells #[IV x3,.string d] 111)]
noncomputable def vK (a b c d:Nat)(w:Int)(o n:Nat)(g:Int)(s:OA)(q p:Nat)(t u:Int)(h:Bool)(i:Int)(k j m l:Nat)(cs e f:List aa)(S:List Nat):Cut:=⟨TP,S,34,103,(KC dR 500),[(0,PP a),(2,IV w),(7,.slice (SO d) o n),(8,IV g),(22,.slice s q p),(23,IV t),(24,IV u)],[(a,.cells #[.bool h,IV i,.slice (SO b) k j,.slice (SO c) m l,.slice none 0 0] 82),(b,.cells ⟨cs⟩ 5),(c,.cells ⟨e⟩ 5),(d,.cells ⟨f⟩ 4)]⟩
noncomputable def C8 (a b c d:Nat)(t:Int)(p o:Nat)(h q s:Int)(i:Bool)(j:Int)(l k n m:Nat)(e f g:List aa)(S:List Nat):Cut:=⟨TP,S,34,103,(KC dR 1012),[(0,PP a),(2,IV t),(7,.slice (SO d) p o),(8,IV h),(46,.slice none 0 0),(47,IV q),(48,IV s)],[(a,.cells #[.bool i,IV j,.slice (SO b) l k,.slice (SO c) n m,.slice none 0 0] 82),(b,.cells ⟨e⟩ 5),(c,.cells ⟨f⟩ 5),(d,.cells ⟨g⟩ 4)]⟩
theorem H5 (i j k b:Nat)(x:Int)(c g:Nat)(f:Int)(y:OA)(u t:Nat)(w a:Int)(m:Bool)(n:Int)(p o s q:Nat)(cs l e:List aa)(H:VP S w0 R (.P 5 25 (a<w) (.r 6<|.x2 fun h d=>.sp y h d [22]<|.iL h d u t 1 a (d+(ad a))<|.x2 fun(z:List aa) m4=>.mU h (d+(ad a)) 3 z (IV m4)<|.P 7 30 (0≤m4) (.P 6 35 (m4<(c:Int)) (.r 5<|.iL b 0 c g 1 m4 (ad m4)<|.sr 3 b (ad m4) 4 (.bool true) e<|.li 6 8 (if m4>f then m4 else f) fun A=>.ct 7 [0,1,2,3] (vK i j k b x c g A (some ⟨h,d,none⟩) u t w (ab.wrap (a+1)) m n p o s q cs l ((e).set (ad m4) (.bool true)) S))<|.ct 8 [0,1,2,3] (vK i j k b x c g f (some ⟨h,d,none⟩) u t w (ab.wrap (a+1)) m n p o s q cs l e S))<|.ct 14 [0,1,2,3] (vK i j k b x c g f (some ⟨h,d,none⟩) u t w (ab.wrap (a+1)) m n p o s q cs l e S))<|.ru [8,200]<|.ct 5 [0,1,2,3] (C8 i j k b x c g f 0 0 m n p o s q cs l e S))):vK i j k b x c g f y u t w a m n p o s q cs l e S w0 R:=VC.go fA _ H
theorem Te (c d e j:Nat)(t:Int)(s q:Nat)(n l m:Int)(o:Bool)(p:Int)(a h b i:Nat)(f g k:List aa)(H:VP S w0 R (.P 5 49 (m<l) (.r 7<|.ff)<|.r 3<|.dr 8<|.qu [3,100,3,100]<|.dn<|.cO 2 e 0 b i 1 d 0 a h 47 5 g (((f).drop 0).take (min a b))<|.il 4 gg [PP c]<|.ru [5,200,7,200,3,200]<|.rk 1<|.il 6 jt [PP c]<|.ru [5,200,2,200]<|.rk 1<|.re 5 (IV 0) [(c,.cells #[.bool true,IV 0,.slice (SO d) a h,.slice (SO e) b i,.slice none 0 0] 82),(d,.cells ⟨f⟩ 5),(e,.cells ⟨(over (g) 0 (((f).drop 0).take (min a b)))⟩ 5),(j,.cells ⟨k⟩ 4)])):C8 c d e j t s q n l m o p a h b i f g k S w0 R:=VC.go fA _ H
abbrev kEkq (x0 x1 x2 x3 x4 x5 x6 x7):=([(x0,.cells #[.bool x1,IV x2,.slice (SO x3) x4 x4,.slice (SO x5) x4 x4,.slice none 0 0] 82),(x3,.cells ⟨x6⟩ 5),(x5,.cells ⟨x7⟩ 5)]:aX)
theorem R3 (b:Nat)(g:Bool)(cut:Int)(c a d:Nat)(e h:List aa)(j:OA)(f i:Nat)(k:Int)(hm:Mem (kEkq b g cut c a d e h) S w0 W)(H:VP S w0 R (.il 8 bZ [PP b]<|.ru [17,200]<|.li 2 2 (a:Int) fun l=>.rk 1<|.P 2 15 (l=0) (.re 5 (IV 1) (kEkq b g cut c a d e h))<|.ru [7,200]<|.r 1<|.mk' false 4 .i64 .i64 0 0 (.bool false) 1 fun B=>.ct 15 [0,1,2,3] (vK b c d B k (ad 0) (ad 0) (-1:Int) j f i (f:Int) 0 g cut a a a a e h (aA (ad 0) (.bool false)) S))):aE TP 34 ⟨[PP b,.slice j f i,IV k]⟩ W R:=VC.cs fA hm _ H
def u3 (a b c d e:Nat)(A:Int)(t s:Nat)(i:Int)(x:OA)(w u:Nat)(y z:Int)(j:Bool)(k:Int)(m l o n q p:Nat)(cs f g h:List aa)(S:List Nat)(w0:aj)(R:bJ→aj→Prop):Prop:=
 kO TP 34 103 (KC dR 500) [(0,PP a),(2,IV A),(7,.slice (SO e) t s),(8,IV i),(22,.slice x w u),(23,IV y),(24,IV z)] [(a,.cells #[.bool j,IV k,.slice (SO b) m l,.slice (SO c) o n,.slice (SO d) q p] 82),(b,.cells ⟨cs⟩ 5),(c,.cells ⟨f⟩ 5),(d,.cells ⟨g⟩ 111),(e,.cells ⟨h⟩ 4)] S w0 (lN R)
def rU (c d e a b:Nat)(A:Int)(u t:Nat)(j:Int)(x w:Nat)(y z:Int)(k:Bool)(l:Int)(n m p o s q:Nat)(f g h i:List aa)(S:List Nat)(w0:aj)(R:bJ→aj→Prop):Prop:=
 kO TP 34 103 (KC dR 1012) [(0,PP c),(2,IV A),(7,.slice (SO b) u t),(8,IV j),(46,.slice (SO a) x w),(47,IV y),(48,IV z)] [(c,.cells #[.bool k,IV l,.slice (SO d) n m,.slice (SO e) p o,.slice (SO a) s q] 82),(d,.cells ⟨f⟩ 5),(e,.cells ⟨g⟩ 5),(a,.cells ⟨h⟩ 111),(b,.cells ⟨i⟩ 4)] S w0 (lN R)
theorem Mg (l m n p g:Nat)(N:Int)(h t:Nat)(q:Int)(U:OA)(u G:Nat)(M d:Int)(y:Bool)(z:Int)(C A F D k s:Nat)(cs w x j:List aa)
 (H:
 Br (d<M)
 (∃e f:Nat,U=some ⟨e,f,none⟩∧
 (0≤d∧d<u)∧
 ∃(O:List aa) (a:Int),e∉S∧lG w0 e=some O∧O[(f+(ad d))]?=some (IV a)∧
 Br ((0:Int)≤a)
 (Br (a<(h:Int))
 ((0≤a∧a<h)∧
 ((ad a)<(j).length)∧
 ∀Q:Int,Q=(if a>q then a else q)→
 u3 l m n p g N h t Q (some ⟨e,f,none⟩) u G M (ab.wrap (d+(1:Int))) y z C A F D k s cs w x ((j).set (ad a) (.bool true)) S w0 R)
 (u3 l m n p g N h t q (some ⟨e,f,none⟩) u G M (ab.wrap (d+(1:Int))) y z C A F D k s cs w x j S w0 R))
 (u3 l m n p g N h t q (some ⟨e,f,none⟩) u G M (ab.wrap (d+(1:Int))) y z C A F D k s cs w x j S w0 R))
 (rU l m n p g N h t q k s (k:Int) (0:Int) y z C A F D k s cs w x j S w0 R)):
 u3 l m n p g N h t q U u G M d y z C A F D k s cs w x j S w0 R:=by
 unfold u3;refine .ru 5 (.sP 25 H ?_ ?_)<;>clear H<;>intro H
 ·refine .ru 6 ?_
  obtain⟨e,f,rfl,H⟩:=H;refine .nr (E:=3) (b:=e) (o:=f) (len:=u) (cap:=G) (sz:=1) (o':=(f+(ad d))) (kd:=.i64) (i:=d) (by kernel_rfl) H.1 (by omega) ?_
  replace H:=H.2
  obtain⟨O,a,V,X,Y,H⟩:=H;refine .pV (b:=e) (off:=(f+(ad d))) (T:=3) (v:=IV a) (by kernel_rfl) V X (o4 Y (by kernel_rfl)) (.ru 7 (.sP 30 H ?_ ?_))<;>clear H<;>intro H
  ·refine .ru 6 (.sP 35 H ?_ ?_)<;>clear H<;>intro H
   ·refine .ru 5 (.nr (E:=4) (b:=g) (o:=0) (len:=h) (cap:=t) (sz:=1) (o':=(ad a)) (kd:=.i64) (i:=a) (by kernel_rfl) H.1 (by omega) ?_)
    replace H:=H.2
    refine .nm (KR dR 128204 [3]) [(0,PP l),(2,IV N),(7,.slice (SO g) h t),(8,IV q),(10,IV a),(22,.slice (some ⟨e,f,none⟩) u G),(23,IV M),(24,IV d),(38,.pointer (some ⟨g,(ad a),none⟩))] [(l,.cells #[.bool y,IV z,.slice (SO m) C A,.slice (SO n) F D,.slice (SO p) k s] 82),(m,.cells ⟨cs⟩ 5),(n,.cells ⟨w⟩ 5),(p,.cells ⟨x⟩ 111),(g,.cells ⟨j⟩ 4)] (.xP 4 (off:=(ad a)) (lo:=0) (hi:=0) (T:=4) (v:=.bool true) (c:=j) (by kernel_rfl) H.1 (.inr (bx _)) ?_)
    replace H:=H.2
    refine .ru 6 (.lI 8 H fun Q H=>(.ru 7 (.ct [0,1,2,3,4] H)))
   ·refine .ru 8 (.ct [0,1,2,3,4] H)
  ·refine .ru 14 (.ct [0,1,2,3,4] H)
 ·refine .ru 8 (.ld 0 4 (.ru 5 (.ct [0,1,2,3,4] H)))
abbrev kErq (x0 x1 x2 x3 x4 x5 x6 x7 x8 x9 x10 x11):=((x0,.cells #[.bool x1,IV x2,.slice (SO x3) x4 x5,.slice (SO x6) x7 x8,.slice (SO x9) x10 x11] 82):Nat×Obj)
theorem Nh (k o w h q:Nat)(t:Int)(Q Z:Nat)(Y:Int)(V a0:Nat)(a1 l:Int)(N:Bool)(O:Int)(e f p M D C:Nat)(g F A G:List aa)
 (H:
 Br (l<a1)
 ((0≤l∧l<V)∧
 ∃(d:Int) (x:BA),(((A).drop ((ad l)*2)).take 2=[IV d,.string x]∧((ad l)*2)+2≤(A).length)∧
 ∀X:Nat,
 (0≤l∧l<Q)∧
 ∃(a6:Bool),(G)[(ad l)]?=some (.bool a6)∧
 Bb (a6)
 (Br (l=Y)
 (Br ((0:Int)≤t)
 (Br (t<(x.size:Int))
 ((0≤(0:Int)∧(0:Int)≤t∧t≤x.size)∧
 (0≤d∧d≤(e:Int)∧(e:Int)≤(f:Int))∧
 ∀a2:Nat,a2=(if(ad d)=f then 0 else 0+(ad d)*1)→
 (a2+(e-(ad d))≤(g).length)∧
 rU k o w h q t Q Z Y V a0 a1 (ab.wrap (l+(1:Int))) N O e f p M D C (over (g) a2 (kU ((x.extract 0 (ad t)).data.toList.take (e-(ad d))))) F A G S w0 R)
 ((0≤d∧d≤(e:Int)∧(e:Int)≤(f:Int))∧
 ∀o1:Nat,o1=(if(ad d)=f then 0 else 0+(ad d)*1)→
 (o1+(e-(ad d))≤(g).length)∧
 rU k o w h q t Q Z Y V a0 a1 (ab.wrap (l+(1:Int))) N O e f p M D C (over (g) o1 (kU (x.data.toList.take (e-(ad d))))) F A G S w0 R))
 ((0≤d∧d≤(e:Int)∧(e:Int)≤(f:Int))∧
 ∀a3:Nat,a3=(if(ad d)=f then 0 else 0+(ad d)*1)→
 (a3+(e-(ad d))≤(g).length)∧
 rU k o w h q t Q Z Y V a0 a1 (ab.wrap (l+(1:Int))) N O e f p M D C (over (g) a3 (kU (x.data.toList.take (e-(ad d))))) F A G S w0 R))
 ((0≤d∧d≤(e:Int)∧(e:Int)≤(f:Int))∧
 ∀a4:Nat,a4=(if(ad d)=f then 0 else 0+(ad d)*1)→
 (a4+(e-(ad d))≤(g).length)∧
 rU k o w h q t Q Z Y V a0 a1 (ab.wrap (l+(1:Int))) N O e f p M D C (over (g) a4 (kU (x.data.toList.take (e-(ad d))))) F A G S w0 R))
 (rU k o w h q t Q Z Y V a0 a1 (ab.wrap (l+(1:Int))) N O e f p M D C g F A G S w0 R))
 (((((g).drop 0).take (min e p)).length=min e p)∧(∀u∈(((g).drop 0).take (min e p)),u.oneCell'=true)∧(0+(((g).drop 0).take (min e p)).length≤(F).length)∧
 (0+D*2≤(A).length)∧
 (0≤(0:Int)∧(0:Int)≤(0:Int)∧(0:Int)≤(C:Int))∧
 Fin R [(k,.cells #[.bool true,IV 0,.slice (SO o) e f,.slice (SO w) p M,.slice (SO h) (ad (0:Int)) C] 82),(o,.cells ⟨g⟩ 5),(w,.cells ⟨(over (F) 0 (((g).drop 0).take (min e p)))⟩ 5),(h,.cells ⟨(over (A) 0 (ox #[IV 0,sZ] D))⟩ 111),(q,.cells ⟨G⟩ 4)] S w0 (IV 0))):
 rU k o w h q t Q Z Y V a0 a1 l N O e f p M D C g F A G S w0 R:=by
 unfold rU;refine .ru 5 (.sP 49 H (fun H=>?_) fun H=>?_)
 ·refine .ru 7 (.nr (E:=111) (b:=h) (o:=0) (len:=V) (cap:=a0) (sz:=2) (o':=((ad l)*2)) (kd:=.i64) (i:=l) (by kernel_rfl) H.1 (by omega) ?_)
  replace H:=H.2
  obtain⟨d,x,a7,H⟩:=H;refine .um 3 (off:=((ad l)*2)) (T:=111) (v:=.agg #[IV d,.string x]) (by kernel_rfl) (vN a7.1 a7.2 (by kernel_rfl) (by kernel_rfl)) (.nH (.cells #[IV 0,sZ] 111) H fun X H=>(.ru 1 (.st 5 0 (.ru 6 (.nr (E:=4) (b:=q) (o:=0) (len:=Q) (cap:=Z) (sz:=1) (o':=(ad l)) (kd:=.i64) (i:=l) (by kernel_rfl) H.1 (by omega) ?_)))))
  replace H:=H.2
  obtain⟨a6,a7,H⟩:=H;refine .um 4 (off:=(ad l)) (T:=4) (v:=.bool a6) (by kernel_rfl) (o4 a7 (by kernel_rfl)) (.nm (KR dR 129636 [4]) [(0,PP k),(2,IV t),(7,.slice (SO q) Q Z),(8,IV Y),(11,IV l),(12,PP X),(46,.slice (SO h) V a0),(47,IV a1),(48,IV l),(56,.bool a6)] (yD2aa x N O d g F A G k o e f w p M h D C q X) (.sB 56 H (fun H=>?_) fun H=>?_))
  ·refine .ru 11 (.sP 61 H (fun H=>?_) fun H=>?_)
   ·refine .ru 4 (.sP 65 H (fun H=>?_) fun H=>?_)
    ·refine .ru 2 (.ld 5 1 (.ru 4 (.sP 71 H (fun H=>?_) fun H=>?_)))
     ·refine .ru 3 (.ld 5 1 (.ru 1 (.sj (s:=x) (lo:=none) (hi:=some (IV t)) (a:=(0:Int)) (b:=t) (by kernel_rfl) (.inr ⟨rfl,rfl⟩) (.inl ⟨.i64,rfl⟩) H.1 ?_)))
      replace H:=H.2
      refine .nm (KR dR 518554 [4,5]) [(0,PP k),(2,IV t),(7,.slice (SO q) Q Z),(8,IV Y),(12,PP X),(46,.slice (SO h) V a0),(47,IV a1),(48,IV l),(75,.string (x.extract 0 (ad t)))] (yD2aa x N O d g F A G k o e f w p M h D C q X) (.ru 1 (.st 5 1 (.ru 1 (.nm (KC dR 129639) [(0,PP k),(2,IV t),(7,.slice (SO q) Q Z),(8,IV Y),(12,PP X),(46,.slice (SO h) V a0),(47,IV a1),(48,IV l)] [(kErq k N O o e f w p M h D C),(o,.cells ⟨g⟩ 5),(w,.cells ⟨F⟩ 5),(h,.cells ⟨A⟩ 111),(q,.cells ⟨G⟩ 4),(X,.cells #[IV d,.string (x.extract 0 (ad t))] 111)] (.dr 9 (.pu (.pu (.pu (.ld 0 2 (.pu (.ld 5 0 ?_)))))))))));obtain⟨a2,a8⟩:∃a5:Nat,a5=(if(ad d)=f then 0 else 0+(ad d)*1):=⟨_,rfl⟩;refine .rz (E:=5) (b:=o) (o:=0) (len:=e) (cap:=f) (sz:=1) (o':=a2) (l':=(e-(ad d))) (c':=(f-(ad d))) (lo:=some (IV d)) (hi:=none) (x:=d) (y:=(e:Int)) (by kernel_rfl) (.inl ⟨.i64,rfl⟩) (.inr ⟨rfl,rfl,by omega⟩) H.1 a8 (by simp) rfl ?_
      replace H:=H.2 a2 a8
      refine .pu (.ld 5 1 (.dn (.yU 1 (T:=47) (E:=5) (U:=9) (o:=a2) (dl:=(e-(ad d))) (dc:=(f-(ad d))) (s:=(x.extract 0 (ad t))) (c:=g) (by kernel_rfl) H.1 ?_)))
      replace H:=H.2
      refine .ru 7 (.ct [0,1,2,3,4] H)
     ·refine .ru 2 (.nm (KC dR 129639) [(0,PP k),(2,IV t),(7,.slice (SO q) Q Z),(8,IV Y),(12,PP X),(46,.slice (SO h) V a0),(47,IV a1),(48,IV l)] (yD2aa x N O d g F A G k o e f w p M h D C q X) (.dr 9 (.pu (.pu (.pu (.ld 0 2 (.pu (.ld 5 0 ?_))))))))
      obtain⟨o1,a9⟩:∃a5:Nat,a5=(if(ad d)=f then 0 else 0+(ad d)*1):=⟨_,rfl⟩;refine .rz (E:=5) (b:=o) (o:=0) (len:=e) (cap:=f) (sz:=1) (o':=o1) (l':=(e-(ad d))) (c':=(f-(ad d))) (lo:=some (IV d)) (hi:=none) (x:=d) (y:=(e:Int)) (by kernel_rfl) (.inl ⟨.i64,rfl⟩) (.inr ⟨rfl,rfl,by omega⟩) H.1 a9 (by simp) rfl ?_
      replace H:=H.2 o1 a9
      refine .pu (.ld 5 1 (.dn (.yU 1 (T:=47) (E:=5) (U:=9) (o:=o1) (dl:=(e-(ad d))) (dc:=(f-(ad d))) (s:=x) (c:=g) (by kernel_rfl) H.1 ?_)))
      replace H:=H.2
      refine .ru 7 (.ct [0,1,2,3,4] H)
    ·refine .ru 9 (.nm (KC dR 129639) [(0,PP k),(2,IV t),(7,.slice (SO q) Q Z),(8,IV Y),(12,PP X),(46,.slice (SO h) V a0),(47,IV a1),(48,IV l)] (yD2aa x N O d g F A G k o e f w p M h D C q X) (.dr 9 (.pu (.pu (.pu (.ld 0 2 (.pu (.ld 5 0 ?_))))))))
     obtain⟨a3,b0⟩:∃a5:Nat,a5=(if(ad d)=f then 0 else 0+(ad d)*1):=⟨_,rfl⟩;refine .rz (E:=5) (b:=o) (o:=0) (len:=e) (cap:=f) (sz:=1) (o':=a3) (l':=(e-(ad d))) (c':=(f-(ad d))) (lo:=some (IV d)) (hi:=none) (x:=d) (y:=(e:Int)) (by kernel_rfl) (.inl ⟨.i64,rfl⟩) (.inr ⟨rfl,rfl,by omega⟩) H.1 b0 (by simp) rfl ?_
     replace H:=H.2 a3 b0
     refine .pu (.ld 5 1 (.dn (.yU 1 (T:=47) (E:=5) (U:=9) (o:=a3) (dl:=(e-(ad d))) (dc:=(f-(ad d))) (s:=x) (c:=g) (by kernel_rfl) H.1 ?_)))
     replace H:=H.2
     refine .ru 7 (.ct [0,1,2,3,4] H)
   ·refine .ru 13 (.nm (KC dR 129639) [(0,PP k),(2,IV t),(7,.slice (SO q) Q Z),(8,IV Y),(12,PP X),(46,.slice (SO h) V a0),(47,IV a1),(48,IV l)] (yD2aa x N O d g F A G k o e f w p M h D C q X) (.dr 9 (.pu (.pu (.pu (.ld 0 2 (.pu (.ld 5 0 ?_))))))))
    obtain⟨a4,b1⟩:∃a5:Nat,a5=(if(ad d)=f then 0 else 0+(ad d)*1):=⟨_,rfl⟩;refine .rz (E:=5) (b:=o) (o:=0) (len:=e) (cap:=f) (sz:=1) (o':=a4) (l':=(e-(ad d))) (c':=(f-(ad d))) (lo:=some (IV d)) (hi:=none) (x:=d) (y:=(e:Int)) (by kernel_rfl) (.inl ⟨.i64,rfl⟩) (.inr ⟨rfl,rfl,by omega⟩) H.1 b1 (by simp) rfl ?_
    replace H:=H.2 a4 b1
    refine .pu (.ld 5 1 (.dn (.yU 1 (T:=47) (E:=5) (U:=9) (o:=a4) (dl:=(e-(ad d))) (dc:=(f-(ad d))) (s:=x) (c:=g) (by kernel_rfl) H.1 ?_)))
    replace H:=H.2
    refine .ru 7 (.ct [0,1,2,3,4] H)
  ·refine .ru 9 (.ct [0,1,2,3,4] H)
 ·refine .ru 3 (.nm (KC dR 254) [(0,PP k)] [(kErq k N O o e f w p M h D C),(o,.cells ⟨g⟩ 5),(w,.cells ⟨F⟩ 5),(h,.cells ⟨A⟩ 111),(q,.cells ⟨G⟩ 4)] (.dr 8 (.pu (.pu (.pu (.ld 0 3 (.pu (.pu (.pu (.ld 0 2 (.dn (.JC 2 (T:=47) (E:=5) (o:=0) (dl:=p) (dc:=M) (n:=e) (m:=f) (a:=⟨o,0,none⟩) (c:=F) (((g).drop 0).take (min e p)) (by kernel_rfl) (Src.own (j:=1) (o:=0) (n:=(min e p)) (c:=g) (by kernel_rfl)) H.1 H.2.1 H.2.2.1 ?_))))))))))))
  replace H:=H.2.2.2
  refine .ru 4 (.nm (KR dR 510 [1]) [(0,PP k),(97,PP k)] [(kErq k N O o e f w p M h D C),(o,.cells ⟨g⟩ 5),(w,.cells ⟨(over (F) 0 (((g).drop 0).take (min e p)))⟩ 5),(h,.cells ⟨A⟩ 111),(q,.cells ⟨G⟩ 4)] (.il 77 [PP k] 14 gg (.ru 5 (.ld 0 4 (.Nz 3 (T:=80) (E:=111) (o:=0) (n:=D) (cap:=C) (z:=.agg #[IV 0,sZ]) (sz:=2) (bytes:=24) (c:=A) (by kernel_rfl) (by kernel_rfl) H.1 ?_)))))
  replace H:=H.2
  refine .ru 6 (.ld 0 4 (.rz (E:=111) (b:=h) (o:=0) (len:=D) (cap:=C) (sz:=2) (o':=0) (l':=(ad (0:Int))) (c':=C) (lo:=none) (hi:=some (IV 0)) (x:=(0:Int)) (y:=(0:Int)) (by kernel_rfl) (.inr ⟨rfl,rfl⟩) (.inl ⟨.i64,rfl⟩) H.1 (by simp) (by simp) (by simp) ?_))
  replace H:=H.2
  refine .ru 2 (.st 0 4 (.ru 1 (.rk gg (.ru 6 (.nm (KR dR 1022 [3]) [(101,PP k)] [(k,.cells #[.bool N,IV O,.slice (SO o) e f,.slice (SO w) p M,.slice (SO h) (ad (0:Int)) C] 82),(o,.cells ⟨g⟩ 5),(w,.cells ⟨(over (F) 0 (((g).drop 0).take (min e p)))⟩ 5),(h,.cells ⟨(over (A) 0 (ox #[IV 0,sZ] D))⟩ 111),(q,.cells ⟨G⟩ 4)] (.il 41 [PP k] 8 jt (.ru 5 (.st 0 0 (.ru 2 (.st 0 1 (.ru 1 (.rk jt (.ru 5 (.rt fA H))))))))))))))
abbrev kEaq (x0 x1 x2 x3 x4 x5 x6 x7 x8):=((x0,.cells #[.bool x1,IV x2,.slice (SO x3) x4 x4,.slice (SO x5) x4 x4,.slice (SO x6) x7 x8] 82):Nat×Obj)
theorem Yi (c:Nat)(i:Bool)(cut:Int)(d a f:Nat)(g l:List aa)(e b j:Nat)(k:List aa)(o:OA)(h n:Nat)(q:Int)(hm:Mem [(kEaq c i cut d a f e b j),(d,.cells ⟨g⟩ 5),(f,.cells ⟨l⟩ 5),(e,.cells ⟨k⟩ 111)] S w0 W)
 (H:
 ∀p:Int,p=(a:Int)→
 Br (p=0)
 (Fin R [(kEaq c i cut d a f e b j),(d,.cells ⟨g⟩ 5),(f,.cells ⟨l⟩ 5),(e,.cells ⟨k⟩ 111)] S w0 (IV 1))
 ((0≤(b:Int)∧(b:Int)≤(b:Int)∧1*(b:Int)≤281474976710656∧(b:Int)≤9223372036854775807)∧
 ∀B:Nat,
 u3 c d f e B q (ad (b:Int)) (ad (b:Int)) (-1:Int) o h n (h:Int) (0:Int) i cut a a a a b j g l k (aA (ad (b:Int)) (.bool false)) S w0 R)):
 aE TP 34 ⟨[PP c,.slice o h n,IV q]⟩ W R:=by
 refine kO.cs 103 fA hm (.ru 8 (.il 42 [PP c] 10 bZ (.ru 17 (.ld 0 2 (.ru 2 (.lI 2 H fun p H=>(.ru 1 (.rk bZ (.ru 2 (.sP 15 H (fun H=>?_) fun H=>?_))))))))))
 ·refine .ru 5 (.rt fA H)
 ·refine .ru 7 (.ld 0 4 (.ru 1 (.make (E:=4) (kl:=.i64) (kc:=.i64) (n:=(b:Int)) (m:=(b:Int)) (z:=.bool false) (bytes:=1) (by kernel_rfl) H.1 (fun B=>?_))))
  replace H:=H.2 B
  refine .nm (KR dR 14 [6]) [(0,PP c),(1,.slice o h n),(2,IV q),(21,.slice (SO B) (ad (b:Int)) (ad (b:Int)))] [(kEaq c i cut d a f e b j),(d,.cells ⟨g⟩ 5),(f,.cells ⟨l⟩ 5),(e,.cells ⟨k⟩ 111),(B,.cells ⟨(aA (ad (b:Int)) (.bool false))⟩ 4)] (.ru 15 (.ct [0,1,2,3,4] H))
def ve (S:List Nat)(W:aj)(p:OA)(ks:List Int):Prop:=
 0<ks.length→∃(b o:Nat) (c:List aa),p=some ⟨b,o,none⟩∧b∉S∧lG W b=some c∧∀i (h:i<ks.length),c[o+i]?=some (.int .i64 ks[i])
theorem Bl {D a4 a6 a5 B:Nat}{torn:Int}{p a3 n:Nat}{on:Bool}{cut:Int}{dur vis a7:List aa}{S:List Nat}{w0:aj}{R:bJ→aj→Prop}{ks:List Int}(a2:ks.length≤9223372036854775807)
  {kp:OA}(a1:ve S w0 kp ks){kc:Nat}{svF:List Bool}{lastF:Int}
  (H:rU D a4 a6 a5 B torn p p lastF p a3 (p:Int) (0:Int) on cut n n n n p a3 dur vis a7 (svF.map .bool) S w0 R):
  ∀(g i:Nat) (M:List Bool) (last:Int),g+i=ks.length→M.length=p→ov p (ks.drop i) M last=(svF,lastF)→
   u3 D a4 a6 a5 B torn p p last kp ks.length kc (ks.length:Int) (i:Int) on cut n n n n p a3 dur vis a7 (M.map .bool) S w0 R
 |0,i,M,last,hg,hs,hf=>by
  apply Mg;refine⟨fun h=>absurd h (by omega),fun _=>?_⟩;rw[ax (by omega)]at hf;simp only[ov,af]at hf;obtain⟨rfl,rfl⟩:=hf;exact H
 | g+1,i,M,last,hg,hs,hf=>by
  apply Mg;refine⟨fun _=>?_,fun h=>absurd (by omega) h⟩;obtain⟨b,o,c,rfl,a8,a9,hc⟩:=a1 (by omega);refine⟨b,o,rfl,by omega,c,ks[i],a8,a9,by rw[ai];exact hc i (by omega),?_⟩;rw[aG (by omega),ov]at hf;rw[kS (by omega),show(i:Int)+1=((i+1:Nat):Int)by omega];refine⟨fun O=>⟨fun V=>?_,fun V=>?_⟩,fun O=>?_⟩
  ·rw[if_pos ⟨O,V⟩]at hf
   refine⟨⟨O,V⟩,by rw[du];omega,?_⟩;rintro _ rfl;have:=Bl a2 a1 (kc:=kc) H g (i+1) (M.set ks[i].toNat true) (if ks[i]>last then ks[i]else last) (by omega) (by rw[hP,hs]) hf;rw[List.map_set]at this;exact this
  ·rw[if_neg (fun h=>V h.2)]at hf
   exact Bl a2 a1 H g (i+1) M last (by omega) hs hf
  ·rw[if_neg (fun h=>O h.1)]at hf
   exact Bl a2 a1 H g (i+1) M last (by omega) hs hf
theorem Lx {b s:List UInt8}{o n:Nat}(hn:b.length=n)(h:o+s.length≤n){x:Nat}(M:x=(if(o:Int).toNat=n then 0 else 0+(o:Int).toNat*1)):
  x+(n-(o:Int).toNat)≤(kU b).length∧over (kU b) x (kU (s.take (n-(o:Int).toNat)))=kU (lu b o s):=by
 rw[ai]at M ⊢;rw[aK (by omega),nV]
 by_cases hc:o=n
 ·rw[if_pos hc]at M
  have O:s=[]:=gS (by omega);subst M O;exact⟨by omega,by rw[vV,vA,vA]⟩
 ·rw[if_neg hc]at M
  rw[show x=o by omega];exact⟨by omega,vV _ _ _⟩
theorem Hq {s:BA}{torn:Int}(h:0≤torn∧torn≤s.size):(s.extract 0 torn.toNat).data.toList=(bb s).take torn.toNat:=by
 have:(s.extract 0 torn.toNat).data=s.data.extract 0 torn.toNat:=by simp
 rw[this];simp
theorem J0 {D V a2 a1 B:Nat}{torn last:Int}{O n:Nat}{on:Bool}{cut:Int}{vis r:List aa}{S:List Nat}{w0:aj}{R:bJ→aj→Prop}{pend:List (Nat×BA)}(c2:pend.length<4611686018427387904)
    (hp:∀q∈pend,q.1+q.2.size≤n)(c6:vis.length=n)(b9:(mm pend++r).length=O*2){M:List Bool}(c4:M.length=pend.length){bF:List UInt8}
    (H:Fin R [(D,.cells #[.bool true,.int .i64 (0:Int),.slice (SO V) n n,.slice (SO a2) n n,.slice (SO a1) 0 O] 82),(V,.cells ⟨kU bF⟩ 5),(a2,.cells ⟨kU bF⟩ 5),
      (a1,.cells ⟨over (mm pend++r) 0 (ox #[.int .i64 (0:Int),.string (⟨#[]⟩)] pend.length)⟩ 111),(B,.cells ⟨M.map .bool⟩ 4)] S w0 (.int .i64 (0:Int))) (c3:pend.length≤O):
    ∀ (g i:Nat) (b:List UInt8),g+i=pend.length→b.length=n→rE last torn M i (pend.drop i) b=bF→
      rU D V a2 a1 B torn pend.length pend.length last pend.length O (pend.length:Int) (i:Int) on cut n n n n pend.length O (kU b) vis (mm pend++r) (M.map .bool) S w0 R
  | 0,i,b,hg,hb,hf=>by
    apply Nh;refine⟨fun h=>absurd h (by omega),fun _=>?_⟩;rw[ax (by omega),rE]at hf;subst hf;have c5:((kU b).drop 0).take (min n n)=kU b:=by rw[aU,jk,aK (by rw[nV];omega)]
    rw[c5,Gz vis,Dd (by rw[nV];omega)];have:=yG pend;exact⟨by rw[nV];omega,zd _,by rw[nV];omega,by rw[ae];omega,by omega,H⟩
  | g + 1,i,b,hg,hb,hf=>by
    apply Nh;refine⟨fun _=>⟨by omega,?_⟩,fun h=>absurd (by omega) h⟩;have hi:i<pend.length:=by omega
    have c8:=yG pend;have b4:=EI pend i hi;rw[ai];refine⟨(pend[i].1:Int),pend[i].2,⟨?_,by rw[ae];omega⟩,fun c7=>⟨by omega,M[i],?_,?_⟩⟩
    · rw[fa (by omega),fb (by rw[aZ];omega)]
      exact b4
    · rw[bP,ar (by omega),Option.map_some]
    have b3:=hp pend[i] (bH hi);rw[aG hi]at hf;rcases hqe:pend[i]with⟨o,s⟩
    rw[hqe]at hf b3;simp only at hf b3 ⊢;rw[rE]at hf;have c9:=lB s;have b7:M.getD i false=M[i]:=by rw[List.getD_eq_getElem?_getD,ar (by omega),Option.getD_some]
    rw[b7]at hf;rw[kS (by omega),show(i:Int)+1=((i+1:Nat):Int)by omega];have go:=fun(a4:List UInt8) (b5:a4.length=n) (b6:rE last torn M (i+1) (pend.drop (i+1)) a4=bF)=>J0 (on:=on) (cut:=cut) (torn:=torn) (last:=last) c2 hp c6 b9 c4 H c3 g (i+1) a4 (by omega) b5 b6
    refine⟨fun a6=>?_,fun a6=>?_⟩
    · rw[if_pos a6]at hf
      have a9:¬((i:Int)=last∧0≤torn∧torn<s.size)→(0≤(o:Int)∧(o:Int)≤(n:Int)∧(n:Int)≤(n:Int))∧
            ∀x:Nat,x=(if(ad (o:Int))=n then 0 else 0+(ad (o:Int))*1)→
            (x+(n-(ad (o:Int)))≤(kU b).length)∧
            rU D V a2 a1 B torn pend.length pend.length last pend.length O (pend.length:Int) ((i+1:Nat):Int) on cut n n n n pend.length O (over (kU b) x (kU (s.data.toList.take (n-(ad (o:Int)))))) vis (mm pend++r) (M.map .bool) S w0 R:=by
        intro hc;refine⟨by omega,fun x b1=>?_⟩;obtain⟨e1,a5⟩:=Lx (s:=bb s) hb (by omega) b1;refine⟨e1,?_⟩;rw[a5];rw[sx,if_neg hc]at hf;exact go _ (by rw[qw (by omega),hb]) hf
      refine⟨fun a7=>⟨fun a3=>⟨fun a8=>⟨by omega,by omega,fun x b1=>?_⟩,fun a8=>a9 (fun h=>a8 h.2.2)⟩,fun a3=>a9 (fun h=>a3 h.2.1)⟩,fun a7=>a9 (fun h=>a7 h.1)⟩;rw[sx,if_pos ⟨a7,a3,a8⟩]at hf;rw[Hq ⟨a3,by omega⟩];have d0:((bb s).take torn.toNat).length≤s.size:=by rw[ao];omega
      obtain⟨e1,a5⟩:=Lx (s:=(bb s).take torn.toNat) hb (by omega) b1;refine⟨e1,?_⟩;rw[a5];exact go _ (by rw[qw (by omega),hb]) hf
    · rw[if_neg (by simp[a6])]at hf
      exact go _ hb hf
abbrev kEnq (x0 x1 x2 x3):=((x0,.cells #[.bool true,.int .i64 (0:Int),.slice (SO x1) x2 x2,.slice (SO x3) x2 x2,.slice none 0 0] 82):Nat×Obj)
theorem Ut {D M O B:Nat}{torn last:Int}{n:Nat}{on:Bool}{cut:Int}{vis:List aa}{sl sc:Nat}{S:List Nat}{w0:aj}{R:bJ→aj→Prop}(a3:vis.length=n){V:List aa}{b:List UInt8}(a2:b.length=n)
  (H:Fin R [(kEnq D M n O),(M,.cells ⟨kU b⟩ 5),(O,.cells ⟨kU b⟩ 5),(B,.cells ⟨V⟩ 4)] S w0 (.int .i64 (0:Int))):
  C8 D M O B torn sl sc last (0:Int) (0:Int) on cut n n n n (kU b) vis V S w0 R:=by
 apply Te;refine⟨fun h=>absurd h (by omega),fun _=>?_⟩;have a1:((kU b).drop 0).take (min n n)=kU b:=by rw[aU,jk,aK (by rw[nV];omega)]
 rw[a1,Gz vis,Dd (by rw[nV];omega)];exact⟨by rw[nV];omega,zd _,by rw[nV];omega,H⟩
theorem Fa {D M O B:Nat}{torn:Int}{n:Nat}{on:Bool}{cut:Int}{vis:List aa}{S:List Nat}{w0:aj}{R:bJ→aj→Prop}(a2:vis.length=n){a4:List aa}{b:List UInt8}(V:b.length=n)
  {ks:List Int}(a3:ks.length≤9223372036854775807){kp:OA}(a1:ve S w0 kp ks){kc:Nat}
  (H:Fin R [(kEnq D M n O),(M,.cells ⟨kU b⟩ 5),(O,.cells ⟨kU b⟩ 5),(B,.cells ⟨a4⟩ 4)] S w0 (.int .i64 (0:Int))):
  ∀(g i:Nat) (last:Int),g+i=ks.length→vK D M O B torn 0 0 last kp ks.length kc (ks.length:Int) (i:Int) on cut n n n n (kU b) vis a4 S w0 R
 |0,i,last,hg=>by
  apply H5;exact⟨fun h=>absurd h (by omega),fun _=>Ut a2 V H⟩
 |g+1,i,last,hg=>by
  apply H5;refine⟨fun _=>?_,fun h=>absurd (by omega) h⟩;obtain⟨a5,o,c,rfl,a7,a8,hc⟩:=a1 (by omega);refine⟨a5,o,rfl,by omega,c,ks[i],a7,a8,by rw[ai];exact hc i (by omega),?_⟩;rw[kS (by omega),show(i:Int)+1=((i+1:Nat):Int)by omega];exact⟨fun a9=>⟨fun a6=>absurd a6 (by omega),fun _=>Fa a2 V a3 a1 H g (i+1) last (by omega)⟩,fun _=>Fa a2 V a3 a1 H g (i+1) last (by omega)⟩
theorem MC {D:Nat}{d:DS}{F:aX}(h:mV D d F)(b6:d.pend.length<2000000){kp:OA}{kc:Nat}{ks:List Int}(a5:ks.length≤9223372036854775807)(torn:Int):
  m0 TP 34 ⟨[DP D,.slice kp ks.length kc,.int .i64 torn]⟩ F (fun W=>ve (F.map (·.1)) W kp ks) (rT D (.int .i64 0) (d.om ks torn)):=by
 have a4:=mj.om h.1 ks torn;have a9:=DR h.1 ks torn;have b7:=h.1.pos;have b5:=h.1.le;obtain⟨V,M,O,⟨hp,rfl⟩|⟨a2,a7,r,a8,a3,rfl⟩⟩:=h<;>intro W hm a6
 ·refine R3 D _ _ M _ O _ _ kp _ kc torn hm ?_
  rintro _ rfl;refine⟨fun h=>absurd h (by omega),fun _=>⟨by omega,fun B=>?_⟩⟩;have a1:d.crashed ks torn=d.dur:=by unfold DS.crashed;rw[hp];rfl
  refine Fa (by rw[nV]) V.len a5 a6 ?_ ks.length 0 (-1) (by omega);refine DK.tj [0,1,2] rfl ⟨rfl,a4,M,O,.inl ⟨rfl,?_⟩⟩;simp only[DS.om,a1,V.len];rfl
 ·refine Yi D _ _ M _ O _ _ a2 _ a7 _ kp _ kc torn hm ?_
  rintro _ rfl;refine⟨fun h=>absurd h (by omega),fun _=>⟨by omega,fun B=>?_⟩⟩;rcases hkg:ov d.pend.length ks (aA d.pend.length false) (-1)with⟨svF,lastF⟩
  have b4:svF.length=d.pend.length:=by
   have:=Gh d.pend.length ks (aA d.pend.length false) (-1);rw[hkg,dL]at this;exact this
  have a1:d.crashed ks torn=rE lastF torn svF 0 d.pend d.dur:=by unfold DS.crashed;rw[hkg]
  rw[ai];have b3:(aA d.pend.length (.bool false):List aa)=(aA d.pend.length false).map .bool:=by rw[List.map_replicate]
  rw[b3];refine Bl a5 a6 (svF:=svF) (lastF:=lastF) ?_ ks.length 0 _ (-1) (by omega) (by rw[dL]) (by rw[aU];exact hkg);refine J0 (by omega) (fun q b1=>V.pend q b1) (by rw[nV]) a3 b4 (bF:=d.crashed ks torn) ?_ a8 d.pend.length 0 d.dur (by omega) V.len (by rw[aU,a1]);refine DK.tj [0,1,2,3] rfl ⟨rfl,a4,M,O,.inr ⟨a2,a7,over (mm d.pend++r) 0 (ox #[.int .i64 (0:Int),.string (⟨#[]⟩)] d.pend.length),bx _,NM a3,?_⟩⟩;simp only[DS.om,a9];rfl
end Go.Eng
