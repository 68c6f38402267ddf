/- A part. -/
import Derived.Test.YtfobdgoklnhebaaGreatDoorAnyG
set_option linter.unusedVariables false
set_option linter.unusedSimpArgs false
set_option maxRecDepth 100000
open ByteArray renaming size_extract→di
open Go renaming Calls→aE,Value→aa,World→aj,Ending→bJ
open Go.IntKind renaming i64→ab
open Go.Obj renaming cells→bu
open Go.Proofs.Tryz renaming func73→dt,f73→eL,func7→ir,f7→jY,func117→jd
open Go.Src renaming ofSlice→ki
open Int renaming toNat→ad,toNat_natCast→ai,le_refl→jL
open List renaming replicate→aA,drop_eq_getElem_cons→aG,length_cons→aI,take_of_length_le→aK,append_nil→aL,length_eq_zero_iff→aQ,nil_append→aT,drop_zero→aU,cons_append→aY,length_drop→aZ,length_append→ae,mem_cons_of_mem→ag,mem_append_right→ak,append_assoc→an,length_take→ao,mem_cons_self→au,perm_append_comm→aw,drop_of_length_le→ax,mem_append_left→ay,not_mem_nil→bG,getElem_mem→bH,mem_cons→bT,getElem?_take_of_lt→bh,perm_middle→cI,mem_singleton→cK,getElem?_drop→cd,mem_append→cn,getElem?_take→dA,length_replicate→dL,take_zero→dN,take_succ_cons→eh,drop_left→fB,perm_append_comm_assoc→fg,getD_eq_getElem?_getD→fm,take_left→gN,drop_take→gu,take_take→gv,eq_of_mem_replicate→iA,all_eq_true→ij
open List.Perm renaming refl→ah,swap→dg
open Nat renaming le_refl→aD,zero_add→az,mul_le_mul_right→bI,zero_le→bx,mul_le_mul→dp,mod_lt→eC
open Option.some renaming inj→bY
open UInt8 renaming ofNat→bg
namespace Go.Eng
open Go Go.RowKit Go.Proofs Wire
theorem KX {α:Type}{rd:List UInt8→Option (α×Nat)}{s:List UInt8}{a:Nat}(a1:a<s.length):
  me rd (s.drop a)=if s[a]=1 then(match rd (s.drop (a+1))with
   |none=>none
   |some (v,k)=>match ml (s.drop (a+1+k))with
    |none=>none
    |some (c,k2)=>if c=(n7 ((s.drop (a+1)).take k):Int)then some (v,1+k+k2)else none)else none:=by
 obtain⟨b,r,e1,M,O⟩:=drop_cons a1;have V:∀k,s.drop (a+1+k)=r.drop k:=fun k=>by rw[←M,List.drop_drop]
 rw[e1,O,M,me];simp only[V];rfl
def qZ (u b:Bool)(g:Int)(p:OA)(n c:Nat)(e:Int):List aa:=[.bool u,.bool b,.int .i64 g,.slice p n c,.int .i64 e]
def FD (r:Option (Int×List dF×Nat))(v:aa)(L':aX):Prop:=
 match r with
 |none=>v=.agg ⟨qZ true true 0 none 0 0 0⟩
 |some h=>∃p c,v=.agg ⟨qZ (decide (0<h.1)) false h.1 p h.2.1.length c (h.2.2:Int)⟩∧lj mI h.2.1 p c L'
section look
variable {s:ByteArray}{B3 B4 B5:Nat}{g:Int}{a0:Nat}
theorem Vl {x y z:Nat×Obj}{F L:aX}:(L++(x::y::z::F)).Perm (x::y::z::(L++F)):=perm_a
theorem ZM {q x y z r:Nat×Obj}{F L:aX}:(r::q::x::y::z::(L++F)).Perm (L++(F++[r,q,x,y,z])):=perm_a
theorem Ow {q x y z r:Nat×Obj}{N L:aX}(hp:L.Perm (N++[r,q,x,y,z])):L.Perm (q::x::y::z::(r::N)):=lR fun c w M O V a1=>by
 have:=a1 _ _ hp;simp only[M,O,V]at this ⊢;omega
theorem GO (b1:s.size<4611686018427387904)(c7:1≤g){w0:aj}{S:List Nat}{K:aa→aX→Prop}
  (a9:pR ((bb s).drop a0) 1=none→∀L,K (.agg ⟨qZ true true 0 none 0 0 0⟩) L)
  (b6:∀l e,pR ((bb s).drop a0) 1=some (l,e-a0)→a0≤e→∀p c F x y z,lj mI l p c F→K (.agg ⟨qZ true false g p l.length c (e:Int)⟩) (x::y::z::F)):
  ∀(n a:Nat) (l:List dF) (p:OA) (c:Nat) (F:aX),(bb s).length-a≤n→a≤(bb s).length→l.length≤500→pA (bb s) a0 l a→lj mI l p c F→
   zT B3 B4 B5 s false false 0 none 0 0 0 true true 0 none 0 0 0 true false g p l.length c (a:Int) F S w0 (fun e b7=>∃v L',e=.returned v∧Mem L' S w0 b7∧K v L')
 | n, a,l,p,c,F,hn,c5,hl5,hr,hF=>by
  apply Zp;have d7:=lB s;have stop:((bb s).length≤a∨∃c5:a<(bb s).length,(bb s)[a]=0)→∀x y z,K (.agg ⟨qZ true false g p l.length c (a:Int)⟩) (x::y::z::F):=fun h x y z=>b6 l a (hr.stop h) hr.1 p c F x y z hF
  refine⟨fun c2=>?_,fun c2=>kR (stop (.inl (by omega)) _ _ _)⟩;have O:a<(bb s).length:=by omega
  refine⟨⟨by omega,by omega⟩,fun a5=>?_,fun a5=>kR (stop (.inr ⟨O,(rC O).1 a5⟩) _ _ _)⟩;have a8:(bb s)[a]≠0:=fun e=>a5 ((rC O).2 e)
  rw[kS (by omega),show(a:Int)+1=((a+1:Nat):Int)by omega];have M:=KX (rd:=mC) O;have ra:me mC ((bb s).drop a)=none→∀L,K (.agg ⟨qZ true true 0 none 0 0 0⟩) L:=fun e=>a9 (hr.ra O a8 e)
  refine eA.pure (Es s _ b1) ?_;have b4:=wJ (s:=s) (st:=(a+1,0)) (by omega) rfl;simp only at b4;rw[b4];cases hrs:rdStr ((bb s).drop (a+1))with
  |none=>
   have a7:mC ((bb s).drop (a+1))=none:=by rw[mC,hrs];rfl
   have V:me mC ((bb s).drop a)=none:=by rw[M,a7];simp
   exact⟨_,_,_,rfl,rfl,⟨by omega,by omega⟩,fun _=>kR (ra V _),fun _=>⟨fun _=>kR (ra V _),fun h=>absurd h (by decide)⟩⟩
  | some q=>
   obtain⟨t,k⟩:=q;obtain⟨c8,d2⟩:=Jc hrs;rw[aZ]at c8;have a7:mC ((bb s).drop (a+1))=some (⟨t.toArray⟩,k):=by rw[mC,hrs];rfl
   refine⟨_,_,_,rfl,rfl,⟨by omega,by omega⟩,fun a6=>kR (ra ?_ _),fun a6=>⟨fun h=>absurd rfl h,fun _=>?_⟩⟩
   ·rw[M,if_neg fun e=>a6 ((uG O).2 e)]
   have c6:=(uG O).1 a6;rw[a7,if_pos c6]at M;have d8:(⟨t.toArray⟩:BA).size≤65536:=by show t.toArray.size≤_;simpa using d2
   refine eA.lF (L0:=[]) (L1:=_) (W6 (s:=⟨t.toArray⟩) (by omega)) (ah _) ?_;rintro _ X ⟨tp,tc,bp,bc,ap,ac,rfl,c4⟩;refine⟨_,Vl,_,tp,tc,bp,bc,ap,ac,_,X++F,rfl,rfl,fun B6=>?_⟩;refine eA.pure (wS s _ b1) ?_;have b5:=sI (s:=s) (st:=(a+1+k,0)) (by show a+1+k≤_;omega) rfl;simp only at b5;rw[b5];have b3:(¬sC (⟨t.toArray⟩:BA) (l.length+1)∨me mC ((bb s).drop a)=none)→∀L,K (.agg ⟨qZ true true 0 none 0 0 0⟩) L:=by
    rintro(h|h)
    ·cases a1:me mC ((bb s).drop a)with
     |none=>exact ra a1
     | some q=>
      obtain⟨t',k'⟩:=q;have:t'=⟨t.toArray⟩:=by
       rw[a1]at M;simp only at M;split at M
       ·cases M
       ·split at M
        ·cases M;rfl
        ·cases M
      subst this;exact a9 (hr.bad O a8 a1 h)
    ·exact ra h
   cases hri:ml ((bb s).drop (a+1+k))with
   |none=>
    have V:me mC ((bb s).drop a)=none:=by rw[M];simp only[hri]
    refine⟨_,_,_,rfl,rfl,fun _=>kR (ra V _),fun _=>⟨fun _=>kR (ra V _),fun _=>⟨fun _=>kR (ra V _),fun h=>absurd h (by decide)⟩⟩⟩
   | some q=>
    obtain⟨cc,a4⟩:=q;have c9:=(pk hri).2.1;rw[aZ]at c9;simp only[hri]at M;refine⟨_,_,_,rfl,rfl,fun a2=>kR (b3 (.inl fun h=>a2 h.1) _),fun a2=>⟨fun a3=>kR (b3 (.inl fun h=>a3 ?_) _),fun a3=>⟨fun h=>absurd rfl h,fun _=>⟨⟨by omega,by omega,by omega⟩,?_⟩⟩⟩⟩
    ·rw[kS (by omega),h.2];omega
    rw[kS (by omega)]at a3;have c3:sC (⟨t.toArray⟩:BA) (l.length+1):=⟨a2,by rw[a3];omega⟩;have b9:bb (s.extract (ad ((a+1:Nat):Int)) (ad ((a+1+k:Nat):Int)))=((bb s).drop (a+1)).take k:=by
     rw[tA,ai,ai];congr 1;omega
    refine eA.pure (Eh _ (by rw[di];omega)) ⟨_,rfl,rfl,?_⟩;rw[b9];refine⟨fun hc=>kR (ra (by rw[M];exact if_neg hc) _),fun hc B7=>?_⟩;have a1:me mC ((bb s).drop a)=some (⟨t.toArray⟩,1+k+a4):=by rw[M];exact if_pos hc
    have d1:(l6 (bb (⟨t.toArray⟩:BA))).1.ok=true:=by
     rcases Jb (bb (⟨t.toArray⟩:BA))with h|h
     ·exact h.2
     ·exact absurd a2 h.2
    have d6:=(dF.ot d1).n;refine(lj.push (X:=X) (Y:=[(B7,.cells ⟨(l6 (bb (⟨t.toArray⟩:BA))).1.cells tp tc bp bc ap ac⟩ 38),(B6,.cells ⟨(l6 (bb (⟨t.toArray⟩:BA))).1.cells tp tc bp bc ap ac⟩ 38),_,_,_]) hF (c4.mono yL) rfl (by omega) ZM).nd ?_;rintro _ d5 ⟨p',c',N,rfl,d3,d4,-,-⟩;refine⟨_,Ow d3,p',c',_,rfl,rfl,?_⟩;have d0:(l++[(l6 (bb (⟨t.toArray⟩:BA))).1]).length=l.length+1:=by simp
    have:=GO (w0:=w0) (S:=S) b1 c7 a9 b6 (n-1) (a+1+k+a4) (l++[(l6 (bb (⟨t.toArray⟩:BA))).1]) p' c' ((B7,.cells ⟨(l6 (bb (⟨t.toArray⟩:BA))).1.cells tp tc bp bc ap ac⟩ 38)::N) (by omega) (by omega) (by omega) (by
     have:=hr.step O a8 a1 c3;rwa[show a+(1+k+a4)=a+1+k+a4 by omega]at this) (d4.more [_])
    rw[d0]at this;exact this
theorem PJ (a7:s.size<4611686018427387904)(c7:0<s.size):lP TP 113 ⟨[.string s]⟩ [] (FD (mf (bb s))):=by
 intro W hm;have c9:=lB s;have a1:0<(bb s).length:=by omega
 obtain⟨b,r,e1,c6,a2⟩:=drop_cons a1;rw[aU]at e1;have a8:=rC (s:=s) a1;rw[a2]at a8;refine Pf s [] hm fun B=>⟨⟨by omega,by omega⟩,fun a4=>kR ?_,fun a4 c5=>?_⟩
 ·have:b=0:=a8.1 a4
  rw[e1,mf,if_pos this];exact⟨none,0,rfl,lj.oz⟩
 have b7:b≠0:=fun e=>a4 (a8.2 e)
 have M:=KX (rd:=ml) a1;rw[aU,a2]at M;have O:mf (bb s)=match me ml (bb s)with
  |none=>none
  |some (g,k)=>if g<1 then none else(pR ((bb s).drop k) 1).map fun q=>(g,q.1,k+q.2):=by
  rw[e1,mf,if_neg b7];rfl
 have bad:∀L,mf (bb s)=none→FD (mf (bb s)) (.agg ⟨qZ true true 0 none 0 0 0⟩) L:=fun L h=>by rw[h];rfl
 refine eA.pure (wS s _ a7) ?_;have a9:=sI (s:=s) (st:=(0+1,0)) (by show 0+1≤_;omega) rfl;simp only at a9;have b5:oH s 1=_:=a9;rw[b5];cases hr1:ml ((bb s).drop (0+1))with
 | none=>
  have a3:mf (bb s)=none:=by
   have:me ml (bb s)=none:=by rw[M,hr1];split<;>rfl
   rw[O,this]
  exact⟨_,_,_,rfl,rfl,⟨by omega,by omega⟩,fun _=>kR (bad _ a3),fun _=>⟨fun _=>kR (bad _ a3),fun h=>absurd h (by decide)⟩⟩
 | some q=>
  obtain⟨g,k⟩:=q;have c2:=(pk hr1).2.1;rw[aZ]at c2;refine⟨_,_,_,rfl,rfl,⟨by omega,by omega⟩,fun a5=>kR (bad _ ?_),fun a5=>⟨fun h=>absurd rfl h,fun _=>⟨fun a6=>kR (bad _ ?_),fun a6=>?_⟩⟩⟩
  ·rw[O,M,if_neg fun e=>a5 ((uG a1).2 (a2.trans e))]
  ·rw [O]
   cases hf:me ml (bb s)with
   |none=>rfl
   | some q=>
    obtain⟨b3,k'⟩:=q;have:b3=g:=by
     rw[hf,hr1]at M;simp only at M;split at M
     ·split at M
      ·cases M
      ·split at M
       ·cases M;rfl
       ·cases M
     ·cases M
    show(if b3<1 then none else _)=none;rw[this,if_pos a6]
  have b9:b=1:=a2.symm.trans ((uG a1).1 a5);rw[if_pos b9,hr1]at M;simp only at M;refine eA.pure (wS s _ a7) ?_;have b1:=sI (s:=s) (st:=(0+1+k,0)) (by show 0+1+k≤_;omega) rfl;simp only at b1;rw[b1];cases hr2:ml ((bb s).drop (0+1+k))with
  |none=>
   rw[hr2]at M;have a3:mf (bb s)=none:=by rw[O,M]
   exact⟨_,_,_,rfl,rfl,fun _=>kR (bad _ a3),fun h=>absurd h (by decide)⟩
  | some q=>
   obtain⟨cc,V⟩:=q;have c3:=(pk hr2).2.1;rw[aZ]at c3;rw[hr2]at M;simp only at M;refine⟨_,_,_,rfl,rfl,fun h=>absurd rfl h,fun _=>⟨⟨by omega,by omega,by omega⟩,?_⟩⟩;have b4:bb (s.extract (ad (1:Int)) (ad ((0+1+k:Nat):Int)))=((bb s).drop (0+1)).take k:=by
    rw[tA,ai];congr 1;show 0+1+k-1=k;omega
   refine eA.pure (Eh _ (by rw[di];omega)) ⟨_,rfl,rfl,?_⟩;rw[b4];refine⟨fun hc=>kR (bad _ (by rw[O,M,if_neg hc])),fun hc B2=>?_⟩;rw[if_pos hc]at M;rw[M]at O;simp only at O;rw[if_neg a6]at O;have c4:1+k+V=0+1+k+V:=by omega
   refine GO (a0:=1+k+V) a7 (by omega) (fun h L=>bad L (by rw[O,h];rfl)) (fun l e h c8 p c F x y z b6=>?_) (bb s).length (0+1+k+V) [] none 0 [] (by omega) (by omega) (by simp) (by rw[←c4];exact pA.start _ _) lj.oz;rw[O,h];refine⟨p,c,?_,b6.more [x,y,z]⟩;show _=Value.agg ⟨qZ (decide (0<g)) false g p l.length c ((1+k+V+(e-(1+k+V)):Nat):Int)⟩;rw[show 1+k+V+(e-(1+k+V))=e by omega,decide_eq_true (show 0<g by omega)]
end look
variable {P:Program}{R:Ending→World→Prop}{S:List Nat}{w0 W:World}{lk:Lk}{tp bp ap:OA}{tc bc ac:Nat}{K K':Value→aX→Prop}{args:Array Value}{g:FuncId}
abbrev zO10aa (a:dF)(b x2 x3:Nat)(x4 x5 c:OA):Array aa:= #[IV a.n,IV a.time,IV a.kind,IV a.story,.string a.lang,IV a.rev,IV a.base,.string a.title,.string a.author,.slice x4 a.topics.length b,.slice x5 a.blocks.length x2,IV a.lab.unt,.slice c a.lab.after.length x3,IV a.lab.appr,IV a.lab.den,IV a.editor,IV a.block,IV a.sentence,.string a.text,.string a.name,IV a.partner,IV a.cls,IV a.unt]
abbrev zO10ab (a:dF):Array aa:= #[IV a.n,IV a.time,IV 10,IV a.story,sZ,IV 0,IV 0,sZ,sZ,.slice none 0 0,.slice none 0 0,IV 0,.slice none 0 0,IV 0,IV 0,IV 0,IV 0,IV 0,sZ,sZ,IV 0,IV 0,IV 0]
abbrev zO10ac:Array aa:= #[IV 0,IV 0,IV 0,IV 0,sZ,IV 0,IV 0,sZ,sZ,.slice none 0 0,.slice none 0 0,IV 0,.slice none 0 0,IV 0,IV 0,IV 0,IV 0,IV 0,sZ,sZ,IV 0,IV 0,IV 0]
noncomputable def yq (e:OA)(d c:Nat)(h:OA)(g f:Nat)(b:Int)(a:aX)(S:List Nat):Cut:=⟨TP,S,117,52,(KC Tryz.f117 116),[(0,.slice e d c),(3,.slice h g f),(4,IV b)],(a)⟩
noncomputable def vl (a:Nat)(g:OA)(f e:Nat)(j:OA)(i h:Nat)(c d:Int)(k:dF)(q:OA)(p:Nat)(o:OA)(n:Nat)(m:OA)(l:Nat)(b:aX)(S:List Nat):Cut:=⟨TP,S,117,52,(KC Tryz.f117 29844),[(0,.slice g f e),(3,.slice j i h),(4,IV c),(5,PP a),(6,IV d)],((a,.cells (zO10aa k p n l q o m) 38)::b)⟩
theorem JW (k:OA)(e g:Nat)(j:OA)(i h:Nat)(b:Int)(d:aX)(H:VP S w0 R (.P 8 10 (b<(e:Int)) (.r 8<|.x2 fun f c=>.sp k f c [0,8,13]<|.iL f c e g 23 b (c+((ad b)*23))<|.x5 fun cw (a:dF) m1tp m1tc m1bp=>.x3 fun o m l=>.yN (d) f (c+((ad b)*23)) 23 38 cw (kAaq a m1tp m1tc m1bp o m l)<|.nf 0 (.cells zO10ac 38) fun B=>.ru [200]<|.cT 8 [0] 1 (vl B (some ⟨f,c,none⟩) e g j i h b 0 a m1tp m1tc m1bp o m l d S))<|.re 7 (.slice j i h) (d))):yq k e g j i h b d S w0 R:=VC.go jd _ H
theorem MG (p:Nat)(x:OA)(g h:Nat)(w:OA)(q u:Nat)(e f:Int)(a:dF)(o:OA)(m:Nat)(l:OA)(k:Nat)(j:OA)(i:Nat)(s:aX)(H:VP S w0 R (.hp ((p,.cells (zO10aa a m k i o l j) 38)::s) fun t=>.P 8 20 (f<(g:Int)) (.r 5<|.dr 19<|.qu [2]<|.x2 fun d c=>.sp x d c [0,18,23]<|.iL d c g h 23 f (c+((ad f)*23))<|.qu [1]<|.x2 fun Q A=>.lT t d ((c+((ad f)*23))+2) 3 Q (IV A)<|.qu [2]<|.zP 29 (A=6) (.qu [2]<|.iL d c g h 23 f (c+((ad f)*23))<|.qu [1]<|.x2 fun U C=>.lT t d ((c+((ad f)*23))+3) 3 U (IV C)<|.qu [2]<|.iL d c g h 23 e (c+((ad e)*23))<|.qu [1]<|.x2 fun V D=>.lT t d ((c+((ad e)*23))+3) 3 V (IV D)<|.qu [2]<|.dn<|.P 1 41 (C=D) (.r 4<|.iL d c g h 23 e (c+((ad e)*23))<|.x5 fun cw4 (b:dF) m51tp m51tc m51bp=>.x3 fun G F E=>.yN t d (c+((ad e)*23)) 23 38 cw4 (kAaq b m51tp m51tc m51bp G F E)<|.cl 0 159 [.agg (zO10aa b m51tc G E m51tp m51bp F)] t<|.x5 fun(M:dF) r1tp r1tc r1bp r1bc=>.x2 fun O N=>.rt (.agg (zO10aa M r1tc r1bc N r1tp r1bp O)) t<|.ru [200]<|.li 6 6 (ab.wrap (f+1)) fun Y=>.cT 2 [0] 1 (vl p (some ⟨d,c,none⟩) g h w q u e Y M r1tp r1tc r1bp r1bc O N s S))<|.li 7 6 (ab.wrap (f+1)) fun Z=>.cT 2 [0] 1 (vl p (some ⟨d,c,none⟩) g h w q u e Z a o m l k j i s S))<|.qu [12]<|.dn<|.li 8 6 (ab.wrap (f+1)) fun a0=>.cT 2 [0] 1 (vl p (some ⟨d,c,none⟩) g h w q u e a0 a o m l k j i s S))<|.ru [4,200]<|.ns true 1 (.cells (zO10aa a m k i o l j) 38) fun y=>.apd 0 y 38 38 23 22 22 (.slice w q u) 1 1 (kAaq a o m l k j i) ((y,.cells (zO10aa a m k i o l j) 38)::(p,.cells (zO10aa a m k i o l j) 38)::s)<|.x3 fun ap (z:Nat) F3=>.rt (.slice ap (q+1) z) ((p,.cells (zO10aa a m k i o l j) 38)::F3)<|.li 7 4 (ab.wrap (e+1)) fun X=>.cT 2 [] 1 (yq x g h ap (q+1) z X F3 S))):vl p x g h w q u e f a o m l k j i s S w0 R:=VC.go jd _ H
theorem U9 (d:OA)(c b:Nat)(a:aX)(hm:Mem (a) S w0 W)(H:VP S w0 R (.cT 15 [] 0 (yq d c b none 0 0 0 a S))):aE TP 117 ⟨[.slice d c b]⟩ W R:=VC.cs jd hm _ H
theorem ID (a:dF)(g:OA)(f:Nat)(e:OA)(d:Nat)(c:OA)(b:Nat)(hm:Mem [] [] w0 W)(H:VP [] w0 R (.np 2 (.cells (zO10aa a f d b g e c) 38) fun B=>.np 0 (.cells zO10ac 38) fun h=>.ru [5,200]<|.P 2 6 (a.kind=1) (.ru [14,200,1,200,1,200,1,201]<|.r 1<|.rc 1 0 (.agg (zO10ab a)) [(B,.cells (zO10aa a f d b g e c) 38),(h,.cells (zO10ab a) 38)])<|.ru [1,200]<|.P 3 11 (a.kind=4) (.ru [9,200,1,200,1,200,1,201]<|.r 1<|.rc 1 0 (.agg (zO10ab a)) [(B,.cells (zO10aa a f d b g e c) 38),(h,.cells (zO10ab a) 38)])<|.ru [1,200]<|.P 3 15 (a.kind=5) (.ru [4,200,1,200,1,200,1,201]<|.r 1<|.rc 1 0 (.agg (zO10ab a)) [(B,.cells (zO10aa a f d b g e c) 38),(h,.cells (zO10ab a) 38)])<|.ru [4,200,201]<|.r 1<|.rc 1 0 (.agg (zO10aa a f d b g e c)) [(B,.cells (zO10aa a f d b g e c) 38),(h,.cells (zO10aa a f d b g e c) 38)])):aE TP 159 ⟨[.agg (zO10aa a f d b g e c)]⟩ W R:=VC.cs Tryz.func159 hm _ H
theorem O0 {lk:Lk}{f:dF}{tp bp ap:OA}{tc bc ac:Nat}(h:lv lk f tp tc bp bc ap ac):
  ∃a3 a2 a1 V O M,lv lk (nn f) a3 a2 a1 V O M∧l9 TP 159 ⟨[.agg ⟨f.cells tp tc bp bc ap ac⟩]⟩ (.agg ⟨(nn f).cells a3 a2 a1 V O M⟩):=by
 by_cases hk:uE f.kind=true
 ·have e:nn f=vX f:=if_pos hk
  rw[e];refine⟨none,0,none,0,none,0,JZ,fun W=>ID f tp tc bp bc ap ac (Mem.start [] W) fun B a4=>⟨fun h=>lf rfl,fun a5=>⟨fun h=>lf rfl,fun a6=>⟨fun h=>lf rfl,fun a7=>?_⟩⟩⟩⟩;simp only[uE,decide_eq_true_eq]at hk;omega
 ·have e:nn f=f:=if_neg hk
  rw[e];simp only[uE,decide_eq_true_eq]at hk;exact⟨tp,tc,bp,bc,ap,ac,h,fun W=>ID f tp tc bp bc ap ac (Mem.start [] W) fun B a4=>⟨fun h=>absurd h (by omega),fun a5=>⟨fun h=>absurd h (by omega),fun a6=>⟨fun h=>absurd h (by omega),fun a7=>lf rfl⟩⟩⟩⟩
theorem Eg {c l:List aa}{off n j:Nat}(h:(c.drop off).take n=l)(M:j<n):c[off+j]?=l[j]?:=by rw[←h,bh M,cd]
section redd
variable {lk:Lk}{fs:List dF}{p:Option Addr}{c:Nat}{T:aX}
theorem CI (h:lj lk fs p c T){i:Nat}(hi:i<fs.length){L:aX}(a2:∀x∈T,x∈L):
  ∃Q o cs tp tc bp bc ap ac,p=some ⟨Q,o,none⟩∧(∃t fz,(Q,bu ⟨cs⟩ t fz)∈L)∧o+i*23+23≤cs.length∧(cs.drop (o+i*23)).take 23=(fs[i]'(hi)).cells tp tc bp bc ap ac∧lv (mJ T lk) (fs[i]'(hi)) tp tc bp bc ap ac:=by
 obtain⟨a5,⟨_,_,rfl⟩|⟨Q,cs,a4,rfl,M,a6,O⟩⟩:=h
 ·simp at hi
 ·obtain⟨a7,tp,tc,bp,bc,ap,ac,V,a1⟩:=O i hi
  exact⟨Q,0,cs,tp,tc,bp,bc,ap,ac,rfl,⟨_,_,a2 _ (M.mem_iff.2 au)⟩,by omega,by rw[az];exact V,a1.mono (oR fun x a3=>M.mem_iff.2 (ag _ a3))⟩
theorem lj.RY {N:aX}(h:lj (mJ T lk) fs p c N):lj lk fs p c (N++T):=by
 obtain⟨a1,O|⟨Q,cs,a2,e,O,a3,a4⟩⟩:=h
 ·exact⟨a1,.inl O⟩
 ·refine⟨a1,.inr ⟨Q,cs,a2++T,e,O.append_right T,a3,a4.mono ?_⟩⟩
  rintro b c (M|M|M)
  ·exact .inl (mR (fun x V=>ay _ V) b c M)
  ·exact .inl (mR (fun x V=>ak _ V) b c M)
  ·exact .inr M
abbrev we (fs:List dF)(t:List dF)(f:dF):dF:=if q7 t f.story=true then nn f else f
theorem sS {x y:Nat×Obj}{N T F:aX}(h:F.Perm (N++T)):(y::x::F).Perm (N++(T++[y,x])):=lR fun c w M O V a1=>by
 have:=a1 _ _ h;simp only[M,O,V]at this ⊢;omega
theorem UZ {x y:Nat×Obj}{N T L:aX}(h:L.Perm (N++(T++[y,x]))):L.Perm (x::((y::N)++T)):=lR fun c w M O V a1=>by
 have:=a1 _ _ h;simp only[M,O,V]at this ⊢;omega
theorem CX (a7:lj lk fs p c T)(c7:fs.length≤1000){w0:aj}{S:List Nat}{R:bJ→aj→Prop}{B:Nat}{op:OA}{b7 i:Nat}(hi:i<fs.length){a6:aX}(a9:∀x∈T,x∈a6)
  (b1:∀u a3 a2 a1 V O M B2,u=we fs fs (fs[i]'(hi))→lv (mJ T lk) u a3 a2 a1 V O M→mM TP 23 22 22 (.slice op i b7) 1 (u.cells a3 a2 a1 V O M) (fH B2 (u.cells a3 a2 a1 V O M)::fH B (u.cells a3 a2 a1 V O M)::a6) S w0
   (fun v L=>∃ap ac b9,v=.slice ap (i+1) ac∧L=fH B (u.cells a3 a2 a1 V O M)::b9∧∀c9,c9=ab.wrap ((i:Int)+1)→yq p fs.length c ap (i+1) ac c9 b9 S w0 R)):
  ∀(g k:Nat) (u:dF) (a3:OA) (a2:Nat) (a1:OA) (V:Nat) (O:OA) (M:Nat),g+k=fs.length→u=we fs (fs.take k) (fs[i]'(hi))→lv (mJ T lk) u a3 a2 a1 V O M→
   vl B p fs.length c op i b7 (i:Int) (k:Int) u a3 a2 a1 V O M a6 S w0 R
 |0,k,u,a3,a2,a1,V,O,M,hg,hu,hU=>by
  apply MG;rw[aK (by omega)]at hu;exact no (by omega) fun B2=>b1 u a3 a2 a1 V O M B2 hu hU
 | g+1,k,u,a3,a2,a1,V,O,M,hg,hu,hU=>by
  apply MG;have a4:k<fs.length:=by omega
  have c8:∀x∈T,x∈(fH B (u.cells a3 a2 a1 V O M)::a6):=fun x b6=>ag _ (a9 x b6)
  obtain⟨Q,o,cs,tp,tc,bp,bc,ap,ac,e1,c3,e4,c5,e6⟩:=CI a7 a4 c8;obtain⟨e3,o',c2,e2,d9,d3,d2,d1,d0,d7,c4,e5,c6,d8⟩:=CI a7 hi c8;have wv:=e1.symm.trans d7;simp only[Option.some.injEq,Addr.mk.injEq,and_true]at wv;obtain⟨rfl,rfl⟩:=wv;have b5:=ES (fs.take k) (fs[k]'(a4)) (fs[i]'(hi)).story;rw[v7 a4]at b5;have d4:=Eg (j:=2) c5 (by decide);have d5:=Eg (j:=3) c5 (by decide);have d6:=Eg (j:=3) c6 (by decide);have same:(decide ((fs[k]'(a4)).kind=6)&&decide ((fs[k]'(a4)).story=(fs[i]'(hi)).story))=false→u=we fs (fs.take (k+1)) (fs[i]'(hi)):=fun h=>by
   rw[hu,we,we,b5,h,Bool.or_false]
  have go:∀a5,a5=ab.wrap ((k:Int)+1)→(decide ((fs[k]'(a4)).kind=6)&&decide ((fs[k]'(a4)).story=(fs[i]'(hi)).story))=false→vl B p fs.length c op i b7 (i:Int) a5 u a3 a2 a1 V O M a6 S w0 R:=by
   rintro _ rfl h;rw[kS (by omega),show(k:Int)+1=((k+1:Nat):Int)by omega];exact CX a7 c7 hi a9 b1 g (k+1) u a3 a2 a1 V O M (by omega) (same h) hU
  refine yes (by omega) ⟨Q,o,e1,by omega,cs,_,c3,by rw[ai];exact d4,fun a8=>?_,fun a8 a5 b3=>e1▸go a5 b3 (by rw[decide_eq_false a8,Bool.false_and])⟩;refine⟨by omega,cs,_,c3,by rw[ai];exact d5,by omega,c2,_,c4,by rw[ai];exact d6,fun b4=>?_,fun b4 a5 b3=>e1▸go a5 b3 (by rw[decide_eq_false b4,Bool.and_false])⟩;refine⟨by omega,c2,_,e2,d9,d3,d2,d1,d0,c4,⟨by rw[ai];exact c6,by rw[ai];omega⟩,?_⟩;obtain⟨xp,xc,yp,yc,zp,zc,b6,hc⟩:=O0 d8;refine eA.pure hc ⟨_,xp,xc,yp,yc,zp,zc,rfl,rfl,?_⟩;rintro _ rfl;rw[kS (by omega),show(k:Int)+1=((k+1:Nat):Int)by omega,←e1];refine CX a7 c7 hi a9 b1 g (k+1) _ xp xc yp yc zp zc (by omega) ?_ b6;rw[we,b5,decide_eq_true a8,decide_eq_true b4,Bool.and_true,Bool.or_true,if_pos rfl]
theorem K1 (V:lj lk fs p c T)(a2:fs.length≤1000){w0:aj}{S:List Nat}{K:aa→aX→Prop}(a1:∀op O N M,M.Perm (N++T)→lj (mJ T lk) (l5 fs) op O N→K (.slice op fs.length O) M):
  ∀(g i:Nat) (op:OA) (O:Nat) (N M:aX),g+i=fs.length→M.Perm (N++T)→lj (mJ T lk) (nN fs (fs.take i)) op O N→
   yq p fs.length c op i O (i:Int) M S w0 (fun e b1=>∃v L',e=.returned v∧Mem L' S w0 b1∧K v L')
 |0,i,op,O,N,M,hg,hp,hN=>by
  apply JW;rw[aK (by omega)]at hN;have e:i=fs.length:=by omega
  refine no (by omega) (kR ?_);rw[e];exact a1 op O N M hp hN
 | g+1,i,op,O,N,M,hg,hp,hN=>by
  apply JW;have hi:i<fs.length:=by omega
  have a3:∀x∈T,x∈M:=fun x b9=>hp.mem_iff.2 (ak _ b9)
  obtain⟨Q,o,cs,tp,tc,bp,bc,ap,ac,e1,b3,c6,b4,b5⟩:=CI V hi a3;refine yes (by omega) ⟨Q,o,e1,by omega,cs,_,tp,tc,bp,bc,ap,ac,b3,⟨by rw[ai];exact b4,by rw[ai];omega⟩,fun B=>?_⟩;rw[←e1];have b6:(nN fs (fs.take i)).length=i:=by rw[nN,List.length_map,ao];omega
  refine CX V a2 hi a3 (fun u a9 a8 a7 a6 a5 a4 B2 b7 hU=>?_) fs.length 0 _ tp tc bp bc ap ac (by omega) (by rw[dN];rfl) b5;refine(lj.push (X:=[]) (Y:=T++[fH B2 (u.cells a9 a8 a7 a6 a5 a4),fH B (u.cells a9 a8 a7 a6 a5 a4)]) hN (hU.mono p6) b6 (by omega) (sS hp)).nd ?_;rintro _ c4 ⟨p',c',c5,rfl,c2,c3,-,-⟩;refine⟨_,UZ c2,p',c',_,rfl,rfl,?_⟩;rintro _ rfl;rw[kS (by omega),show(i:Int)+1=((i+1:Nat):Int)by omega];refine K1 V a2 a1 g (i+1) p' c' _ _ (by omega) (ah _) ?_;have e:nN fs (fs.take (i+1))=nN fs (fs.take i)++[u]:=by
   rw[←v7 hi,nN,List.map_append,b7];rfl
  rw[e];exact c3.more [_]
theorem Ws (a1:lj lk fs p c T)(a2:fs.length≤1000):lP TP 117 ⟨[.slice p fs.length c]⟩ T (fun v L'=>∃op M N,v=.slice op fs.length M∧L'.Perm (N++T)∧lj (mJ T lk) (l5 fs) op M N):=by
 intro W hm;exact U9 p fs.length c T hm (K1 a1 a2 (fun op M N a3 O V=>⟨op,M,N,rfl,O,V⟩) fs.length 0 none 0 [] T (by omega) (ah _) lj.oz)
end redd
abbrev zO11aa (a:dF)(b x2 x3:Nat)(x4 x5 c:OA):Array aa:= #[IV a.n,IV a.time,IV a.kind,IV a.story,.string a.lang,IV a.rev,IV a.base,.string a.title,.string a.author,.slice x4 a.topics.length b,.slice x5 a.blocks.length x2,IV a.lab.unt,.slice c a.lab.after.length x3,IV a.lab.appr,IV a.lab.den,IV a.editor,IV a.block,IV a.sentence,.string a.text,.string a.name,IV a.partner,IV a.cls,IV a.unt]
theorem Q5 (K:Nat)(a:dF)(h:OA)(g:Nat)(e:OA)(d:Nat)(c:OA)(b k:Nat)(sz j gen i:Int)(m:OA)(f l:Nat)(s:Bool)(t:aX)(hm:Mem (kDkq K k sz j gen i m f l s t) S w0 W)(H:VP S w0 R (.nf 2 (.cells (zO11aa a g d b h e c) 38) fun B=>.hp ((B,.cells (zO11aa a g d b h e c) 38)::(kAdq K k sz j gen i m f l s)::t) fun o=>.ru [4,200]<|.cl 0 94 [.agg (zO11aa a g d b h e c)] o<|.ex fun A=>.rt (.bool A) o<|.r 4<|.dr 19<|.qu [3,101,1]<|.zB 15 s (.qu [14]<|.dn<|.re 6 (IV 240) o)<|.qu [1]<|.zB 16 A (.qu [4,100,3,101,4]<|.dn<|.I 1 29 (a.n=(ab.wrap ((f:Int)+1))) (.re 5 (IV 240) o)<|.ru [4,200]<|.cl 0 19 [.agg (zO11aa a g d b h e c)] o<|.ex fun p=>.rt (.string p) o<|.r 4<|.dr 12<|.qu [5,101,3,101,2]<|.dn<|.P 1 43 ((ab.wrap (sz-i))<(p.size:Int)) (.re 5 (IV 241) o)<|.r 3<|.dD<|.nm [0,3,6]<|.ph 17 [0,1,2,3,4,5,6,7,8,9,10,11,12,13,14,15] [16] 2<|.qu [4,101,3,101,4,101,2]<|.dn<|.cl 115 [IV (ab.wrap ((ab.wrap (j*sz))+i)),.string p] ((B,.cells (zO11aa a g d b h e c) 38)::(kAdq K k sz j gen i m f l s)::t)<|.x3 fun sp C x=>.rt (.slice sp 4 C) ((B,.cells (zO11aa a g d b h e c) 38)::(kAdq K k sz j gen i m f l s)::x)<|.dn<|.tl<|.cl 0 116 [PP K,.slice sp 4 C] ((B,.cells (zO11aa a g d b h e c) 38)::(kAdq K k sz j gen i m f l s)::x)<|.x3 fun u re q=>.rt (IV re) ((B,.cells (zO11aa a g d b h e c) 38)::(kAdq K k sz j gen i m f l q)::u)<|.I 8 63 (re=0) (.re 6 (IV re) ((B,.cells (zO11aa a g d b h e c) 38)::(kAdq K k sz j gen i m f l q)::u))<|.ru [8,201,5,201,11,201]<|.ex fun(D:List aa)=>.aq 23 22 22 (.slice none 0 0) (.slice m f l) f D ((B,.cells (zO11aa a g d b h e c) 38)::(K,.cells #[PP k,IV sz,IV j,IV gen,IV (ab.wrap (i+(p.size:Int))),.slice m f l,.bool q] 72)::u)<|.x3 fun ap (y:Nat) F3=>.rt (.slice ap (0+f) y) ((B,.cells (zO11aa a g d b h e c) 38)::(K,.cells #[PP k,IV sz,IV j,IV gen,IV (ab.wrap (i+(p.size:Int))),.slice m f l,.bool q] 72)::F3)<|.ru [6,200]<|.ns true 1 (.cells (zO11aa a g d b h e c) 38) fun w=>.apd 0 w 38 38 23 22 22 (.slice ap (0+f) y) 1 1 (kAaq a h g e d c b) ((w,.cells (zO11aa a g d b h e c) 38)::(B,.cells (zO11aa a g d b h e c) 38)::(K,.cells #[PP k,IV sz,IV j,IV gen,IV (ab.wrap (i+(p.size:Int))),.slice m f l,.bool q] 72)::F3)<|.x3 fun ap1 (z:Nat) F4=>.rt (.slice ap1 ((0+f)+1) z) ((B,.cells (zO11aa a g d b h e c) 38)::(K,.cells #[PP k,IV sz,IV j,IV gen,IV (ab.wrap (i+(p.size:Int))),.slice m f l,.bool q] 72)::F4)<|.ru [2,201]<|.re 5 (IV 0) ((B,.cells (zO11aa a g d b h e c) 38)::(K,.cells #[PP k,IV sz,IV j,IV gen,IV (ab.wrap (i+(p.size:Int))),.slice ap1 ((0+f)+1) z,.bool q] 72)::F4))<|.qu [13]<|.dn<|.re 6 (IV 240) o)):aE TP 76 ⟨[PP K,.agg (zO11aa a g d b h e c)]⟩ W R:=VC.cs Tryz.func76 hm _ H
abbrev yO12aa (a:Bool)(b x2 x3 x4:Int)(x5 d e f:Nat)(g:OA)(c:aX):aX:=(x5,.cells #[PP d,IV b,IV x2,IV x3,IV x4,.slice g e f,.bool a] 72)::c
noncomputable def xR (B:Nat)(d:OA)(c b:Nat)(o:BA)(e:Int)(f:Nat)(g h i j:Int)(m:OA)(l k:Nat)(n:Bool)(a:aX)(S:List Nat):Cut:=⟨TP,S,75,110,(KC Tryz.f75 1012),[(0,PP B),(3,.slice d c b),(4,.string o),(5,IV e)],(yO12aa n g h i j B f l k m a)⟩
theorem N6 (B:Nat)(A:OA)(m s:Nat)(l:BA)(k:Int)(d:Nat)(b c e f:Int)(i:OA)(h g:Nat)(j:Bool)(w:aX)(H:VP S w0 R (.hp (yO12aa j b c e f B d h g i w) fun p=>.P 8 31 (k<(m:Int)) (.r 8<|.x2 fun t o=>.sp A t o [3,29,35]<|.iL t o m s 23 k (o+((ad k)*23))<|.x5 fun cw (a:dF) m7tp m7tc m7bp=>.x3 fun M G F=>.yN p t (o+((ad k)*23)) 23 38 cw (kAaq a m7tp m7tc m7bp M G F)<|.cl 0 19 [.agg #[IV a.n,IV a.time,IV a.kind,IV a.story,.string a.lang,IV a.rev,IV a.base,.string a.title,.string a.author,.slice m7tp a.topics.length m7tc,.slice m7bp a.blocks.length M,IV a.lab.unt,.slice G a.lab.after.length F,IV a.lab.appr,IV a.lab.den,IV a.editor,IV a.block,IV a.sentence,.string a.text,.string a.name,IV a.partner,IV a.cls,IV a.unt]] p<|.ex fun C=>.rt (.string C) p<|.cc l C<|.ls 1 4 (l++C) fun U=>.li 6 5 (ab.wrap (k+1)) fun Q=>.cT 2 [0] 1 (xR B (some ⟨t,o,none⟩) m s U Q d b c e f i h g j w S))<|.ru [10,200]<|.P 2 47 (b<(l.size:Int)) (.re 5 (IV 241) p)<|.r 3<|.dr 11<|.qu [3,100,4,100,2]<|.dn<|.cl 0 115 [IV (ab.wrap ((ab.wrap (1-c))*b)),.string l] p<|.x3 fun O N x=>.rt (.slice O 4 N) (yO12aa j b c e f B d h g i x)<|.r 3<|.dD<|.nm [0,3,4,6]<|.ph 18 [0,1,2,3,4,5,6,7,8,9,10,11,12,13,14,15,16] [17] 1<|.qu [4,100,3,100,4,100]<|.ex fun q=>.qc 27 [IV b] [(kAdq B d b c e f i h g j)] (.string q)<|.qu [2]<|.dn<|.n2 2 (.cells #[IV (ab.wrap (c*b)),.string q,IV (-1:Int),sZ] 176) fun u=>.df u (.cells #[IV (ab.wrap (c*b)),.string q,IV (-1:Int),sZ] 176) (yO12aa j b c e f B d h g i x)<|.tl<|.apd 0 u 176 176 2 174 174 (.slice O 4 N) 2 2 [IV (ab.wrap (c*b)),.string q,IV (-1:Int),sZ] ((u,.cells #[IV (ab.wrap (c*b)),.string q,IV (-1:Int),sZ] 176)::(kAdq B d b c e f i h g j)::x)<|.x3 fun ap E D=>.rt (.slice ap 6 E) (yO12aa j b c e f B d h g i D)<|.cl 6 116 [PP B,.slice ap 6 E] (yO12aa j b c e f B d h g i D)<|.x3 fun y re z=>.rt (IV re) (yO12aa z b c e f B d h g i y)<|.I 8 83 (re=0) (.re 6 (IV re) (yO12aa z b c e f B d h g i y))<|.ru [8,200,3,200,7,200,3,200,8,200,7,200]<|.re 5 (IV 0) ((B,.cells #[PP d,IV b,IV (ab.wrap (1-c)),IV (ab.wrap (e+1)),IV (l.size:Int),.slice A m s,.bool z] 72)::y))):xR B A m s l k d b c e f i h g j w S w0 R:=VC.go Tryz.func75 _ H
theorem Zn (K e:Nat)(sz f gen g:Int)(d:OA)(c b:Nat)(a:Bool)(j:aX)(hm:Mem (yO12aa a sz f gen g K e c b d j) S w0 W)(H:VP S w0 R (.hp (yO12aa a sz f gen g K e c b d j) fun i=>.ru [10,200]<|.B 1 11 a (.re 5 (IV 240) i)<|.ru [8,200]<|.P 2 16 (gen=4611686018427387903) (.re 5 (IV 241) i)<|.ru [7,200]<|.cl 0 117 [.slice d c b] i<|.x4 fun sp m h sl=>.rt (.slice sp sl m) (yO12aa a sz f gen g K e c b d h)<|.hp (yO12aa a sz f gen g K e c b d h) fun k=>.ru [7,200]<|.cl 1 18 [IV (ab.wrap (gen+1))] k<|.ex fun l=>.rt (.string l) k<|.cT 9 [0] 1 (xR K sp sl m l 0 e sz f gen g d c b a h S))):aE TP 75 ⟨[PP K]⟩ W R:=VC.cs Tryz.func75 hm _ H
theorem mM.zero {P:Program}{S:List Nat}{w0:aj}{L:aX}{T U E:TypeId}{z:aa}{sz bytes:Nat}{news:List aa}(V:P.underlying T=some (.slice E))(hi:nj P E=some (some z,sz,bytes)):
  mM P sz T U (.slice none 0 0) 0 news L S w0 (fun v L'=>v=.slice none 0 0∧L'=L):=by
 intro x ty W hm O;obtain⟨i,hi,a3,a1,a2⟩:=vM hi;have M:=O.newsLen;rw[Nat.zero_mul]at M;obtain rfl:news=[]:=aQ.1 M;exact⟨_,W,L,run_append_nothing W T U ty E i V hi none 0 0 (aD _) x (by rw[a1];exact O),hm,rfl,rfl⟩
section copy
variable {lk:Lk}{fs:List dF}{p:Option Addr}{c:Nat}{G Y L:aX}{S:List Nat}{w0:World}
theorem lj.src (h:lj lk fs p c G)(a4:∀x∈G,x∈L):∃news,(∀W,Mem L S w0 W→Go.Src TP 23 22 (.slice p fs.length c) fs.length news W)∧news.length=fs.length*23∧nR (mJ G lk) news fs:=by
 obtain⟨a2,⟨rfl,rfl,rfl⟩|⟨Q,cs,a7,rfl,O,a3,V⟩⟩:=h
 ·exact⟨[],yQ (E':=38) (by kernel_rfl),rfl,fun i hi=>absurd hi (by simp)⟩
 ·have a8:fs.length*23≤cs.length:=by rw[a3];exact bI _ a2
  have a1:(cs.take (fs.length*23)).length=fs.length*23:=by rw[ao];omega
  have a5:(Q,bu ⟨cs⟩ 38)∈L:=a4 _ (O.mem_iff.2 au);refine⟨cs.take (fs.length*23),fun W hm=>ki W (e':=38) (by kernel_rfl) ⟨Q,0,none⟩ fs.length c _ a1 (fun j u M=>?_) ?_,a1,?_⟩
  ·rw[pN,az,cell_of_heap (hm.here _ a5)]
   rw[dA]at M;split at M
   ·exact M
   ·cases M
  ·have:=Fc (o:=0) (l:=fs) (fun i hi=>by rw[az];exact V i hi) fs.length (aD _)
   rwa[aU]at this
  ·intro i hi
   have hm:i*23+23≤fs.length*23:=by omega
   refine⟨by omega,?_⟩;rw[gu,gv,Nat.min_eq_left (by omega)];exact(V i hi).2.mono (oR fun x a6=>O.mem_iff.2 (ag _ a6))
theorem lj.copy {news:List aa}(h:lj lk fs p c G)(hn:news.length=fs.length*23)(M:nR (mJ G lk) news fs)(a1:fs.length≤1000000)(hp:L.Perm (G++Y)):
  mM TP 23 22 22 (.slice none 0 0) fs.length news L S w0 (fun v L'=>∃p' c' N,v=.slice p' (0+fs.length) c'∧L'.Perm (N++Y)∧lj lk fs p' c' N):=by
 rw[az];rcases Nat.eq_zero_or_pos fs.length with h0|h0
 ·rw[h0]
  refine(mM.zero (E:=38) (z:=.agg ⟨dF.zero.cells none 0 none 0 none 0⟩) (sz:=23) (bytes:=272) (by kernel_rfl) (by kernel_rfl)).mono ?_;rintro _ _ ⟨rfl,rfl⟩;have e:fs=[]:=aQ.1 h0;subst e;exact⟨none,0,G,rfl,hp,lj.oz⟩
 ·refine(mM.nil (T:=22) (E:=38) (z:=.agg ⟨dF.zero.cells none 0 none 0 none 0⟩) (sz:=23) (bytes:=272) (by kernel_rfl) (by kernel_rfl) rfl h0 ⟨by omega,by omega⟩).mono ?_
  rintro _ _ ⟨B,cap,r,rfl,O,V,rfl⟩;exact⟨some ⟨B,0,none⟩,cap,(B,.cells ⟨news++r⟩ 38)::G,rfl,aw.trans (List.Perm.cons _ hp),O,.inr ⟨B,_,G,rfl,ah _,V,M.vO⟩⟩
end copy
def KD (lk:Lk)(K D:Nat)(m:JM)(d:DS)(L:aX):Prop:=∃F p c T,L.Perm (kJ K D (m.js p c)::(F++T))∧mQ D d F∧lj lk m.fs p c T
def sK (lk:Lk)(S:List Nat)(W:aj):Prop:=∀b c,lk b c→qb S W b c
section perms
variable (x y z:Nat×Obj)(A F T X N L:aX)
theorem Nr:(x::y::(F++T)).Perm (y::(F++(x::T))):=perm_a
theorem VG:(X++(x::y::(F++T))).Perm (x::y::(X++(F++T))):=perm_a
theorem Y5:((y::(F++(T++X)))++[x]).Perm (x::y::(X++(F++T))):=perm_a
theorem QV:((y::(F++(T++X)))++[x]).Perm (x::y::(F++(T++X))):=perm_a
theorem R4:(x::y::(F++(T++X))).Perm (T++(x::y::(F++X))):=perm_a
theorem ON (hp:L.Perm (N++(x::y::(F++X)))):L.Perm (x::y::(N++(F++X))):=lR fun c w M O V a1=>by
 have:=a1 _ _ hp;simp only[M,O,V]at this ⊢;omega
theorem UF:(z::x::y::(N++(F++X))).Perm (N++(z::x::y::(F++X))):=perm_a
theorem SI (hp:L.Perm (N++(z::x::y::(F++X)))):L.Perm (x::y::(z::(N++(F++X)))):=lR fun c w M O V a1=>by
 have:=a1 _ _ hp;simp only[M,O,V]at this ⊢;omega
theorem Pv:(x::y::(z::(N++(F++X)))).Perm (y::(F++((x::z::X)++N))):=perm_a
end perms
theorem RM {lk:Lk}{K D:Nat}{m:JM}{d:DS}{L:aX}{f:dF}{tp bp ap:OA}{tc bc ac:Nat}(h:KD lk K D m d L)(hm:nQ m)(hp:d.pend.length<900000)(a4:lv lk f tp tc bp bc ap ac):
  m0 TP 76 ⟨[pt K 0,.agg ⟨f.cells tp tc bp bc ap ac⟩]⟩ L (sK lk (L.map (·.1))) (fun v L'=>v=.int .i64 (mw m d f).1∧KD lk K D (mw m d f).2.1 (mw m d f).2.2 L'):=by
 obtain⟨F,p,c,T,c8,b1,a1⟩:=h;intro W d3 b5;generalize L.map (·.1)=S at*;have d4:=d3.perm c8.symm;have f2:=hm.en;have d7:=hm.sz;have d2:=hm.cu;have f3:=hm.len;refine Q5 K f tp tc bp bc ap ac D (m.sz:Int) (m.cu:Int) m.gen (m.en:Int) p m.fs.length c m.br (F++T) d4 fun B=>?_
 have V:∀{e:Int} {a7:JM×DS},(e,a7)=mw m d f→a7=(m,d)→Fin (fun e a2=>∃v L',e=.returned v∧Mem L' S W a2∧v=.int .i64 (mw m d f).1∧KD lk K D (mw m d f).2.1 (mw m d f).2.2 L') (fH B (f.cells tp tc bp bc ap ac)::kJ K D (m.js p c)::(F++T)) S W (.int .i64 e):=by
  intro e a7 c6 c7;subst c7;rw[←c6];exact kR ⟨rfl,F,p,c,_,Nr _ _ _ _,b1,a1.more [_]⟩
 refine eA.pw (fun a2 a5=>DL (a4.mono (vo b5 a5))) ⟨f.ok,rfl,rfl,fun M=>V (by rw[mw,if_pos M]) rfl,fun M=>⟨fun O=>?_,fun O=>V (by rw[mw,if_neg (by rw[M];decide),if_pos O]) rfl⟩⟩;rw[kS (by omega),show(m.fs.length:Int)+1=((m.fs.length+1:Nat):Int)by omega];refine⟨fun hn=>V (by rw[mw,if_neg (by rw[M];decide),if_neg (by rw[O];decide),if_pos hn]) rfl,fun hn=>?_⟩;refine eA.pw (fun a2 a5=>Hz (a4.mono (vo b5 a5)) O) ⟨_,rfl,rfl,?_⟩;rw[kS (by omega)];refine⟨fun a6=>V (by rw[mw,if_neg (by rw[M];decide),if_neg (by rw[O];decide),if_neg (by simpa using hn),if_pos (by rw[lY]at a6;omega)]) rfl,fun a6=>?_⟩;rw[lY]at a6;have hcs:m.cu*m.sz≤1*2097152:=dp d2 d7;have c4:ab.wrap (ab.wrap ((m.cu:Int)*(m.sz:Int))+(m.en:Int))=((m.cu*m.sz+m.en:Nat):Int):=by
  have e1:ab.wrap ((m.cu*m.sz:Nat):Int)=((m.cu*m.sz:Nat):Int):=kS (by omega);rw[show(m.cu:Int)*(m.sz:Int)=((m.cu*m.sz:Nat):Int)by simp,e1,kS (by omega)];omega
 rw[c4];have d6:1≤(ba (lJ f)).size:=by rw[lY];show 1≤(mD _).length;rw[mD];simp
 refine eA.lF (L0:=[]) (L1:=fH B (f.cells tp tc bp bc ap ac)::kJ K D (m.js p c)::(F++T)) (Dx d6 (by omega)) (ah _) ?_;rintro _ X ⟨sp,sc,rfl,c9⟩;refine⟨_,VG _ _ _ _ _,sp,sc,_,rfl,rfl,?_⟩;have d0:uX (l8 ((m.cu*m.sz+m.en:Nat):Int) (ba (lJ f))) sp sc (T++X):=c9.more T;have d5:∀o∈l8 ((m.cu*m.sz+m.en:Nat):Int) (ba (lJ f)),o.pos:=by
  intro o b7;simp only[l8,bT,bG,or_false]at b7;rcases b7 with rfl|rfl|rfl|rfl<;>simp only[lC.pos]<;>omega
 refine eA.lF (L0:=kJ K D (m.js p c)::(F++(T++X))) (L1:=[fH B (f.cells tp tc bp bc ap ac)]) (DO (j:=m.js p c) d0 (by show 4≤1000;omega) d5 b1 hp) (Y5 _ _ _ _ _) ?_;rintro _ _ ⟨F',rfl,rfl,b3⟩;have a9:mw m d f=if(ln (l8 ((m.cu*m.sz+m.en:Nat):Int) (ba (lJ f))) d).1=0 then(0,{m with fs:=m.fs++[f],en:=m.en+(lJ f).length},(ln (l8 ((m.cu*m.sz+m.en:Nat):Int) (ba (lJ f))) d).2)
   else((ln (l8 ((m.cu*m.sz+m.en:Nat):Int) (ba (lJ f))) d).1,{m with br:=true},(ln (l8 ((m.cu*m.sz+m.en:Nat):Int) (ba (lJ f))) d).2):=by
  rw[mw,if_neg (by rw[M];decide),if_neg (by rw[O];decide),if_neg (by simpa using hn),if_neg (by omega)]
 generalize ln (l8 ((m.cu*m.sz+m.en:Nat):Int) (ba (lJ f))) d=r at*;have d1:kJ K D ((m.js p c).after r.1)=(K,.cells #[.pointer (SO D),.int .i64 m.sz,.int .i64 m.cu,.int .i64 m.gen,.int .i64 m.en,.slice p m.fs.length c,.bool ((m.js p c).after r.1).br] 72):=by
  unfold JS.after;split<;>rfl
 rw[d1];refine⟨_,QV _ _ _ _ _,F'++(T++X),r.1,((m.js p c).after r.1).br,rfl,rfl,fun b6=>?_,fun b4=>?_⟩
 ·rw[a9,if_neg b6]
  have a3:((m.js p c).after r.1).br=true:=by rw[JS.after,if_neg b6]
  rw[a3];exact kR ⟨rfl,F',p,c,_,Nr _ _ _ _,b3,((a1.more X).perm aw).more [_]⟩
 ·have a3:((m.js p c).after r.1).br=m.br:=by rw[JS.after,if_pos b4]
  rw[a3];have c5:ab.wrap ((m.en:Int)+((ba (lJ f)).size:Int))=((m.en+(lJ f).length:Nat):Int):=by rw[lY,kS (by omega)];omega
  rw[c5];obtain⟨news,e5,e6,e7⟩:=a1.src (L:=fH B (f.cells tp tc bp bc ap ac)::(K,.cells #[.pointer (SO D),.int .i64 m.sz,.int .i64 m.cu,.int .i64 m.gen,.int .i64 ((m.en+(lJ f).length:Nat):Int),.slice p m.fs.length c,.bool m.br] 72)::(F'++(T++X))) (S:=S) (w0:=W) fun x d8=>by simp[d8]
  refine⟨news,e5,?_⟩;refine(a1.copy e6 e7 (by omega) (R4 _ _ _ _ _)).nd ?_;rintro _ L1 ⟨p1,c1,N,rfl,d9,e2⟩;refine⟨_,ON _ _ _ _ _ _ d9,p1,c1,_,rfl,rfl,fun c2=>?_⟩;refine(lj.push (X:=[]) (Y:=fH c2 (f.cells tp tc bp bc ap ac)::fH B (f.cells tp tc bp bc ap ac)::(K,.cells #[.pointer (SO D),.int .i64 m.sz,.int .i64 m.cu,.int .i64 m.gen,.int .i64 ((m.en+(lJ f).length:Nat):Int),.slice p m.fs.length c,.bool m.br] 72)::(F'++X)) e2 (a4.mono p6) (az _).symm (by omega) (UF _ _ _ _ _ _)).nd ?_;rintro _ e8 ⟨b9,a8,e9,rfl,e3,e4,-,-⟩;refine⟨_,SI _ _ _ _ _ _ _ e3,b9,a8,_,rfl,rfl,?_⟩;rw[a9,if_pos b4];have c3:(m.fs++[f]).length=0+m.fs.length+1:=by simp
  exact kR ⟨rfl,F',b9,a8,_,by rw[JM.js,c3];exact Pv _ _ _ _ _ _,b3,e4.more _⟩
section perms
variable (x y z:Nat×Obj)(A F T X N L Z:aX)
theorem P9:(T++(y::F)).Perm (y::(F++T)):=perm_a
theorem QN (hp:L.Perm (N++T)):(L++(y::F)).Perm (y::(N++(F++T))):=lR fun c w M O V a1=>by
 have:=a1 _ _ hp;simp only[M,O,V]at this ⊢;omega
theorem Pp:(X++(y::Z)).Perm (y::(X++Z)):=cI
theorem TM:(x::y::(X++(N++(F++T)))).Perm (X++(x::y::(N++(F++T)))):=perm_a
theorem WX:(y::(N++(F++T))).Perm (y::(F++(T++N))):=perm_a
theorem P6:(((x::N)++T)++Z).Perm (x::(Z++(N++T))):=perm_a
theorem U3:(((x::N)++T)++Z).Perm ((x::(Z++N))++T):=perm_a
theorem Xg (hp:L.Perm (Z++(x::y::(N++(F++T))))):L.Perm (y::(F++(((x::N)++T)++Z))):=lR fun c w M O V a1=>by
 have:=a1 _ _ hp;simp only[M,O,V,aY]at this ⊢;omega
end perms
theorem LP {lk:Lk}{K D:Nat}{m:JM}{F T:aX}{p op:OA}{c a2:Nat}{N:aX}(hm:nQ m)(b6:m.gen+1≤4611686018427387903)(a6:lj (mJ T lk) (l5 m.fs) op a2 N){S:List Nat}{W:aj}(a3:sK lk S W){R:bJ→aj→Prop}
  (H:xR K op m.fs.length a2 (ba (cont (m.gen+1) (l5 m.fs))) (m.fs.length:Int) D (m.sz:Int) (m.cu:Int) m.gen (m.en:Int) p m.fs.length c m.br (N++(F++T)) S W R):
  ∀(g i:Nat),g+i=m.fs.length→xR K op m.fs.length a2 (ba (lA (m.gen+1)++flat ((l5 m.fs).take i))) (i:Int) D (m.sz:Int) (m.cu:Int) m.gen (m.en:Int) p m.fs.length c m.br (N++(F++T)) S W R
 |0,i,hg=>by
  have b9:=xH m.fs;rw[aK (by omega)];have e:i=m.fs.length:=by omega
  rw[e];exact H
 | g+1,i,hg=>by
  apply N6;have b9:=xH m.fs;have c4:=hm.len;have hi:i<(l5 m.fs).length:=by omega
  have a4:=AG (t:=m.fs) hm.ok;have b7:∀f∈(l5 m.fs).take i,f.ok=true:=fun f b4=>a4 f (List.mem_of_mem_take b4)
  have b5:=A9 _ b7;have c3:=tz (m.gen+1);have a5:((l5 m.fs)[i]'(hi)).ok=true:=a4 _ (bH hi);have c5:=DH a5;rw[ao]at b5;obtain⟨Q,o,cs,tp,tc,bp,bc,ap,ac,e1,a7,c2,a8,a9⟩:=CI a6 hi (L:=kJ K D (m.js p c)::(N++(F++T))) fun x a1=>ag _ (ay _ a1)
  refine yes (by omega) ⟨Q,o,e1,by omega,cs,_,tp,tc,bp,bc,ap,ac,a7,⟨by rw[ai];exact a8,by rw[ai];omega⟩,?_⟩;have b3:∀M,Mem (kJ K D (m.js p c)::(N++(F++T))) S W M→∀b c,mJ N (mJ T lk) b c→kY M b c:=by
   rintro M V b c (O|O|O)
   ·exact qt V (fun x a1=>ag _ (ay _ a1)) b c O
   ·exact qt V (fun x a1=>ag _ (ak _ (ak _ a1))) b c O
   ·exact vo a3 V b c O
  refine eA.pw (fun M V=>Hz (a9.mono (b3 M V)) a5) ⟨_,rfl,rfl,by simp only[lY,ae];omega,?_⟩;rintro _ rfl _ rfl;rw[oB,kS (by omega),show(i:Int)+1=((i+1:Nat):Int)by omega,←e1];have b1:lA (m.gen+1)++flat ((l5 m.fs).take i)++lJ ((l5 m.fs)[i]'(hi))=lA (m.gen+1)++flat ((l5 m.fs).take (i+1)):=by
   rw[←v7 hi,flat,flat,List.flatMap_append,an];simp
  rw[b1];exact LP hm b6 a6 a3 H g (i+1) (by omega)
theorem Un {lk:Lk}{K D:Nat}{m:JM}{d:DS}{L:aX}(h:KD lk K D m d L)(hm:nQ m)(hp:d.pend.length<900000):
  m0 TP 75 ⟨[pt K 0]⟩ L (sK lk (L.map (·.1))) (fun v L'=>v=.int .i64 (nz m d).1∧KD lk K D (nz m d).2.1 (nz m d).2.2 L'):=by
 obtain⟨F,p,c,T,c2,a1,M⟩:=h;intro W c9 c8;generalize L.map (·.1)=S at*;have d0:=c9.perm c2.symm;have d8:=hm.en;have b1:=hm.sz;have c6:=hm.cu;have e2:=hm.len;have d9:=hm.gen;refine Zn K D (m.sz:Int) (m.cu:Int) m.gen (m.en:Int) p m.fs.length c m.br (F++T) d0 ⟨fun V=>?_,fun V=>⟨fun c7=>?_,fun c7=>?_⟩⟩
 ·rw[nz,if_pos V];exact kR ⟨rfl,F,p,c,T,ah _,a1,M⟩
 ·rw[nz,if_neg (by rw[V];decide),if_pos (by omega)];exact kR ⟨rfl,F,p,c,T,ah _,a1,M⟩
 ·have O:nz m d=if m.sz<(cont (m.gen+1) (l5 m.fs)).length then(241,m,d)
   else if(ln (nF m) d).1=0 then(0,{gen:=m.gen+1,fs:=l5 m.fs,en:=(cont (m.gen+1) (l5 m.fs)).length,sz:=m.sz,cu:=1-m.cu,br:=m.br},(ln (nF m) d).2)
   else((ln (nF m) d).1,{m with br:=true},(ln (nF m) d).2):=by
    rw[nz,if_neg (by rw[V];decide),if_neg (by omega)]
  refine eA.lF (L0:=T) (L1:=kJ K D (m.js p c)::F) (Ws M (by omega)) (P9 _ _ _) ?_;rintro _ d6 ⟨op,b3,N,rfl,d1,a9⟩;refine⟨_,QN _ _ _ _ _ d1,op,b3,_,m.fs.length,rfl,rfl,?_⟩;have a4:ab.wrap (m.gen+1)=m.gen+1:=kS (by omega);rw[a4];refine eA.pure (D9 (by unfold lU nY;omega)) ⟨_,rfl,rfl,?_⟩;have b9:ba (lA (m.gen+1))=ba (lA (m.gen+1)++flat ((l5 m.fs).take 0)):=by rw[dN];simp[flat]
  rw[b9];refine LP (p:=p) (c:=c) hm (by omega) a9 c8 ?_ m.fs.length 0 (by omega);apply N6;refine no (by omega) ⟨fun a3=>?_,fun a3=>?_⟩
  ·rw[lY]at a3
   rw[O,if_pos (by omega)];exact kR ⟨rfl,F,p,c,T++N,WX _ _ _ _,a1,(M.more N).perm aw⟩
  ·rw[lY]at a3
   have c5:1≤(ba (cont (m.gen+1) (l5 m.fs))).size:=by
    rw[lY];show 1≤(mD _++_).length;rw[mD];simp
   have e3:(1-m.cu)*m.sz≤1*2097152:=dp (by omega) b1;have hcs:m.cu*m.sz≤1*2097152:=dp c6 b1;have b5:ab.wrap (1-(m.cu:Int))=((1-m.cu:Nat):Int):=by rw[kS (by omega)];omega
   have b6:ab.wrap (((1-m.cu:Nat):Int)*(m.sz:Int))=(((1-m.cu)*m.sz:Nat):Int):=by
    rw[show((1-m.cu:Nat):Int)*(m.sz:Int)=(((1-m.cu)*m.sz:Nat):Int)by simp,kS (by omega)]
   have b7:ab.wrap ((m.cu:Int)*(m.sz:Int))=((m.cu*m.sz:Nat):Int):=by
    rw[show(m.cu:Int)*(m.sz:Int)=((m.cu*m.sz:Nat):Int)by simp,kS (by omega)]
   rw[b5,b6];refine eA.lF (L0:=[]) (L1:=kJ K D (m.js p c)::(N++(F++T))) (Dx c5 (by omega)) (ah _) ?_;rintro _ X ⟨sp,sc,rfl,c3⟩;refine⟨_,Pp _ _ _,sp,sc,_,rfl,rfl,_,m3.of (yZ (n:=m.sz) (by omega)),fun b4=>?_⟩;rw[b7];refine(mb.push (T:=174) (m:=2) (news:=[.int .i64 ((m.cu*m.sz:Nat):Int),.string (ba (aA m.sz 0)),.int .i64 (-1),.string e0]) (Y:=(b4,.cells #[.int .i64 ((m.cu*m.sz:Nat):Int),.string (ba (aA m.sz 0)),.int .i64 (-1),.string e0] 176)::kJ K D (m.js p c)::(N++(F++T))) (bytes:=24) (z:=.agg #[.int .i64 0,.string ⟨#[]⟩]) c3 (by kernel_rfl) (by kernel_rfl) rfl (by omega) rfl ⟨by show 4+2≤2000000;omega,by omega⟩ (TM _ _ _ _ _ _)).nd ?_;rintro _ d7 ⟨p1,c1,Z,rfl,d3,d4⟩;have d5:uX (nF m) p1 c1 Z:=d4;refine⟨_,Xg _ _ _ _ _ _ _ d3,p1,c1,_,rfl,rfl,?_⟩;have d2:∀o∈nF m,o.pos:=by
    intro o a8;simp only[nF,bT,bG,or_false]at a8;rcases a8 with rfl|rfl|rfl|rfl|rfl|rfl<;>simp only[lC.pos]<;>omega
   refine eA.lF (L1:=[]) (DO (K:=K) (j:=m.js p c) (d5.more _) (by show 6≤1000;omega) d2 a1 hp) (by rw[aL]) ?_;rintro _ _ ⟨F',rfl,rfl,a5⟩;rw[if_neg (by omega)]at O;generalize ln (nF m) d=r at*;have c4:kJ K D ((m.js p c).after r.1)=(K,.cells #[.pointer (SO D),.int .i64 m.sz,.int .i64 m.cu,.int .i64 m.gen,.int .i64 m.en,.slice p m.fs.length c,.bool ((m.js p c).after r.1).br] 72):=by
    unfold JS.after;split<;>rfl
   rw[c4];refine⟨_,by rw[aL],_,r.1,((m.js p c).after r.1).br,rfl,rfl,fun a7=>?_,fun a6=>?_⟩
   ·rw[O,if_neg a7]
    have a2:((m.js p c).after r.1).br=true:=by rw[JS.after,if_neg a7]
    rw[a2];exact kR ⟨rfl,F',p,c,_,ah _,a5,(M.more (_::(Z++N))).perm (U3 _ _ _ _)⟩
   ·rw[O,if_pos a6]
    have a2:((m.js p c).after r.1).br=m.br:=by rw[JS.after,if_pos a6]
    rw[a2,a4,lY];exact kR ⟨rfl,F',op,b3,_,by rw[JM.js,xH],a5,(a9.RY.more (_::Z)).perm (P6 _ _ _ _)⟩
noncomputable def xI (a c:Nat)(f:OA)(e d:Nat)(t:OA)(s q:Nat)(g:Int)(h:Nat)(i j k l:Int)(o:OA)(n m:Nat)(p:Bool)(b:aX)(S:List Nat):Cut:=⟨TP,S,73,288,(KC eL 1012),[(0,PP c),(4,PP a),(5,.slice f e d),(6,.slice t s q),(7,IV g)],((a,.cells #[PP h,IV i,IV j,IV k,IV l,.slice o n m,.bool p] 72)::b)⟩
noncomputable def Fy (a:Nat)(e:OA)(d c:Nat)(q:OA)(p o f:Nat)(g h i j:Int)(m:OA)(l k:Nat)(n:Bool)(b:aX)(S:List Nat):Cut:=⟨TP,S,73,288,(KC eL 127),[(4,PP a),(5,.slice e d c),(6,.slice q p o)],((a,.cells #[PP f,IV g,IV h,IV i,IV j,.slice m l k,.bool n] 72)::b)⟩
noncomputable def uY (a:Nat)(e:OA)(d c:Nat)(q:OA)(p o f:Nat)(g h i j:Int)(m:OA)(l k:Nat)(n:Bool)(b:aX)(S:List Nat):Cut:=⟨TP,S,73,288,(KC eL 1023),[(4,PP a),(5,.slice e d c),(6,.slice q p o)],((a,.cells #[PP f,IV g,IV h,IV i,IV j,.slice m l k,.bool n] 72)::b)⟩
noncomputable def uk (a:Nat)(e:OA)(d c:Nat)(u:OA)(t s:Nat)(h:OA)(g f i:Nat)(j k l m:Int)(p:OA)(o n:Nat)(q:Bool)(b:aX)(S:List Nat):Cut:=⟨TP,S,73,288,(KC eL 8191),[(4,PP a),(5,.slice e d c),(6,.slice u t s),(12,.slice h g f)],((a,.cells #[PP i,IV j,IV k,IV l,IV m,.slice p o n,.bool q] 72)::b)⟩
noncomputable def xt (a:Nat)(s:OA)(q p:Nat)(f:OA)(e d:Nat)(c:Int)(g:Nat)(h i j k:Int)(n:OA)(m l:Nat)(o:Bool)(b:aX)(S:List Nat):Cut:=⟨TP,S,73,288,(KC eL 262052),[(4,PP a),(6,.slice s q p),(12,.slice f e d),(13,IV c)],((a,.cells #[PP g,IV h,IV i,IV j,IV k,.slice n m l,.bool o] 72)::b)⟩
noncomputable def Ej (a:Nat)(e:OA)(d c:Nat)(o p:Bool)(f:Nat)(g h i j:Int)(m:OA)(l k:Nat)(n:Bool)(b:aX)(S:List Nat):Cut:=⟨TP,S,73,288,(KC eL 1048574),[(4,PP a),(12,.slice e d c),(17,.bool o),(18,.bool p)],((a,.cells #[PP f,IV g,IV h,IV i,IV j,.slice m l k,.bool n] 72)::b)⟩
noncomputable def EV (a:Nat)(e:OA)(d c f:Nat)(g h i j:Int)(m:OA)(l k:Nat)(n:Bool)(b:aX)(S:List Nat):Cut:=⟨TP,S,73,288,(KC eL 65514),[(4,PP a),(12,.slice e d c)],((a,.cells #[PP f,IV g,IV h,IV i,IV j,.slice m l k,.bool n] 72)::b)⟩
noncomputable def BD (a:Nat)(e:OA)(d c:Nat)(o:Bool)(f:Nat)(g h i j:Int)(m:OA)(l k:Nat)(n:Bool)(b:aX)(S:List Nat):Cut:=⟨TP,S,73,288,(KC eL 2097150),[(4,PP a),(12,.slice e d c),(18,.bool o)],((a,.cells #[PP f,IV g,IV h,IV i,IV j,.slice m l k,.bool n] 72)::b)⟩
noncomputable def AN (a:Nat)(e:OA)(d c f:Nat)(g h i j:Int)(m:OA)(l k:Nat)(n:Bool)(b:aX)(S:List Nat):Cut:=⟨TP,S,73,288,(KC eL 65515),[(4,PP a),(12,.slice e d c)],((a,.cells #[PP f,IV g,IV h,IV i,IV j,.slice m l k,.bool n] 72)::b)⟩
noncomputable def BE (a:Nat)(e:OA)(d c f:Nat)(g h i j:Int)(m:OA)(l k:Nat)(n:Bool)(b:aX)(S:List Nat):Cut:=⟨TP,S,73,288,(KC eL 4194302),[(4,PP a),(12,.slice e d c)],((a,.cells #[PP f,IV g,IV h,IV i,IV j,.slice m l k,.bool n] 72)::b)⟩
noncomputable def AJ (a:Nat)(e:OA)(d c f:Nat)(g h i j:Int)(m:OA)(l k:Nat)(n:Bool)(b:aX)(S:List Nat):Cut:=⟨TP,S,73,288,(KC eL 4194303),[(4,PP a),(12,.slice e d c)],((a,.cells #[PP f,IV g,IV h,IV i,IV j,.slice m l k,.bool n] 72)::b)⟩
theorem EH (b x:Nat)(z:OA)(k y:Nat)(C:OA)(m A:Nat)(s:Int)(c:Nat)(a d e f:Int)(i:OA)(h g:Nat)(j:Bool)(u:aX)(H:VP S w0 R (.P 6 36 (s<2) (.r 5<|.dD<|.nm [0,4,5,6,7]<|.ph 12 [0,1,2,3,4,5,6,7,8,9,10] [11] 1<|.qu [5,100,4,100]<|.dn<|.cl 112 [PP x,IV (ab.wrap (s*a)),IV a] (kDkq b c a d e f i h g j u)<|.x3 fun w l re=>.rt (kBcq l re) (kDkq b c a d e f i h g j w)<|.dn<|.nm [0,4,5,6,7,51]<|.ph 17 [12,13,14,15,16] [] 1<|.qu [5]<|.dn<|.dn<|.tl<|.I 7 55 (re=0) (.re 7 (kCmq re) (kDkq b c a d e f i h g j w))<|.r 6<|.ns true 1 (.cells #[.string l] 9) fun D=>.apd 0 D 9 9 1 32 32 (.slice C m A) 1 1 [.string l] ((kAtq D l)::(kAdq b c a d e f i h g j)::w)<|.x3 fun ap (G:Nat) F3=>.rt (.slice ap (m+1) G) (kDkq b c a d e f i h g j F3)<|.cl 5 113 [.string l] (kDkq b c a d e f i h g j F3)<|.x5 fun t bad p hp q=>.x3 fun n o F=>.rt (kCcq t bad p hp q n o) (kDkq b c a d e f i h g j F)<|.ns true 1 (.cells #[.bool t,.bool bad,IV p,.slice hp q n,IV o] 172) fun E=>.apd 0 E 172 172 5 170 170 (.slice z k y) 1 1 [.bool t,.bool bad,IV p,.slice hp q n,IV o] ((kAfq E t bad p hp q n o)::(kAdq b c a d e f i h g j)::F)<|.x3 fun ap1 (M:Nat) F5=>.rt (.slice ap1 (k+1) M) (kDkq b c a d e f i h g j F5)<|.li 7 7 (ab.wrap (s+1)) fun N=>.cT 2 [0] 1 (xI b x ap1 (k+1) M ap (m+1) G N c a d e f i h g j F5 S))<|.cT 2 [0] 1 (Fy b z k y C m A c a d e f i h g j u S))):xI b x z k y C m A s c a d e f i h g j u S w0 R:=VC.go dt _ H
theorem Ot (f:Nat)(w:OA)(e d:Nat)(t:OA)(s q h:Nat)(i j k l:Int)(o:OA)(n m:Nat)(p:Bool)(g:aX)(H:VP S w0 R (.hp (kDkq f h i j k l o n m p g) fun c=>.r 1<|.dr 10<|.qu [1]<|.x2 fun b a=>.sp w b a [5,66]<|.iL b a e d 5 0 (a+((0)*5))<|.qu [1]<|.x2 fun G D=>.lT c b ((a+((0)*5))+2) 3 G (IV D)<|.qu [1]<|.iL b a e d 5 1 (a+((1)*5))<|.qu [1]<|.x2 fun M E=>.lT c b ((a+((1)*5))+2) 3 M (IV E)<|.qu [2]<|.oY 10 (ab.wrap (D-E)) fun u=>.dn<|.r 4<|.iL b a e d 5 0 (a+((0)*5))<|.r 1<|.x2 fun N F=>.lT c b (a+((0)*5)) 4 N (.bool F)<|.B 1 79 F (.r 1<|.iL b a e d 5 1 (a+((1)*5))<|.r 1<|.x2 fun O x=>.lT c b (a+((1)*5)) 4 O (.bool x)<|.r 7<|.iL b a e d 5 0 (a+((0)*5))<|.r 1<|.x2 fun Q y=>.lT c b ((a+((0)*5))+1) 4 Q (.bool y)<|.B 1 89 y (.re 23 kCkq c)<|.r 1<|.iL b a e d 5 1 (a+((1)*5))<|.r 1<|.x2 fun U z=>.lT c b ((a+((1)*5))+1) 4 U (.bool z)<|.B 2 95 z (.re 17 kCkq c)<|.B 2 97 x (.I 4 101 (u=1) (.I 5 105 (u=(-1:Int)) (.re 6 kCkq c)<|.cT 2 [0] 1 (uY f (some ⟨b,a,none⟩) e d t s q h i j k l o n m p g S))<|.cT 7 [0] 1 (uY f (some ⟨b,a,none⟩) e d t s q h i j k l o n m p g S))<|.cT 11 [0] 1 (uY f (some ⟨b,a,none⟩) e d t s q h i j k l o n m p g S))<|.r 11<|.iL b a e d 5 0 (a+((0)*5))<|.r 1<|.x2 fun V A=>.lT c b ((a+((0)*5))+1) 4 V (.bool A)<|.B 1 89 A (.re 23 kCkq c)<|.r 1<|.iL b a e d 5 1 (a+((1)*5))<|.r 1<|.x2 fun X C=>.lT c b ((a+((1)*5))+1) 4 X (.bool C)<|.B 2 95 C (.re 17 kCkq c)<|.cT 13 [0] 1 (uY f (some ⟨b,a,none⟩) e d t s q h i j k l o n m p g S))):Fy f w e d t s q h i j k l o n m p g S w0 R:=VC.go dt _ H
theorem Vd (e:Nat)(u:OA)(d c:Nat)(s:OA)(q p g:Nat)(h t i j:Int)(m:OA)(l k:Nat)(n:Bool)(f:aX)(H:VP S w0 R (.hp (kDkq e g h t i j m l k n f) fun o=>.r 8<|.x2 fun b a=>.sp u b a [5,106]<|.iL b a d c 5 0 (a+((0)*5))<|.r 1<|.x2 fun D w=>.lT o b (a+((0)*5)) 4 D (.bool w)<|.B 0 109 w (.r 13<|.dr 9<|.qu [1]<|.iL b a d c 5 1 (a+((1)*5))<|.qu [1]<|.x2 fun E x=>.lT o b ((a+((1)*5))+2) 3 E (IV x)<|.qu [1]<|.iL b a d c 5 0 (a+((0)*5))<|.qu [1]<|.x2 fun F y=>.lT o b ((a+((0)*5))+2) 3 F (IV y)<|.qu [1]<|.dn<|.P 1 177 (y<x) (.ru [5,200]<|.cT 1 [0] 1 (uk e (some ⟨b,a,none⟩) d c s q p none 0 0 g h 1 i j m l k n f S))<|.cT 2 [0] 1 (uk e (some ⟨b,a,none⟩) d c s q p none 0 0 g h t i j m l k n f S))<|.r 3<|.iL b a d c 5 1 (a+((1)*5))<|.r 1<|.x2 fun G z=>.lT o b (a+((1)*5)) 4 G (.bool z)<|.B 0 115 z (.r 7<|.dr 9<|.qu [1]<|.iL b a d c 5 1 (a+((1)*5))<|.qu [1]<|.x2 fun M A=>.lT o b ((a+((1)*5))+2) 3 M (IV A)<|.qu [1]<|.iL b a d c 5 0 (a+((0)*5))<|.qu [1]<|.x2 fun N C=>.lT o b ((a+((0)*5))+2) 3 N (IV C)<|.qu [1]<|.dn<|.P 1 177 (C<A) (.ru [5,200]<|.cT 1 [0] 1 (uk e (some ⟨b,a,none⟩) d c s q p none 0 0 g h 1 i j m l k n f S))<|.cT 2 [0] 1 (uk e (some ⟨b,a,none⟩) d c s q p none 0 0 g h t i j m l k n f S))<|.cT 11 [0] 1 (xt e s q p none 0 0 0 g h t i j m l k n f S))):uY e u d c s q p g h t i j m l k n f S w0 R:=VC.go dt _ H
theorem Qq (g:Nat)(x:OA)(w u:Nat)(V:OA)(t s:Nat)(A:OA)(z y j:Nat)(k a E G:Int)(O:OA)(N M:Nat)(p:Bool)(h:aX)(H:VP S w0 R (.ru [6,200]<|.x2 fun q i=>.sp x q i [5,181]<|.iL q i w u 5 a (i+((ad a)*5))<|.x5 fun Y D C m o=>.x3 fun n l c=>.yN (kDkq g j k a E G O N M p h) q (i+((ad a)*5)) 5 172 Y [.bool D,.bool C,IV m,.slice o n l,IV c]<|.nf 0 (.cells #[.bool false,.bool false,IV 0,.slice none 0 0,IV 0] 172) fun X=>.hp ((kAfq X D C m o n l c)::(kAdq g j k a m c o n l p)::h) fun d=>.ru [200,5,200,2,201,5,200,2,201,5,200,2,201,7,201]<|.r 1<|.x2 fun f b=>.sp V f b [6,203]<|.iL f b t s 1 (ab.wrap (1-a)) (b+(ad (ab.wrap (1-a))))<|.x2 fun Z F=>.lT d f (b+(ad (ab.wrap (1-a)))) 9 Z (.string F)<|.cl 0 114 [.string F] d<|.ex fun Q=>.rt (.bool Q) d<|.r 3<|.dr 14<|.qu [4,101]<|.iL f b t s 1 a (b+(ad a))<|.x2 fun a0 e=>.lT d f (b+(ad a)) 9 a0 (.string e)<|.qu [3,101]<|.ss e c (e.size:Int)<|.ex fun U=>.qc 114 [.string (e.extract (ad c) e.size)] d (.bool U)<|.qu [1]<|.dn<|.cT 2 [1] 2 (Ej g A z y Q U j k a m c o n l p h S))):uk g x w u V t s A z y j k a E G O N M p h S w0 R:=VC.go dt _ H
theorem HD (c:Nat)(C:OA)(u t:Nat)(s:OA)(m q:Nat)(b:Int)(d:Nat)(a e f g:Int)(j:OA)(i h:Nat)(k:Bool)(l:aX)(H:VP S w0 R (.hp (kDkq c d a e f g j i h k l) fun x=>.P 6 119 (b<2) (.r 8<|.x2 fun p n=>.sp C p n [6,122]<|.iL p n u t 1 b (n+(ad b))<|.x2 fun D z=>.lT x p (n+(ad b)) 9 D (.string z)<|.cl 0 114 [.string z] x<|.ex fun A=>.rt (.bool A) x<|.B 6 127 A (.r 1<|.dD<|.nm [4,6,12,13]<|.ph 14 [0,1,2,3,4,5,6,7,8,9,10,11,12] [13] 1<|.qu [5,100,4,100]<|.ex fun o=>.qc 27 [IV a] [(kAdq c d a e f g j i h k)] (.string o)<|.qu [1]<|.dn<|.n2 1 (.cells #[IV (ab.wrap (b*a)),.string o] 176) fun w=>.df w (.cells #[IV (ab.wrap (b*a)),.string o] 176) (kDkq c d a e f g j i h k l)<|.tl<|.apd 0 w 176 176 2 174 174 (.slice s m q) 1 1 [IV (ab.wrap (b*a)),.string o] ((w,.cells #[IV (ab.wrap (b*a)),.string o] 176)::(kAdq c d a e f g j i h k)::l)<|.x3 fun ap2 (y:Nat) F11=>.rt (.slice ap2 (m+1) y) (kDkq c d a e f g j i h k F11)<|.li 7 13 (ab.wrap (b+1)) fun E=>.cT 2 [0] 1 (xt c (some ⟨p,n,none⟩) u t ap2 (m+1) y E d a e f g j i h k F11 S))<|.li 7 13 (ab.wrap (b+1)) fun F=>.cT 2 [0] 1 (xt c (some ⟨p,n,none⟩) u t s m q F d a e f g j i h k l S))<|.cT 3 [0] 1 (EV c s m q d a e f g j i h k l S))):xt c C u t s m q b d a e f g j i h k l S w0 R:=VC.go dt _ H
theorem QU (c:Nat)(p:OA)(k o:Nat)(t q:Bool)(d:Nat)(a b e f:Int)(i:OA)(h g:Nat)(j:Bool)(m:aX)(H:VP S w0 R (.B 4 225 t (.r 1<|.dD<|.nm [4,12,18]<|.ph 18 [0,1,2,3,4,5,6,7,8,9,10,11,12,13,14,15,16] [17] 1<|.qu [4,100,4,100,4,100]<|.ex fun l=>.qc 27 [IV a] [(kAdq c d a b e f i h g j)] (.string l)<|.qu [1]<|.dn<|.n2 1 (.cells #[IV (ab.wrap ((ab.wrap (1-b))*a)),.string l] 176) fun n=>.df n (.cells #[IV (ab.wrap ((ab.wrap (1-b))*a)),.string l] 176) (kDkq c d a b e f i h g j m)<|.tl<|.apd 0 n 176 176 2 174 174 (.slice p k o) 1 1 [IV (ab.wrap ((ab.wrap (1-b))*a)),.string l] ((n,.cells #[IV (ab.wrap ((ab.wrap (1-b))*a)),.string l] 176)::(kAdq c d a b e f i h g j)::m)<|.x3 fun ap3 (s:Nat) F13=>.rt (.slice ap3 (k+1) s) (kDkq c d a b e f i h g j F13)<|.cT 3 [0] 1 (BD c ap3 (k+1) s q d a b e f i h g j F13 S))<|.cT 3 [0] 1 (BD c p k o q d a b e f i h g j m S))):Ej c p k o t q d a b e f i h g j m S w0 R:=VC.go dt _ H
theorem Qr (b:Nat)(n:OA)(a m c:Nat)(d e f g:Int)(j:OA)(i h:Nat)(k:Bool)(l:aX)(H:VP S w0 R (.P 6 145 (0<(a:Int)) (.r 4<|.ns true 1 (.cells #[IV (-1:Int),sZ] 176) fun o=>.apd 0 o 176 176 2 174 174 (.slice n a m) 1 1 [IV (-1:Int),sZ] ((o,.cells #[IV (-1:Int),sZ] 176)::(kAdq b c d e f g j i h k)::l)<|.x3 fun ap4 (p:Nat) F15=>.rt (.slice ap4 (a+1) p) (kDkq b c d e f g j i h k F15)<|.cT 2 [0] 1 (AN b ap4 (a+1) p c d e f g j i h k F15 S))<|.cT 2 [0] 1 (AN b n a m c d e f g j i h k l S))):EV b n a m c d e f g j i h k l S w0 R:=VC.go dt _ H
theorem W0 (d:Nat)(p:OA)(k o:Nat)(s:Bool)(e:Nat)(a c f b:Int)(i:OA)(h g:Nat)(j:Bool)(m:aX)(H:VP S w0 R (.B 4 245 s (.r 1<|.dD<|.nm [4,12]<|.ph 27 [0,1,2,3,4,5,6,7,8,9,10,11,12,13,14,15,16,17,18,19,20,21,22,23,24,25] [26] 1<|.qu [4,100,3,100,4,100,4,100,3,100,1]<|.ex fun l=>.qc 27 [IV (ab.wrap (a-b))] [(kAdq d e a c f b i h g j)] (.string l)<|.qu [1]<|.dn<|.n2 1 (.cells #[IV (ab.wrap ((ab.wrap (c*a))+b)),.string l] 176) fun n=>.df n (.cells #[IV (ab.wrap ((ab.wrap (c*a))+b)),.string l] 176) (kDkq d e a c f b i h g j m)<|.tl<|.apd 0 n 176 176 2 174 174 (.slice p k o) 1 1 [IV (ab.wrap ((ab.wrap (c*a))+b)),.string l] ((n,.cells #[IV (ab.wrap ((ab.wrap (c*a))+b)),.string l] 176)::(kAdq d e a c f b i h g j)::m)<|.x3 fun ap5 (q:Nat) F17=>.rt (.slice ap5 (k+1) q) (kDkq d e a c f b i h g j F17)<|.cT 3 [0] 1 (BE d ap5 (k+1) q e a c f b i h g j F17 S))<|.cT 3 [0] 1 (BE d p k o e a c f b i h g j m S))):BD d p k o s e a c f b i h g j m S w0 R:=VC.go dt _ H
theorem Om (a:Nat)(w:OA)(j u b:Nat)(c d A x:Int)(g:OA)(f e:Nat)(i:Bool)(k:aX)(H:VP S w0 R (.hp ((a,.cells #[PP b,IV c,IV d,IV 1,IV x,.slice g f e,.bool i] 72)::k) fun s=>.ru [5,200]<|.cl 4 18 [IV 1] s<|.ex fun h=>.rt (.string h) s<|.hp ((a,.cells #[PP b,IV c,IV d,IV 1,IV (h.size:Int),.slice g f e,.bool i] 72)::k) fun l=>.ru [3,200]<|.cl 4 18 [IV 1] l<|.ex fun y=>.rt (.string y) l<|.cl 0 115 [IV 0,.string y] l<|.x3 fun sp z n=>.rt (.slice sp 4 z) ((a,.cells #[PP b,IV c,IV d,IV 1,IV (h.size:Int),.slice g f e,.bool i] 72)::n)<|.ex fun(C:List aa)=>.aq 2 174 174 (.slice w j u) (.slice sp 4 z) 4 C ((a,.cells #[PP b,IV c,IV d,IV 1,IV (h.size:Int),.slice g f e,.bool i] 72)::n)<|.x3 fun ap6 (p:Nat) F20=>.rt (.slice ap6 (j+4) p) ((a,.cells #[PP b,IV c,IV d,IV 1,IV (h.size:Int),.slice g f e,.bool i] 72)::F20)<|.cl 6 116 [PP a,.slice ap6 (j+4) p] ((a,.cells #[PP b,IV c,IV d,IV 1,IV (h.size:Int),.slice g f e,.bool i] 72)::F20)<|.x3 fun o m q=>.rt (IV m) ((a,.cells #[PP b,IV c,IV d,IV 1,IV (h.size:Int),.slice g f e,.bool q] 72)::o)<|.hp ((a,.cells #[PP b,IV c,IV d,IV 1,IV (h.size:Int),.slice g f e,.bool q] 72)::o) fun t=>.I 8 166 (m=0) (.re 7 (kCmq m) t)<|.re 8 (.tuple #[PP a,IV 0]) t)):AN a w j u b c d A x g f e i k S w0 R:=VC.go dt _ H
theorem TC (b:Nat)(n:OA)(a m c:Nat)(d e f g:Int)(j:OA)(i h:Nat)(k:Bool)(l:aX)(H:VP S w0 R (.P 6 276 (0<(a:Int)) (.r 4<|.ns true 1 (.cells #[IV (-1:Int),sZ] 176) fun o=>.apd 0 o 176 176 2 174 174 (.slice n a m) 1 1 [IV (-1:Int),sZ] ((o,.cells #[IV (-1:Int),sZ] 176)::(kAdq b c d e f g j i h k)::l)<|.x3 fun ap7 (p:Nat) F22=>.rt (.slice ap7 (a+1) p) (kDkq b c d e f g j i h k F22)<|.cT 2 [0] 1 (AJ b ap7 (a+1) p c d e f g j i h k F22 S))<|.cT 2 [0] 1 (AJ b n a m c d e f g j i h k l S))):BE b n a m c d e f g j i h k l S w0 R:=VC.go dt _ H
theorem V6 (a:Nat)(q:OA)(p o b:Nat)(c d e f:Int)(i:OA)(h g:Nat)(s:Bool)(k:aX)(H:VP S w0 R (.cl 4 116 [PP a,.slice q p o] (kDkq a b c d e f i h g s k)<|.x3 fun l j m=>.rt (IV j) (kDkq a b c d e f i h g m l)<|.hp (kDkq a b c d e f i h g m l) fun n=>.I 8 285 (j=0) (.re 7 (kCmq j) n)<|.re 8 (.tuple #[PP a,IV 0]) n)):AJ a q p o b c d e f i h g s k S w0 R:=VC.go dt _ H
theorem S4 (a:Nat)(b:aX)(hm:Mem (b) S w0 W)(H:VP S w0 R (.r 11<|.x4 fun e h d g=>.lT (b) a 0 47 e (.slice h d g)<|.P 3 25 ((d:Int)<64) (.re 6 (.tuple #[.pointer none,IV 240]) (b))<|.r 8<|.x4 fun f j c i=>.lT (b) a 0 47 f (.slice j c i)<|.nf 3 (.cells #[PP a,IV (ab.wrap ((c:Int).tdiv 2)),IV 0,IV 0,IV 0,.slice none 0 0,.bool false] 72) fun B=>.cT 17 [0] 1 (xI B a none 0 0 none 0 0 0 a (ab.wrap ((c:Int).tdiv 2)) 0 0 0 none 0 0 false b S))):aE TP 73 ⟨[PP a]⟩ W R:=VC.cs dt hm _ H
def xf (D:Nat)(r:Int×Option JM×DS)(v:aa)(L':aX):Prop:=
 match r with
 |(e,none,d')=>v=.tuple #[.pointer none,.int .i64 e]∧mQ D d' L'
 |(e,some m,d')=>∃K,v=.tuple #[pt K 0,.int .i64 0]∧KD mI K D m d' L'
abbrev qf (S:List Nat)(w0:aj)(D:Nat)(r:Int×Option JM×DS):bJ→aj→Prop:=fun e W'=>∃v L',e=.returned v∧Mem L' S w0 W'∧xf D r v L'
def qg (Z:aX)(D:Nat)(d:DS)(ops:List lC)(lp:OA)(lc:Nat)(fs:List dF)(fp:OA)(fc:Nat)(F1:aX):Prop:=
 ∃Fd N T,F1.Perm (Fd++(N++T))∧mQ D d Fd∧uX ops lp lc N∧lj mI fs fp fc T∧(∀o∈ops,o.pos)∧∀x∈Z,x∈T
def pX (ops:List lC)(m:JM)(d:DS):Int×Option JM×DS:=if(ln ops d).1=0 then(0,some m,(ln ops d).2)else((ln ops d).1,none,(ln ops d).2)
section perms
variable (x y z:Nat×Obj)(A F T X N L Z G:aX)
theorem OZ (h:F.Perm (G++(N++T))):(x::y::F).Perm (N++(x::y::(G++T))):=lR fun c w M O V a1=>by
 have:=a1 _ _ h;simp only[M,O,V]at this ⊢;omega
theorem RH (h:L.Perm (N++(x::y::(G++T)))):L.Perm (y::(G++(N++(x::T)))):=lR fun c w M O V a1=>by
 have:=a1 _ _ h;simp only[M,O,V]at this ⊢;omega
theorem Tk (h:F.Perm (G++(N++T))):((y::(G++(T++N)))++[]).Perm (y::F):=lR fun c w M O V a1=>by
 have:=a1 _ _ h;simp only[M,O,V]at this ⊢;omega
theorem RG:(y::(F++(T++N))).Perm (y::(F++((N++T)))):=perm_a
theorem K4:(y::(F++T)).Perm ((y::T)++F):=perm_a
theorem Ru (h:F.Perm (G++(N++T))):(Z++(y::F)).Perm (y::(G++(N++(Z++T)))):=lR fun c w M O V a1=>by
 have:=a1 _ _ h;simp only[M,O,V]at this ⊢;omega
theorem Ql (h:F.Perm (G++(N++T))):(y::F).Perm (N++(y::(G++T))):=lR fun c w M O V a1=>by
 have:=a1 _ _ h;simp only[M,O,V]at this ⊢;omega
theorem R7 (h:F.Perm (G++T)):(y::F).Perm ((y::T)++G):=lR fun c w M O V a1=>by
 have:=a1 _ _ h;simp only[M,O,V,aY]at this ⊢;omega
theorem Xc (h:L.Perm (N++(y::(G++T)))):L.Perm (y::(G++(N++T))):=lR fun c w M O V a1=>by
 have:=a1 _ _ h;simp only[M,O,V]at this ⊢;omega
end perms
theorem mQ.less {D:Nat}{d:DS}{F L X:aX}(h:mQ D d F)(hp:L.Perm (X++F)):mQ D d L:=(h.more X).perm hp
section xi
variable {D B:Nat}{d:DS}{Z:aX}{ops:List lC}{lp:Option Addr}{lc:Nat}{fs:List dF}{fp:Option Addr}{fc:Nat}{F1:aX}{S:List Nat}{w0:World}{m:JM}
theorem qg.push {o:lC}(h:qg Z D d ops lp lc fs fp fc F1){n:Nat}(hn:ops.length=n)(b3:n≤10)(a6:o.pos)(x:Nat×Obj){B2:Nat}:
  mM TP 2 174 174 (.slice lp n lc) 1 (qq o) ((B2,.cells ⟨qq o⟩ 176)::x::F1) S w0 (fun v L'=>∃ap ac F',v=.slice ap (n+1) ac∧L'.Perm (x::F')∧(ops++[o]).length=n+1∧qg Z D d (ops++[o]) ap ac fs fp fc F'):=by
 subst hn;obtain⟨Fd,N,T,V,a1,a2,a3,a4,a5⟩:=h;refine(mb.push (T:=174) (m:=1) (news:=qq o) (Y:=(B2,.cells ⟨qq o⟩ 176)::x::(Fd++T)) (bytes:=24) (z:=.agg #[.int .i64 0,.string ⟨#[]⟩]) a2 (by kernel_rfl) (by kernel_rfl) rfl (by omega) (Dk o) ⟨by omega,by omega⟩ (OZ _ _ _ _ _ _ V)).mono ?_;rintro _ L' ⟨p',c',M,rfl,a9,b1⟩;have O:(ops++[o]).length=ops.length+1:=by simp
 refine⟨p',c',_,rfl,RH _ _ _ _ _ _ a9,O,Fd,M,_,ah _,a1,?_,a3.more [_],fun o' a7=>?_,fun z a8=>ag _ (a5 z a8)⟩
 ·show mb _ 2 (ops++[o]).length (pL (ops++[o])) p' c' M
  rw[O,MZ];have:pL [o]=qq o:=by simp[pL]
  rw[this];exact b1
 ·rcases cn.1 a7 with h|h
  ·exact a4 o' h
  ·rw[cK.1 h];exact a6
theorem LN (h:qg Z D d ops lp lc m.fs fp fc F1){n:Nat}(hn:ops.length=n)(b3:n≤20)(hp:d.pend.length<900000){K':aa→aX→Prop}
  (a6:∀e br M,xf D (pX ops m d)=(fun v L'=>xf D (pX ops m d) v L')→(¬e=0→xf D (pX ops m d) (.tuple #[.pointer none,.int .i64 e]) ((B,.cells #[.pointer (SO D),.int .i64 m.sz,.int .i64 m.cu,.int .i64 m.gen,.int .i64 m.en,.slice fp m.fs.length fc,.bool br] 72)::M))→
   (e=0→xf D (pX ops m d) (.tuple #[pt B 0,.int .i64 0]) ((B,.cells #[.pointer (SO D),.int .i64 m.sz,.int .i64 m.cu,.int .i64 m.gen,.int .i64 m.en,.slice fp m.fs.length fc,.bool br] 72)::M))→
   K' (.int .i64 e) ((B,.cells #[.pointer (SO D),.int .i64 m.sz,.int .i64 m.cu,.int .i64 m.gen,.int .i64 m.en,.slice fp m.fs.length fc,.bool br] 72)::M)):
  eA TP 116 #[pt B 0,.slice lp n lc] (kJ B D (m.js fp fc)::F1) S w0 K':=by
 subst hn;obtain⟨Fd,N,T,a1,a2,a3,a4,a5,b1⟩:=h;refine eA.lF (L0:=kJ B D (m.js fp fc)::(Fd++(T++N))) (L1:=[]) (DO (j:=m.js fp fc) (a3.more T) (by omega) a5 a2 hp) (Tk _ _ _ _ _ a1) ?_;rintro _ _ ⟨F',rfl,rfl,O⟩;have a7:kJ B D ((m.js fp fc).after (ln ops d).1)=(B,.cells #[.pointer (SO D),.int .i64 m.sz,.int .i64 m.cu,.int .i64 m.gen,.int .i64 m.en,.slice fp m.fs.length fc,.bool ((m.js fp fc).after (ln ops d).1).br] 72):=by
  unfold JS.after;split<;>rfl
 refine⟨_,by rw[aL],?_⟩;rw[a7];refine a6 _ _ _ rfl (fun a9=>?_) (fun V=>?_)
 ·rw[pX,if_neg a9]
  exact⟨rfl,O.less (K4 _ _ _)⟩
 ·rw[pX,if_pos V]
  have a8:((m.js fp fc).after (ln ops d).1).br=m.br:=by rw[JS.after,if_pos V]
  rw[a8];exact⟨B,rfl,F',fp,fc,N++T,RG _ _ _ _,O,a4.more N⟩
theorem IY (h:qg Z D d ops lp lc m.fs fp fc F1){n:Nat}(hn:ops.length=n)(a1:n≤20)(hp:d.pend.length<900000){r:Int×Option JM×DS}(a2:r=pX ops m d):
  AJ B lp n lc D (m.sz:Int) (m.cu:Int) m.gen (m.en:Int) fp m.fs.length fc m.br F1 S w0 (qf S w0 D r):=by
 subst a2;apply V6;exact LN h hn a1 hp fun e br M _ O V=>⟨M,e,br,rfl,rfl,fun h=>kR (O h),fun h=>kR (V h)⟩
theorem KA (h:qg Z D d ops lp lc m.fs fp fc F1){n:Nat}(hn:ops.length=n)(V:n≤10)(hp:d.pend.length<900000){r:Int×Option JM×DS}(M:r=pX (nu ops) m d):
  BE B lp n lc D (m.sz:Int) (m.cu:Int) m.gen (m.en:Int) fp m.fs.length fc m.br F1 S w0 (qf S w0 D r):=by
 apply TC;refine⟨fun O B2=>?_,fun O=>IY h hn (by omega) hp ?_⟩
 ·refine(h.push (o:=.sync) hn V trivial _).nd ?_
  rintro _ a4 ⟨ap,ac,F',rfl,a1,a2,a3⟩;refine⟨_,a1,ap,ac,F',rfl,rfl,IY a3 a2 (by omega) hp ?_⟩;rw[M,nu,if_neg (by omega)]
 ·have:ops=[]:=aQ.1 (by omega)
  rw[M,this];rfl
theorem MD (h:qg Z D d ops lp lc [] fp fc F1){n:Nat}(hn:ops.length=n)(c8:n≤10)(hp:d.pend.length<900000){sz:Nat}{gen en:Int}{r:Int×Option JM×DS}(b5:r=pX (ops++l8 0 (ba (lA 1))) ⟨1,[],(lA 1).length,sz,0,false⟩ d):
  AN B lp n lc D (sz:Int) 0 gen en fp 0 fc false F1 S w0 (qf S w0 D r):=by
 apply Om;have b3:1≤(ba (lA 1)).size:=by rw[lY];show 1≤(mD _).length;rw[mD];simp
 refine eA.pure (D9 (g:=1) (by decide)) ⟨_,rfl,rfl,eA.pure (D9 (g:=1) (by decide)) ⟨_,rfl,rfl,?_⟩⟩;refine eA.lF (L0:=[]) (L1:=kJ B D ⟨1,fp,0,fc,((ba (lA 1)).size:Int),sz,0,false⟩::F1) (Dx (off:=0) b3 (by omega)) (ah _) ?_;rintro _ O ⟨sp,sc,rfl,hZ⟩;subst hn;obtain⟨Fd,N,T,V,a1,a6,a7,a8,a9⟩:=h;have a2:∃news:List aa,news=pL (l8 0 (ba (lA 1)))∧(∀L,(∀x∈O,x∈L)→∀W,Mem L S w0 W→Go.Src TP 2 174 (.slice sp 4 sc) 4 news W):=by
  refine⟨_,rfl,fun L b1 W hm=>?_⟩;obtain⟨k1,c9,⟨_,_,b9⟩|⟨Q,cs,c6,rfl,c2,d0,c3⟩⟩:=hZ
  ·exact absurd b9 (by decide)
  ·refine ki W (e':=176) (by kernel_rfl) ⟨Q,0,none⟩ 4 sc _ rfl (fun j u M=>?_) ?_
   ·rw[pN,az,cell_of_heap (hm.here _ (b1 _ (c2.mem_iff.2 au)))]
    rw[←c3,dA]at M;split at M
    ·exact M
    ·cases M
   ·intro u M
    simp only[pL,l8,qq,List.flatMap_cons,List.flatMap_nil,aY,aT,bT,bG,or_false]at M;rcases M with rfl|rfl|rfl|rfl|rfl|rfl|rfl|rfl<;>rfl
 obtain⟨news,rfl,a2⟩:=a2;refine⟨_,Ru _ _ _ _ _ _ V,sp,sc,_,rfl,rfl,_,a2 _ (fun x b6=>by simp[b6]),?_⟩;refine(mb.push (T:=174) (m:=4) (news:=pL (l8 0 (ba (lA 1)))) (Y:=kJ B D ⟨1,fp,0,fc,((ba (lA 1)).size:Int),sz,0,false⟩::(Fd++(O++T))) (bytes:=24) (z:=.agg #[.int .i64 0,.string ⟨#[]⟩]) a6 (by kernel_rfl) (by kernel_rfl) rfl (by omega) rfl ⟨by omega,by omega⟩ (Ql _ _ _ _ _ (ah _))).nd ?_;rintro _ c7 ⟨p',c',a3,rfl,c4,c5⟩;refine⟨_,Xc _ _ _ _ _ c4,p',c',_,rfl,rfl,?_⟩;rw[lY];have a4:(ops++l8 0 (ba (lA 1))).length=ops.length+4:=by simp[l8]
 subst b5;refine LN (m:=⟨1,[],(lA 1).length,sz,0,false⟩) (ops:=ops++l8 0 (ba (lA 1))) ⟨Fd,a3,_,ah _,a1,?_,a7.more O,fun o b4=>?_,fun z b7=>ak _ (a9 z b7)⟩ a4 (by omega) hp fun e br a5 _ V a1=>⟨a5,e,br,rfl,rfl,fun h=>kR (V h),fun h=>kR (a1 h)⟩
 ·show mb _ 2 (ops++l8 0 (ba (lA 1))).length (pL (ops++l8 0 (ba (lA 1)))) p' c' a3
  rw[a4,MZ];exact c5
 ·rcases cn.1 b4 with h|h
  ·exact a8 o h
  ·simp only[l8,bT,bG,or_false]at h
   rcases h with rfl|rfl|rfl|rfl<;>simp[lC.pos]
theorem Zg (h:qg Z D d ops lp lc [] fp fc F1){n:Nat}(hn:ops.length=n)(a4:n≤9)(hp:d.pend.length<900000){sz:Nat}{gen en:Int}{r:Int×Option JM×DS}(M:r=pX (nu ops++l8 0 (ba (lA 1))) ⟨1,[],(lA 1).length,sz,0,false⟩ d):
  EV B lp n lc D (sz:Int) 0 gen en fp 0 fc false F1 S w0 (qf S w0 D r):=by
 apply Qr;refine⟨fun O B2=>?_,fun O=>MD h hn (by omega) hp ?_⟩
 ·refine(h.push (o:=.sync) hn (by omega) trivial _).nd ?_
  rintro _ a3 ⟨ap,ac,F',rfl,V,a1,a2⟩;refine⟨_,V,ap,ac,F',rfl,rfl,MD a2 a1 (by omega) hp ?_⟩;rw[M,nu,if_neg (by omega)]
 ·have:ops=[]:=aQ.1 (by omega)
  rw[M,this];rfl
theorem C9 {k fr sz:Nat}{img:List UInt8}{b:Bool}(hi:img.length=sz)(M:b= !(img.drop fr).all (fun b=>b==0)):
  mr k sz fr img=if b=true then [.write ((k*sz+fr:Nat):Int) (ba (aA (sz-fr) 0))]else []:=by
 rw[mr,M,hi];cases(img.drop fr).all (fun b=>b==0)<;>rfl
theorem Lm {img:List UInt8}{rest:Bool}(h:qg Z D d ops lp lc m.fs fp fc F1){n:Nat}(hn:ops.length=n)(b3:n≤8)(hp:d.pend.length<900000)(a5:m.sz≤2097152)(a4:m.cu≤1)(b1:m.en≤m.sz)(hi:img.length=m.sz)(a3:rest= !(img.drop m.en).all (fun b=>b==0)){r:Int×Option JM×DS}(V:r=pX (nu (ops++mr m.cu m.sz m.en img)) m d):
  BD B lp n lc rest D (m.sz:Int) (m.cu:Int) m.gen (m.en:Int) fp m.fs.length fc m.br F1 S w0 (qf S w0 D r):=by
 apply W0;have hcs:m.cu*m.sz≤1*2097152:=dp a4 a5;have e1:ab.wrap ((m.cu*m.sz:Nat):Int)=((m.cu*m.sz:Nat):Int):=kS (by omega);have a1:ab.wrap (ab.wrap ((m.cu:Int)*(m.sz:Int))+(m.en:Int))=((m.cu*m.sz+m.en:Nat):Int):=by
  rw[show(m.cu:Int)*(m.sz:Int)=((m.cu*m.sz:Nat):Int)by simp,e1,kS (by omega)];omega
 have a2:ab.wrap ((m.sz:Int)-(m.en:Int))=((m.sz-m.en:Nat):Int):=by rw[kS (by omega)];omega
 have M:=C9 (k:=m.cu) hi a3;rw[a1,a2];refine⟨fun O=>⟨_,m3.of (yZ (n:=m.sz-m.en) (by omega)),fun B2=>?_⟩,fun O=>KA h hn (by omega) hp ?_⟩
 ·rw[if_pos O]at M
  refine(h.push (o:=.write ((m.cu*m.sz+m.en:Nat):Int) (ba (aA (m.sz-m.en) 0))) hn (by omega) (by show(0:Int)≤_;omega) _).nd ?_;rintro _ a9 ⟨ap,ac,F',rfl,a6,a7,a8⟩;exact⟨_,a6,ap,ac,F',rfl,rfl,KA a8 a7 (by omega) hp (by rw[V,M])⟩
 ·rw[if_neg (by rw[O];decide)]at M
  rw[V,M,aL]
theorem UQ {i0 img:List UInt8}{a5 rest:Bool}(h:qg Z D d ops lp lc m.fs fp fc F1){n:Nat}(hn:ops.length=n)(b5:n≤7)(hp:d.pend.length<900000)(V:m.sz≤2097152)(a2:m.cu≤1)(a3:m.en≤m.sz)(a7:i0.length=m.sz)(a8:a5= !(i0.drop 0).all (fun b=>b==0))(hi:img.length=m.sz)(a1:rest= !(img.drop m.en).all (fun b=>b==0)){r:Int×Option JM×DS}(a4:r=pX (nu (ops++mr (1-m.cu) m.sz 0 i0++mr m.cu m.sz m.en img)) m d):
  Ej B lp n lc a5 rest D (m.sz:Int) (m.cu:Int) m.gen (m.en:Int) fp m.fs.length fc m.br F1 S w0 (qf S w0 D r):=by
 apply QU;have hcs:(1-m.cu)*m.sz≤1*2097152:=dp (by omega) V;have e1:ab.wrap (1-(m.cu:Int))=((1-m.cu:Nat):Int):=by rw[kS (by omega)];omega
 have a6:ab.wrap (((1-m.cu:Nat):Int)*(m.sz:Int))=(((1-m.cu)*m.sz+0:Nat):Int):=by
  rw[show((1-m.cu:Nat):Int)*(m.sz:Int)=(((1-m.cu)*m.sz:Nat):Int)by simp,kS (by omega)];rfl
 have M:=C9 (k:=1-m.cu) a7 a8;rw[e1,a6];refine⟨fun O=>⟨_,m3.of (yZ (n:=m.sz) (by omega)),fun B2=>?_⟩,fun O=>Lm h hn (by omega) hp V a2 a3 hi a1 ?_⟩
 ·rw[if_pos O]at M
  refine(h.push (o:=.write (((1-m.cu)*m.sz+0:Nat):Int) (ba (aA m.sz 0))) hn (by omega) (by show(0:Int)≤_;omega) _).nd ?_;rintro _ b4 ⟨ap,ac,F',rfl,a9,b1,b3⟩;exact⟨_,a9,ap,ac,F',rfl,rfl,Lm b3 b1 (by omega) hp V a2 a3 hi a1 (by rw[a4,M];rfl)⟩
 ·rw[if_neg (by rw[O];decide)]at M
  rw[a4,M,aL]
theorem qa {cs l:List aa}{n k:Nat}(h:cs.take n=l)(M:k<n):cs[k]?=l[k]?:=by rw[←h,bh M]
def hU:Option (Int×List dF×Nat)→Bool|none=>true|some h=>decide (0<h.1)
def hG:Option (Int×List dF×Nat)→Int|none=>0|some h=>h.1
def xd:Option (Int×List dF×Nat)→List dF|none=>[]|some h=>h.2.1
def hE:Option (Int×List dF×Nat)→Nat|none=>0|some h=>h.2.2
abbrev qp (r:Option (Int×List dF×Nat))(p:OA)(c:Nat):List aa:=qZ (hU r) r.isNone (hG r) p (xd r).length c (hE r:Int)
theorem OM {r:Option (Int×List dF×Nat)}{v:aa}{L:aX}(h:FD r v L):∃p c,v=.agg ⟨qp r p c⟩∧lj mI (xd r) p c L:=by
 cases r with
 |none=>exact⟨none,0,h,lj.oz⟩
 |some q=>exact h
theorem N8 {i sz n:Nat}{s:BA}{sp:OA}{sc:Nat}{Q:Nat}{cs:List aa}{gen en:Int}{R:bJ→aj→Prop}(hi:i<2)(a9:sp=some ⟨Q,0,none⟩)(a1:∃t fz,(Q,bu ⟨cs⟩ t fz)∈Z)(hcs:cs[i]?=some (.string s))(b3:sz≤2097152)(b1:(bb s).length=sz)
  (h:qg Z D d ops lp lc [] fp fc F1)(hn:ops.length=n)(c6:n≤5)
  (H:∀lp lc F8 n,(ops++mr i sz 0 (bb s)).length=n→qg Z D d (ops++mr i sz 0 (bb s)) lp lc [] fp fc F8→xt B sp 2 sc lp n lc ((i+1:Nat):Int) D (sz:Int) 0 gen en fp 0 fc false F8 S w0 R):
  xt B sp 2 sc lp n lc (i:Int) D (sz:Int) 0 gen en fp 0 fc false F1 S w0 R:=by
 subst a9;apply HD;have c7:=lB s;have O:=C9 (k:=i) (fr:=0) (img:=bb s) b1 rfl;have c5:i*sz≤1*2097152:=dp (by omega) b3;have a5:ab.wrap ((i:Int)*(sz:Int))=((i*sz+0:Nat):Int):=by
  rw[show(i:Int)*(sz:Int)=((i*sz:Nat):Int)by simp,kS (by omega)];rfl
 have a4:∀M,M=ab.wrap ((i:Int)+1)→M=((i+1:Nat):Int):=fun M h=>by rw[h,kS (by omega)];omega
 have a8:∃t fz,(Q,bu ⟨cs⟩ t fz)∈(kJ B D ⟨gen,fp,0,fc,en,sz,0,false⟩::F1):=by
  obtain⟨t,fz,a1⟩:=a1;obtain⟨Fd,N,T,a6,b9,c2,c3,c4,a7⟩:=h;exact⟨t,fz,ag _ (a6.mem_iff.2 (ak _ (ak _ (a7 _ a1))))⟩
 refine yes (by omega) ⟨Q,0,rfl,by omega,cs,s,a8,by rw[ai,az];exact hcs,eA.pure (DF (by omega)) ⟨_,rfl,rfl,fun V=>?_,fun V M a3=>?_⟩⟩
 ·have a2:((!((bb s).drop 0).all (fun b=>b==0))=true):=V
  rw[if_pos a2]at O;refine⟨_,m3.of (yZ (n:=sz) (by omega)),fun B2=>?_⟩;rw[a5];refine(h.push (o:=.write ((i*sz+0:Nat):Int) (ba (aA sz 0))) hn (by omega) (by show(0:Int)≤_;omega) _).nd ?_;rintro _ b7 ⟨ap,ac,F',rfl,b4,b5,b6⟩;refine⟨_,b4,ap,ac,F',rfl,rfl,fun M a3=>?_⟩;rw[a4 M a3];rw[O]at H;exact H ap ac F' _ b5 b6
 ·have a2:¬((!((bb s).drop 0).all (fun b=>b==0))=true):=by rw[show(!((bb s).drop 0).all (fun b=>b==0))=false from V];decide
  rw[if_neg a2]at O;rw[a4 M a3];rw[O,aL]at H;exact H lp lc F1 n hn h
theorem KJ {sp hp:OA}{sc hc Q a3 cu sz:Nat}{cs V:List aa}{M O:BA}{own:Int×List dF×Nat}{op:OA}{a6:Nat}{gen en:Int}{p:OA}{c:Nat}{i0 img:List UInt8}
  (c6:sp=some ⟨Q,0,none⟩)(a2:∃t fz,(Q,bu ⟨cs⟩ t fz)∈Z)(hcs:cs.take 2=[.string M,.string O])(c3:hp=some ⟨a3,0,none⟩)(a4:∃t fz,(a3,bu ⟨V⟩ t fz)∈Z)(b9:cu≤1)(b7:(V.drop (0+cu*5)).take 5=qp (some own) op a6∧0+cu*5+5≤V.length)
  (c7:sz≤2097152)(a9:i0.length=sz)(b1:img.length=sz)(a7:bb (if cu=0 then O else M)=i0)(a8:bb (if cu=0 then M else O)=img)(c2:own.2.2≤sz)
  (h:qg Z D d [] lp lc own.2.1 op a6 F1)(c4:d.pend.length<900000){r:Int×Option JM×DS}(c5:r=pX (nu (mr (1-cu) sz 0 i0++mr cu sz own.2.2 img)) ⟨own.1,own.2.1,own.2.2,sz,cu,false⟩ d):
  uk B hp 2 hc sp 2 sc lp 0 lc D (sz:Int) (cu:Int) gen en p 0 c false F1 S w0 (qf S w0 D r):=by
 subst c6 c3;apply Qq;have a5:∀{x} (y:Nat×Obj),x∈Z→x∈(y::F1):=fun y c8=>by
  obtain⟨Fd,N,T,g1,d0,d1,d2,d3,b6⟩:=h;exact ag _ (g1.mem_iff.2 (ak _ (ak _ (b6 _ c8))))
 obtain⟨t,fz,a2⟩:=a2;obtain⟨c9,b5,a4⟩:=a4;have e1:ab.wrap (1-(cu:Int))=((1-cu:Nat):Int):=by rw[kS (by omega)];omega
 have g0:cs[0+(1-cu)]?=some (.string (if cu=0 then O else M)):=by
  rw[az,qa hcs (by omega)];rcases Nat.lt_or_ge 0 cu with h|h
  ·have:cu=1:=by omega
   subst this;rfl
  ·have:cu=0:=by omega
   subst this;rfl
 have g1:cs[0+cu]?=some (.string (if cu=0 then M else O)):=by
  rw[az,qa hcs (by omega)];rcases Nat.lt_or_ge 0 cu with h|h
  ·have:cu=1:=by omega
   subst this;rfl
  ·have:cu=0:=by omega
   subst this;rfl
 generalize (if cu=0 then O else M)=a0 at*;generalize (if cu=0 then M else O)=a1 at*;have z0:a0.size=sz:=by rw[←lB,a7];exact a9
 have z1:a1.size=sz:=by rw[←lB,a8];exact b1
 refine⟨a3,0,rfl,by omega,V,_,_,_,op,_,a6,_,⟨c9,b5,a5 _ a4⟩,by rw[ai];exact b7,fun B8=>?_⟩;refine⟨Q,0,rfl,by rw[e1];omega,cs,a0,⟨t,fz,ag _ (a5 _ a2)⟩,by rw[e1,ai];exact g0,eA.pure (DF (by omega)) ⟨_,rfl,rfl,?_⟩⟩;have b3:bb (a1.extract (ad ((own.2.2:Nat):Int)) a1.size)=img.drop own.2.2:=by rw[ai,xX,a8]
 have b4:(a1.extract (ad ((own.2.2:Nat):Int)) a1.size).size≤100000000:=by rw[di];exact Nat.le_trans (Nat.sub_le _ _) (by rw[Nat.min_self];omega)
 refine⟨by omega,cs,a1,⟨t,fz,ag _ (a5 _ a2)⟩,by rw[ai];exact g1,⟨by show(0:Int)≤(own.2.2:Int);omega,by show(own.2.2:Int)≤_;omega,by omega⟩,_,lV.of (DF b4),?_⟩;exact UQ (m:=⟨own.1,own.2.1,own.2.2,sz,cu,false⟩) (i0:=i0) (img:=img) (ops:=[]) (n:=0) h rfl (bx _) c4 c7 b9 c2 a9 (by rw[a7];rfl) b1 (congrArg (fun l:List UInt8=> !l.all (fun b=>b==0)) b3) c5
end xi
abbrev HR:=Option (Int×List dF×Nat)
structure IS (D:Nat)(d:DS)(sz:Nat)(i0 i1:List UInt8)(r0 r1:HR)(sp:OA)(hp:OA)(F1:aX):Prop where
 heap:∃Q cs Q2 cs2 p0 c0 p1 c1 Fd T s0 s1,sp=some ⟨Q,0,none⟩∧hp=some ⟨Q2,0,none⟩∧F1.Perm (Fd++T)∧mQ D d Fd∧lj mI (xd r0) p0 c0 T∧lj mI (xd r1) p1 c1 T∧
  (Q,bu ⟨cs⟩ 9)∈T∧(Q2,bu ⟨cs2⟩ 172)∈T∧cs.take 2=[.string s0,.string s1]∧cs2.take 10=qp r0 p0 c0++qp r1 p1 c1∧10≤cs2.length∧bb s0=i0∧bb s1=i1
 l0:i0.length=sz
 l1:i1.length=sz
 sz:sz≤2097152
 h0:mf i0=r0
 h1:mf i1=r1
theorem Ii {l:List UInt8}{h:Int×List dF×Nat}(e:mf l=some h)(M:¬0<h.1):h=(0,[],0):=by
 obtain⟨g,fs,n⟩:=h;rcases C5 e with⟨rfl,rfl,rfl,_⟩|⟨h1,_⟩
 ·rfl
 ·exact absurd (show 0<g by omega) M
section opn1
variable {D B:Nat}{d:DS}{sz:Nat}{i0 i1:List UInt8}{sp hp:Option Addr}{sc hc:Nat}{F1:aX}{S:List Nat}{w0:World}
theorem Sq {cs a b:List aa}(h:cs.take 10=a++b)(M:a.length=5)(V:b.length=5)(a1:10≤cs.length):((cs.drop (0+0*5)).take 5=a∧0+0*5+5≤cs.length)∧((cs.drop (0+1*5)).take 5=b∧0+1*5+5≤cs.length):=by
 have e1:cs.take 5=a:=by
  have:=congrArg (List.take 5) h;rwa[gv,show min 5 10=5 from rfl,List.take_left' M]at this
 have O:(cs.drop 5).take 5=b:=by
  have:=congrArg (List.drop 5) h;rwa[gu,List.drop_left' M]at this
 exact⟨⟨by simpa using e1,by omega⟩,⟨by simpa using O,by omega⟩⟩
theorem QL {M O:Int×List dF×Nat}(h:IS D d sz i0 i1 (some M) (some O) sp hp F1)(b1:d.pend.length<900000){r:Int×Option JM×DS}(b3:r=nL i0 i1 (pQ sz M O) d):
  uY B hp 2 hc sp 2 sc D (sz:Int) 0 0 0 none 0 0 false F1 S w0 (qf S w0 D r):=by
 obtain⟨⟨Q,cs,a6,V,p0,c0,p1,c1,Fd,T,c7,c8,rfl,rfl,c4,d6,e5,t1,a9,b7,k1,a5,e2,b0,a7⟩,b5,b6,a8,e0,e1⟩:=h;apply Vd;obtain⟨d2,d3⟩:=Sq a5 rfl rfl e2;have g0:=vh (fs:=M.2.1) (e:=M.2.2) (g:=M.1) e0;have g1:=vh (fs:=O.2.1) (e:=O.2.2) (g:=O.1) e1;have b9:∀{fs:List dF} {p c},lj mI fs p c T→qg T D d [] none 0 fs p c F1:=fun d9=>⟨Fd,[],T,c4,d6,mb.nil,d9,fun o d8=>(by cases d8),fun x b4=>b4⟩
 have d7:∀{x} (y:Nat×Obj),x∈T→x∈(y::F1):=fun y b4=>ag _ (c4.mem_iff.2 (ak _ b4))
 have a3:∃t fz,(a6,bu ⟨V⟩ t fz)∈(kJ B D ⟨0,none,0,0,0,sz,0,false⟩::F1):=⟨_,_,d7 _ b7⟩;have a0:V[0+0*5]?=some (.bool (decide (0<M.1))):=qa a5 (by decide);have c2:V[0+0*5+2]?=some (.int .i64 M.1):=qa a5 (by decide);have d1:V[0+1*5]?=some (.bool (decide (0<O.1))):=qa a5 (by decide);have c3:V[0+1*5+2]?=some (.int .i64 O.1):=qa a5 (by decide);have c5:∀j:JM,j.gen≠0→nL i0 i1 j d=pX (px j.gen j.cu j.en j.sz i0 i1) j d:=fun j c6=>by
  rw[nL,p9,wj,if_neg c6,if_neg c6];rfl
 have c9:M.1<O.1→uk B (SO a6) 2 hc (SO Q) 2 sc none 0 0 D (sz:Int) 1 0 0 none 0 0 false F1 S w0 (qf S w0 D r):=fun a1=>by
  refine KJ (cu:=1) (Z:=T) (own:=O) rfl ⟨_,_,a9⟩ k1 rfl ⟨_,_,b7⟩ (by omega) d3 a8 b5 b6 b0 a7 (by omega) (b9 t1) b1 ?_;rw[b3,pQ,if_pos a1,c5 _ (by show O.1≠0;omega)];rfl
 have e6:¬M.1<O.1→0<M.1→uk B (SO a6) 2 hc (SO Q) 2 sc none 0 0 D (sz:Int) 0 0 0 none 0 0 false F1 S w0 (qf S w0 D r):=fun a1 e9=>by
  refine KJ (cu:=0) (Z:=T) (own:=M) rfl ⟨_,_,a9⟩ k1 rfl ⟨_,_,b7⟩ (by omega) d2 a8 b6 b5 a7 b0 (by omega) (b9 e5) b1 ?_;rw[b3,pQ,if_neg a1,c5 _ (by show M.1≠0;omega)];have:px M.1 0 M.2.2 sz i0 i1=nu (mr (1-0) sz 0 i1++mr 0 sz M.2.2 i0):=by
   rw[px,if_pos rfl,if_neg (by omega)]
  rw[←this]
 refine⟨a6,0,rfl,by omega,V,_,a3,a0,fun a2=>?_,fun a2=>⟨by omega,V,_,a3,d1,fun a4=>?_,fun a4=>?_⟩⟩
 ·have a2:0<M.1:=by simpa using a2
  exact⟨by omega,V,_,a3,c3,by omega,V,_,a3,c2,fun a1=>c9 a1,fun a1=>e6 a1 a2⟩
 ·have a2:¬0<M.1:=by simpa using a2
  have a4:0<O.1:=by simpa using a4
  exact⟨by omega,V,_,a3,c3,by omega,V,_,a3,c2,fun a1=>c9 a1,fun a1=>absurd a1 (by omega)⟩
 ·have a2:¬0<M.1:=by simpa using a2
  have a4:¬0<O.1:=by simpa using a4
  have z0:=Ii e0 a2;have z1:=Ii e1 a4;subst z0 z1;have e3:cs[0]?=some (.string c7):=qa k1 (by decide);have e4:cs[1]?=some (.string c8):=qa k1 (by decide);refine N8 (i:=0) (Z:=T) (ops:=[]) (by omega) rfl ⟨_,_,a9⟩ e3 a8 (by rw[b0];exact b5) (b9 (fs:=[]) lj.oz) rfl (by omega) fun lp lc d0 n hn d4=>?_
  refine N8 (i:=1) (Z:=T) (by omega) rfl ⟨_,_,a9⟩ e4 a8 (by rw[a7];exact b6) d4 hn ?_ fun lp lc d0 n hn d5=>?_
  ·rw[←hn,aT];exact Nat.le_trans (u7 _ _ _ _) (by omega)
  apply HD;have e7:=u7 0 sz 0 (bb c7);have e8:=u7 1 sz 0 (bb c8);refine no (by omega) (Zg d5 hn ?_ b1 ?_)
  ·rw[←hn,aT,ae];omega
  ·rw[b3,b0,a7];rfl
def Dq (d:DS)(sz:Nat)(i0 i1:List UInt8):HR→HR→Int×Option JM×DS
 |some h0,some h1=>if 0<h0.1∧0<h1.1∧¬(h0.1-h1.1=1)∧¬(h1.1-h0.1=1)then(242,none,d)else nL i0 i1 (pQ sz h0 h1) d
 |_,_=>(242,none,d)
theorem O5 {r0 r1:HR}(h:IS D d sz i0 i1 r0 r1 sp hp F1)(c6:d.pend.length<900000){r:Int×Option JM×DS}
  (a4:r=Dq d sz i0 i1 r0 r1):
  Fy B hp 2 hc sp 2 sc D (sz:Int) 0 0 0 none 0 0 false F1 S w0 (qf S w0 D r):=by
 have c2:=h;obtain⟨⟨Q,cs,a5,M,p0,c0,p1,c1,Fd,T,d7,d8,rfl,rfl,b5,c3,d9,t1,d6,c8,k1,a3,d3,b0,d1⟩,d4,d5,d2,e0,e1⟩:=h;apply Ot;have c5:∀{x} (y:Nat×Obj),x∈T→x∈(y::F1):=fun y c7=>ag _ (b5.mem_iff.2 (ak _ c7))
 have a2:∃t fz,(a5,bu ⟨M⟩ t fz)∈(kJ B D ⟨0,none,0,0,0,sz,0,false⟩::F1):=⟨_,_,c5 _ c8⟩;have a0:M[0+0*5]?=some (.bool (hU r0)):=qa a3 (by decide);have a9:M[0+0*5+1]?=some (.bool r0.isNone):=qa a3 (by decide);have b6:M[0+0*5+2]?=some (.int .i64 (hG r0)):=qa a3 (by decide);have b7:M[0+1*5]?=some (.bool (hU r1)):=qa a3 (by decide);have b1:M[0+1*5+1]?=some (.bool r1.isNone):=qa a3 (by decide);have b9:M[0+1*5+2]?=some (.int .i64 (hG r1)):=qa a3 (by decide);have gen:∀{l:List UInt8} {x:HR},mf l=x→0≤hG x∧hG x≤4611686018427387903:=fun {l x} e=>by
  cases x with
  |none=>exact⟨jL 0,by show(0:Int)≤_;omega⟩
  |some q=>have:=vh (fs:=q.2.1) (e:=q.2.2) (g:=q.1) e;exact⟨this.1,this.2.1⟩
 have g0:=gen e0;have g1:=gen e1;have bad:r=(242,none,d)→Fin (qf S w0 D r) (kJ B D ⟨0,none,0,0,0,sz,0,false⟩::F1) S w0 (.tuple #[.pointer none,.int .i64 242]):=fun e=>by
  rw[e];exact kR ⟨rfl,c3.less (X:=kJ B D ⟨0,none,0,0,0,sz,0,false⟩::T) (R7 _ _ _ _ b5)⟩
 have b3:r0.isNone=true→r=(242,none,d):=fun e=>by
  cases r0 with
  |none=>rw[a4];rfl
  |some q=>cases e
 have b4:r1.isNone=true→r=(242,none,d):=fun e=>by
  cases r1 with
  |none=>rw[a4];cases r0<;>rfl
  |some q=>cases e
 have ot:r0.isNone=false→r1.isNone=false→(∀O V,r0=some O→r1=some V→¬(0<O.1∧0<V.1∧¬(O.1-V.1=1)∧¬(V.1-O.1=1)))→uY B (SO a5) 2 hc (SO Q) 2 sc D (sz:Int) 0 0 0 none 0 0 false F1 S w0 (qf S w0 D r):=fun a1 n1 c4=>by
  cases r0 with
  |none=>cases a1
  |some O=>cases r1 with
   |none=>cases n1
   |some V=>exact QL c2 c6 (by rw[a4];exact if_neg (c4 O V rfl rfl))
 refine⟨a5,0,rfl,by omega,M,_,a2,b6,by omega,M,_,a2,b9,?_⟩;rintro _ rfl;rw[kS (by omega)];refine⟨by omega,M,_,a2,a0,fun a7=>⟨by omega,M,_,a2,b7,by omega,M,_,a2,a9,fun a1=>bad (b3 a1),fun a1=>⟨by omega,M,_,a2,b1,fun n1=>bad (b4 n1),fun n1=>⟨fun a8=>⟨fun f1=>⟨fun a6=>bad ?_,fun a6=>ot a1 n1 ?_⟩,fun f1=>ot a1 n1 ?_⟩,fun a8=>ot a1 n1 ?_⟩⟩⟩,
  fun a7=>⟨by omega,M,_,a2,a9,fun a1=>bad (b3 a1),fun a1=>⟨by omega,M,_,a2,b1,fun n1=>bad (b4 n1),fun n1=>ot a1 n1 ?_⟩⟩⟩
 ·cases r0 with
  |none=>cases a1
  | some O=>cases r1 with
   |none=>cases n1
   |some V=>
    rw[a4];have c9:0<O.1:=by simpa[hU]using a7
    have d0:0<V.1:=by simpa[hU]using a8
    exact if_pos ⟨c9,d0,f1,by simp only[hG]at a6;omega⟩
 ·rintro O V rfl rfl ⟨_,_,_,x⟩
  simp only[hG]at a6;omega
 ·rintro O V rfl rfl ⟨_,_,x,_⟩
  exact x f1
 ·rintro O V rfl rfl ⟨_,x,_⟩
  have:¬0<V.1:=by simpa[hU]using a8
  exact this x
 ·rintro O V rfl rfl ⟨x,_⟩
  have:¬0<O.1:=by simpa[hU]using a7
  exact this x
section perms
variable (x y z:Nat×Obj)(A F T X N L Z G Y:aX)
theorem o0 (h:F.Perm (G++Z)):(G++(x::Z)).Perm (x::F):=lR fun c w M O V a1=>by
 have:=a1 _ _ h;simp only[M,O,V]at this ⊢;omega
theorem Up:(G++(x::(A++(N++Y)))).Perm (x::(G++(A++(N++Y)))):=cI
theorem Qn:(y::x::(G++(A++(N++Y)))).Perm (A++(y::x::(G++(N++Y)))):=lR fun c w M O V a1=>by simp only[M,O,V]<;>omega
theorem Wm (h:L.Perm (A++(y::x::(G++(N++Y))))):L.Perm (x::(G++(A++(N++(y::Y))))):=lR fun c w M O V a1=>by
 have:=a1 _ _ h;simp only[M,O,V]at this ⊢;omega
theorem XD:(L++(x::(G++(A++(N++Y))))).Perm (x::(G++(A++(N++(L++Y))))):=lR fun c w M O V a1=>by simp only[M,O,V]<;>omega
theorem OO:(y::x::(G++(A++(N++Y)))).Perm (N++(y::x::(G++(A++Y)))):=lR fun c w M O V a1=>by simp only[M,O,V]<;>omega
theorem Pq:(A++(N++(G++(Y++[])))).Perm (Y++((A++N)++G)):=lR fun c w M O V a1=>by simp only[M,O,V]<;>omega
theorem WC (h:L.Perm (N++(y::x::(G++(A++Y))))):L.Perm (x::(G++(A++(N++(y::Y))))):=lR fun c w M O V a1=>by
 have:=a1 _ _ h;simp only[M,O,V]at this ⊢;omega
end perms
abbrev LQ (i:Nat)(vs:List aa)(p:OA)(c:Nat)(G:aX):Prop:=mb 9 1 i vs p c G
abbrev IP (i:Nat)(vs:List aa)(p:OA)(c:Nat)(G:aX):Prop:=mb 172 5 i vs p c G
theorem Jr {i:Nat}{Fd Xs Xh Y:aX}{strs hcs:List aa}{R:bJ→aj→Prop}(hi:i<2)(c2:sz≤2097152)(c9:0<sz)(d4:2*sz≤d.vis.length)(b6:d.on=true)(d3:d.pend.length<900000)(b1:mQ D d Fd)(b9:LQ i strs sp sc Xs)(b4:IP i hcs hp hc Xh)
  (H:∀hp hc sp sc Fd Xs Xh a2 p c,mQ D d Fd→LQ (i+1) (strs++[.string (ba ((d.vis.drop (i*sz)).take sz))]) sp sc Xs→IP (i+1) (hcs++qp (mf ((d.vis.drop (i*sz)).take sz)) p c) hp hc Xh→lj mI (xd (mf ((d.vis.drop (i*sz)).take sz))) p c a2→
   xI B D hp (i+1) hc sp (i+1) sc ((i+1:Nat):Int) D (sz:Int) 0 0 0 none 0 0 false (Fd++(Xs++(Xh++(a2++Y)))) S w0 R):
  xI B D hp i hc sp i sc (i:Int) D (sz:Int) 0 0 0 none 0 0 false (Fd++(Xs++(Xh++Y))) S w0 R:=by
 apply EH;have d1:i*sz≤1*2097152:=dp (by omega) c2;have d2:i*sz≤1*sz:=bI _ (by omega);have a7:ab.wrap ((i:Int)*(sz:Int))=((i*sz:Nat):Int):=by
  rw[show(i:Int)*(sz:Int)=((i*sz:Nat):Int)by simp,kS (by omega)]
 have b7:d.read ((i*sz:Nat):Int) (sz:Int)=(ba ((d.vis.drop (i*sz)).take sz),0):=by
  rw[DS.read,if_neg (by rw[b6];decide),if_pos (by omega),ai,ai]
 have b5:((d.vis.drop (i*sz)).take sz).length=sz:=by rw[ao,aZ];omega
 generalize hI:(d.vis.drop (i*sz)).take sz=img at*;have d0:(ba img).size=sz:=by rw[lY];exact b5
 rw[a7];refine yes (by omega) ?_;refine eA.lF (L0:=Fd) (L1:=kJ B D ⟨0,none,0,0,0,sz,0,false⟩::(Xs++(Xh++Y))) (NK b1 (by omega) (by omega)) (o0 _ _ _ _ (ah _)) ?_;rw[b7];rintro _ V ⟨rfl,b3⟩;refine⟨_,Up _ _ _ _ _,_,_,_,rfl,rfl,fun h=>absurd rfl h,fun _ B2=>?_⟩;refine(mb.push (T:=32) (m:=1) (news:=[.string (ba img)]) (Y:=(B2,.cells #[.string (ba img)] 9)::kJ B D ⟨0,none,0,0,0,sz,0,false⟩::(V++(Xh++Y))) (bytes:=16) (z:=.string ⟨#[]⟩) b9 (by kernel_rfl) (by kernel_rfl) rfl (by omega) rfl ⟨by omega,by omega⟩ (Qn _ _ _ _ _ _)).nd ?_;rintro _ c7 ⟨p',c',a1,rfl,c3,c4⟩;refine⟨_,Wm _ _ _ _ _ _ _ c3,p',c',_,rfl,rfl,?_⟩;refine eA.lF (L0:=[]) (L1:=kJ B D ⟨0,none,0,0,0,sz,0,false⟩::(V++(a1++(Xh++((B2,.cells #[.string (ba img)] 9)::Y))))) (PJ (s:=ba img) (by omega) (by omega)) (ah _) ?_;rintro v Z a4;rw[mA]at a4;obtain⟨O,M,rfl,a8⟩:=OM a4;refine⟨_,XD _ _ _ _ _ _,_,_,_,O,_,M,_,_,rfl,rfl,fun B3=>?_⟩;refine(mb.push (T:=170) (m:=1) (news:=qp (mf img) O M) (Y:=(B3,.cells ⟨qp (mf img) O M⟩ 172)::kJ B D ⟨0,none,0,0,0,sz,0,false⟩::(V++(a1++(Z++((B2,.cells #[.string (ba img)] 9)::Y))))) (bytes:=48) (z:=.agg #[.bool false,.bool false,.int .i64 0,.slice none 0 0,.int .i64 0]) b4 (by kernel_rfl) (by kernel_rfl) rfl (by omega) rfl ⟨by omega,by omega⟩ (OO _ _ _ _ _ _)).nd ?_;rintro _ c8 ⟨a5,a3,a6,rfl,c5,c6⟩;refine⟨_,WC _ _ _ _ _ _ _ c5,a5,a3,_,rfl,rfl,?_⟩;rintro _ rfl;rw[kS (by omega),show(i:Int)+1=((i+1:Nat):Int)by omega];have a9:lj mI (xd (mf img)) O M ((B3,.cells ⟨qp (mf img) O M⟩ 172)::(Z++[(B2,.cells #[.string (ba img)] 9)])):=((a8.more [(B2,.cells #[.string (ba img)] 9)]).perm aw).more [(B3,.cells ⟨qp (mf img) O M⟩ 172)];have:=H a5 a3 p' c' V a1 a6 _ O M b3 c4 c6 a9;rw[aY,an]at this;exact this
theorem Pl {F:aX}(h:mQ D d F)(a1:d.pend.length<900000):lP TP 73 ⟨[pt D 0]⟩ F (xf D (mn d)):=by
 intro W hm;have V:=h;obtain⟨c4,SB,d3,cs,d2,d1,G,c2,d7,d8,d9,e2⟩:=h;have e3:=c4.ok.le;generalize F.map (·.1)=S at*;have a7:∃t fz,(D,bu ⟨[.slice (SO SB) d.vis.length d3,.slice d2 d.pend.length d1,.bool (!d.on),.int .i64 (d.cut:Int)]⟩ t fz)∈F:=⟨_,_,c2.mem_iff.2 au⟩;refine S4 D F hm ⟨_,_,_,_,a7,rfl,fun c3=>?_,fun c3=>⟨_,_,_,_,a7,rfl,fun B=>?_⟩⟩
 ·rw[mn,if_pos (by omega)];exact kR ⟨rfl,V⟩
 have b6:ab.wrap ((d.vis.length:Int).tdiv 2)=((d.vis.length/2:Nat):Int):=by
  rw[show(d.vis.length:Int).tdiv 2=((d.vis.length/2:Nat):Int)from rfl,kS (by omega)]
 rw[b6]
 by_cases hon:d.on=false
 ·apply EH
  rw[mn,if_neg (by omega),if_pos hon];refine yes (by decide) ?_;have c6:∀a b,d.read a b=(⟨#[]⟩,231):=fun a b=>by rw[DS.read,if_pos hon]
  refine eA.lF (L0:=F) (L1:=[kJ B D ⟨0,none,0,0,0,((d.vis.length/2:Nat):Int),0,false⟩]) (NK V (by omega) ⟨by rw[Int.zero_mul];decide,by rw[Int.zero_mul];decide⟩) aw ?_;rw[c6];rintro _ d4 ⟨rfl,c5⟩;exact⟨_,aw,_,_,_,rfl,rfl,fun _=>kR ⟨rfl,c5.more [_]⟩,fun h=>absurd h (by decide)⟩
 have a8:d.on=true:=by simpa using hon
 have b5:mn d=Dq d (d.vis.length/2) (ng d) (na d) (mf (ng d)) (mf (na d)):=by
  rw[mn,if_neg (by omega),if_neg hon];cases mf (ng d)<;>cases mf (na d)<;>rfl
 rw[b5];have a2:d.vis.length/2≤2097152:=by omega
 have:=Jr (B:=B) (i:=0) (Fd:=F) (Xs:=[]) (Xh:=[]) (Y:=[]) (strs:=[]) (hcs:=[]) (sp:=none) (sc:=0) (hp:=none) (hc:=0) (S:=S) (w0:=W) (R:=qf S W D (Dq d (d.vis.length/2) (ng d) (na d) (mf (ng d)) (mf (na d)))) (by omega) a2 (by omega) (by omega) a8 a1 V mb.nil mb.nil
  (fun hp hc sp sc Fd Xs Xh a3 p c g1 b7 b9 a6=>?_)
 ·rw[show F++(([]:aX)++(([]:aX)++([]:aX)))=F by simp]at this
  exact this
 refine Jr (i:=1) (by omega) a2 (by omega) (by omega) a8 a1 g1 b7 b9 (fun hp hc sp sc Fd Xs Xh a4 d0 b1 f1 M O a5=>?_);apply EH;refine no (by decide) ?_;have e0:(d.vis.drop (0*(d.vis.length/2))).take (d.vis.length/2)=ng d:=by rw[Nat.zero_mul,aU];rfl
 have e1:(d.vis.drop (1*(d.vis.length/2))).take (d.vis.length/2)=na d:=by rw[Nat.one_mul];rfl
 rw[e0]at M O a6;rw[e1]at M O a5;refine O5 (i0:=ng d) (i1:=na d) (r0:=mf (ng d)) (r1:=mf (na d)) ⟨?_,?_,?_,a2,rfl,rfl⟩ a1 rfl
 ·obtain⟨_,_,⟨_,_,k⟩|⟨Q,b3,d5,rfl,k1,e6,c9⟩⟩:=M
  ·exact absurd k (by decide)
  obtain⟨e4,_,⟨_,_,k⟩|⟨a9,b4,d6,rfl,c7,e5,c8⟩⟩:=O
  ·exact absurd k (by decide)
  refine⟨Q,b3,a9,b4,p,c,d0,b1,Fd,Xs++(Xh++(a4++(a3++[]))),ba (ng d),ba (na d),rfl,rfl,ah _,f1,?_,?_,?_,?_,c9,c8,?_,mA _,mA _⟩
  ·exact(a6.more (Xs++(Xh++a4))).perm (by simp)
  ·exact((a5.more (Xs++Xh)).more a3).perm (Pq _ _ _ _)
  ·exact ay _ (k1.mem_iff.2 au)
  ·exact ak _ (ay _ (c7.mem_iff.2 au))
  ·omega
 ·rw[ng,ao];omega
 ·rw[na,ao,aZ];omega
end opn1
def kept (ks:List Int):Nat→List (Nat×BA)→List (Nat×BA)
 |_,[]=>[]
 |i,q::r=>if(i:Int)∈ks then q::kept ks (i+1) r else kept ks (i+1) r
def uV (torn:Int)(s:BA):List UInt8:=if 0≤torn∧torn<s.size then(bb s).take torn.toNat else bb s
def ux (torn:Int):List (Nat×BA)→List UInt8→List UInt8
 |[],b=>b
 |[q],b=>lu b q.1 (uV torn q.2)
 |q::r,b=>ux torn r (lu b q.1 (bb q.2))
theorem Fs (p:Nat):∀(ks:List Int) (O:List Bool) (last:Int),last≤(ov p ks O last).2∧(∀n∈ks,0≤n∧n<p→n≤(ov p ks O last).2)∧((ov p ks O last).2=last∨((ov p ks O last).2∈ks∧0≤(ov p ks O last).2∧(ov p ks O last).2<p))
 |[],O,last=>⟨jL _,(fun n hn=>by cases hn),.inl rfl⟩
 | n ::r,O,last=>by
  unfold ov;split
  ·next h=>
   obtain⟨V,a4,g1,a5,a1⟩:∃V,V=(if n>last then n else last)∧last≤V∧n≤V∧(V=n∨V=last):=⟨_,rfl,by split<;>omega,by split<;>omega,by split<;>simp⟩;rw[←a4];obtain⟨a3,a2,M⟩:=Fs p r (O.set n.toNat true) V;refine⟨by omega,fun m hm hp=>?_,?_⟩
   ·rcases bT.1 hm with rfl|hm
    ·omega
    ·exact a2 m hm hp
   ·rcases M with M|⟨M,h4⟩
    ·rw[M]
     rcases a1 with a1|a1
     ·rw[a1];exact .inr ⟨au,h⟩
     ·exact .inl a1
    ·exact .inr ⟨ag _ M,h4⟩
  ·next h=>
   obtain⟨a3,a2,M⟩:=Fs p r O last;refine⟨a3,fun m hm hp=>?_,?_⟩
   ·rcases bT.1 hm with rfl|hm
    ·exact absurd hp h
    ·exact a2 m hm hp
   ·rcases M with M|⟨M,h4⟩
    ·exact .inl M
    ·exact .inr ⟨ag _ M,h4⟩
theorem FO (p:Nat):∀(ks:List Int) (M:List Bool) (last:Int) (j:Nat),M.length=p→j<p→((ov p ks M last).1.getD j false=true↔M.getD j false=true∨(j:Int)∈ks)
 |[],M,last,j,_,_=>by simp[ov]
 | n::r,M,last,j,hs,hj=>by
  unfold ov;split
  ·next h=>
   rw[FO p r _ _ j (by rw[List.length_set];exact hs) hj,fm,fm,List.getElem?_set]
   by_cases e:n.toNat=j
   ·rw[if_pos e,if_pos (by omega)]
    have:(j:Int)=n:=by omega
    simp[this]
   ·rw[if_neg e]
    have:¬(j:Int)=n:=by omega
    simp[this]
  ·next h=>
   rw[FO p r M last j hs hj];have:¬(j:Int)=n:=fun e=>h ⟨by omega,by omega⟩
   simp[this]
theorem J6 {ks:List Int}:∀(r:List (Nat×BA)) (i:Nat),(∀j,i≤j→j<i+r.length→¬(j:Int)∈ks)→kept ks i r=[]
 |[],_,_=>rfl
 |q::r,i,h=>by
  rw[kept,if_neg (h i (aD _) (by rw[aI];omega))];exact J6 r (i+1) fun j M O=>h j (by omega) (by rw[aI];omega)
theorem KF {ks:List Int}{j:Nat}(M:(j:Int)∈ks):∀(r:List (Nat×BA)) (i:Nat),i≤j→j<i+r.length→kept ks i r≠[]
 |[],_,h1,h2=>by simp at h2;omega
 | q::r,i,h1,h2=>by
  rw[kept];split
  ·simp
  ·next hn=>
   have:i≠j:=fun e=>hn (e▸M)
   exact KF M r (i+1) (by omega) (by rw[aI]at h2;omega)
theorem Ga {ks:List Int}{last torn:Int}{a2:List Bool}{p:Nat}(a1:∀j,j<p→(a2.getD j false=true↔(j:Int)∈ks))(V:∀n∈ks,0≤n∧n<p→n≤last)(M:last= -1∨(last∈ks∧0≤last∧last<p)):
  ∀(r:List (Nat×BA)) (i:Nat) (b:List UInt8),i+r.length=p→rE last torn a2 i r b=ux torn (kept ks i r) b
 |[],_,_,_=>rfl
 | (o,s)::r,i,b,hp=>by
  rw[aI]at hp;have hi:=a1 i (by omega);rw[rE,kept]
  by_cases hk:(i:Int)∈ks
  ·rw[if_pos (hi.2 hk),if_pos hk,Ga a1 V M r (i+1) _ (by omega)]
   by_cases hl:(i:Int)=last
   ·have hn:kept ks (i+1) r=[]:=J6 r (i+1) fun j a7 a8 a4=>by have:=V j a4 (by omega);omega
    rw[hn];show lu b o (sx last torn i s)=lu b o (uV torn s);rw[sx,uV]
    by_cases O:0≤torn∧torn<s.size
    ·rw[if_pos ⟨hl,O⟩,if_pos O]
    ·rw[if_neg (fun h=>O h.2),if_neg O]
   ·have a6:=V i hk (by omega)
    obtain⟨g1,a3,a5⟩:last∈ks∧0≤last∧last<p:=by
     rcases M with M|M
     ·omega
     ·exact M
    have hn:kept ks (i+1) r≠[]:=KF (j:=last.toNat) (by rw[Int.toNat_of_nonneg a3];exact g1) r (i+1) (by omega) (by omega);have O:sx last torn i s=bb s:=by rw[sx,if_neg (fun h=>hl h.1)]
    rw[O];cases hq:kept ks (i+1) r with
    |nil=>exact absurd hq hn
    |cons a t=>rfl
  ·rw[if_neg (fun h=>hk (hi.1 h)),if_neg hk]
   exact Ga a1 V M r (i+1) b (by omega)
theorem R5 {d:DS}(ks:List Int)(torn:Int):d.crashed ks torn=ux torn (kept ks 0 d.pend) d.dur:=by
 obtain⟨k1,O,V⟩:=Fs d.pend.length ks (aA d.pend.length false) (-1);unfold DS.crashed;refine Ga (p:=d.pend.length) (fun j M=>?_) O V d.pend 0 d.dur (by omega);rw[FO d.pend.length ks _ _ j dL M];simp[fm,List.getElem?_replicate,M]
theorem Nw {ks:List Int}:∀(l:List (Nat×BA)) (i:Nat) (k:Nat) (h:k<l.length),kept ks i (l.take (k+1))=if((i+k:Nat):Int)∈ks then kept ks i (l.take k)++[l[k]]else kept ks i (l.take k)
 |q::r,i,0,_=>by
  simp only[eh,dN,kept,Nat.add_zero,List.getElem_cons_zero,aT]
 |q::r,i,k+1,h=>by
  have ih:=Nw (ks:=ks) r (i+1) k (by simpa using h);rw[eh,eh,kept,kept,ih,List.getElem_cons_succ,show i+1+k=i+(k+1)by omega]
  by_cases h1:(i:Int)∈ks<;>by_cases h2:((i+(k+1):Nat):Int)∈ks<;>simp only[h1,h2,if_true,if_false,aY]
theorem Zo {W:aj}{p:OA}{c:Nat}{ks:List Int}{n:Int}(a5:lX (kY W) p ks)(a6:ks.length≤9223372036854775807):PW TP 78 ⟨[.slice p ks.length c,.int .i64 n]⟩ W (.bool (decide (n∈ks))):=by
 refine Ul p ks.length c n (Mem.start [] W) ?_;have go:∀(g i:Nat),g+i=ks.length→decide (n∈ks)=decide (n∈ks.drop i)→zM p ks.length c n (i:Int) W (fun e V=>e=.returned (.bool (decide (n∈ks)))∧Below W.heap.size W V):=by
  intro g;induction g with
  |zero=>
   intro i hi M;apply Jz;rw[ax (by omega)]at M;exact no (by omega) (kQ (by rw[M];rfl))
  | succ g ih=>
   intro i hi M;apply Jz;have O:i<ks.length:=by omega
   obtain⟨b,o,cc,e1,a1,a2⟩:=a5.get O;rw[aG O]at M;refine yes (by omega) ⟨b,o,e1,by omega,cc,ks[i],a1,by simpa using a2,fun h=>kQ ?_,fun h=>?_⟩
   ·rw[M];simp[h]
   ·rintro _ rfl
    rw[kS (by omega),show(i:Int)+1=((i+1:Nat):Int)by omega];refine ih (i+1) (by omega) ?_;rw[M,decide_eq_decide];simp only[bT];exact⟨fun a3=>a3.elim (fun a4=>absurd a4.symm h) id,.inr⟩
 exact go ks.length 0 (by omega) (by rw[aU])
section om
variable {D SB sc pc B:Nat}{d:DS}{pp:Option Addr}{G:aX}{torn:Int}{S:List Nat}{W:World}{cs0:List Value}{on:Bool}{left:Int}
abbrev CN (D:Nat)(d':DS)(S:List Nat)(W:aj):bJ→aj→Prop:=fun e W'=>∃v L',e=.returned v∧Mem L' S W W'∧uq D (.tuple #[]) d' v L'
theorem Ll {n:Nat}{l:List (Nat×BA)}{lp:OA}{lc:Nat}{b0:List UInt8}(b5:l.length<1000000)(hn:n≤4194304)(a9:∀q∈l,q.1+q.2.size≤n)(b1:mb 128 2 l.length (mm l) lp lc G){d':DS}(V:d'.pend=[])(a8:d'.on=true)(a6:d'.cut=0)(a1:d'.vis.length=n)(a5:s9 d')(a7:d'.dur=ux torn l b0)(b7:n≤sc):
  ∀(g i:Nat) (cs:List aa) (b:List UInt8),g+i=l.length→cs.length=sc→b.length=n→cs.take n=kU b→ux torn (l.drop i) b=ux torn l b0→
   Ch D SB n sc pp d.pend.length pc on left D SB torn lp l.length lc (i:Int) n sc on cs G S W (CN D d' S W)
 |0,i,cs,b,hg,c1,c2,c3,c4=>by
  apply Hr;rw[ax (by omega)]at c4;refine no (by omega) (DK.fin ⟨rfl,a5,SB,sc,cs,none,0,G,?_,by omega,c1,?_,?_⟩)
  ·rw[V,a8,a6,a1];exact ah _
  ·rw[a1,c3,a7,←c4];rfl
  ·rw[V];exact mb.nil
 | g +1,i,cs,b,hg,c1,c2,c3,c4=>by
  apply Hr;have a2:i<l.length:=by omega
  obtain⟨Q,qs,rfl,k1,c6,d3⟩:=Fg b1 a2;obtain⟨e1,b3⟩:=Af c6;have c8:=a9 _ (bH a2);have d1:=lB l[i].2;have c5:ab.wrap ((l.length:Int)-1)=(l.length:Int)-1:=kS (by omega);have step:∀s:BA,s.size≤l[i].2.size→ux torn (l.drop (i+1)) (lu b l[i].1 (bb s))=ux torn l b0→
    vp D SB n sc pp d.pend.length pc on left D SB torn (SO Q) l.length lc (i:Int) s n sc on cs G S W (CN D d' S W):=by
   intro s c9 b9;apply PZ;have d2:=lB s;refine⟨Q,0,rfl,by omega,qs,(l[i].1:Int),Ey k1,e1,?_⟩;refine eA.lF (L0:=[(SB,.cells ⟨cs⟩ 5)]) (L1:=(D,_)::G) (Kd (by omega) (by omega) (by omega)) (dg _ _ _) ?_;rintro _ _ ⟨rfl,rfl⟩;refine⟨_,dg _ _ _,_,rfl,rfl,?_⟩;rintro _ rfl;rw[kS (by omega),show(i:Int)+1=((i+1:Nat):Int)by omega];have b4:=Lg (cs:=cs) (b:=b) (s:=bb s) (o:=l[i].1) (by rw[c2];exact c3) (by omega) (by omega);refine Ll b5 hn a9 b1 V a8 a6 a1 a5 a7 b7 g (i+1) _ (lu b l[i].1 (bb s)) (by omega) ?_ ?_ ?_ b9
   ·rw[wm (by rw[nV];omega)];exact c1
   ·rw[qw (by omega)];exact c2
   ·rw[←b4,c2]
  rw [aG a2]at c4;have a3:¬((i:Int)=(l.length:Int)-1∧0≤torn∧torn<l[i].2.size)→vp D SB n sc pp d.pend.length pc on left D SB torn (SO Q) l.length lc (i:Int) l[i].2 n sc on cs G S W (CN D d' S W):=by
   intro b6;refine step _ (aD _) ?_;rw[←c4];cases sn:l.drop (i+1)with
   | nil=>
    have c7:i+1=l.length:=by
     have:=congrArg List.length sn;rw[aZ,List.length_nil]at this;omega
    show lu b l[i].1 (bb l[i].2)=lu b l[i].1 (uV torn l[i].2);rw[uV,if_neg (fun h=>b6 ⟨by omega,h⟩)]
   |cons a t=>rfl
  refine yes (by omega) ⟨Q,0,rfl,by omega,qs,l[i].2,Ey k1,b3,?_⟩;rw[c5];refine⟨fun a4=>⟨fun M=>⟨fun O=>⟨⟨by omega,M,by omega⟩,?_⟩,fun O=>a3 fun h=>O h.2.2⟩,fun M=>a3 fun h=>M h.2.1⟩,fun a4=>a3 fun h=>a4 h.1⟩;rintro _ rfl;have d0:(l[i].2.extract 0 torn.toNat).size=torn.toNat:=by rw[di];omega
  refine step _ (by omega) ?_;have sn:l.drop (i+1)=[]:=ax (by omega);rw[sn]at c4 ⊢;rw[←c4];show lu b l[i].1 (bb (l[i].2.extract 0 torn.toNat))=lu b l[i].1 (uV torn l[i].2);rw[uV,if_pos ⟨M,O⟩];congr 1;exact Hq ⟨M,by omega⟩
theorem EM {ks:List Int}:∀(l:List (Nat×BA)) (i:Nat),(kept ks i l).length≤l.length
 |[],_=>aD _
 |q::r,i=>by
  have:=EM (ks:=ks) r (i+1);rw[kept];split
  ·rw[aI,aI];omega
  ·rw[aI];omega
theorem EX {ks:List Int}:∀(l:List (Nat×BA)) (i:Nat),∀q∈kept ks i l,q∈l
 | a::r,i,q,h=>by
  rw[kept]at h;split at h
  ·rcases bT.1 h with rfl|h
   ·exact au
   ·exact ag _ (EX r (i+1) q h)
  ·exact ag _ (EX r (i+1) q h)
theorem ZK {L:aX}{M:aj}{kp:OA}{ks:List Int}(h:ve S W kp ks)(hm:Mem L S W M):lX (kY M) kp ks:=fun hp=>by
 obtain⟨b,o,c,e,O,V,hc⟩:=h hp;exact⟨b,o,c,e,sh hm.kept O V,hc⟩
theorem Yy {x y z:Nat×Obj}{F N G:aX}(h:F.Perm (N++G)):(x::y::z::F).Perm (N++(x::y::z::G)):=lR fun c w M O V a1=>by
 have:=a1 _ _ h;simp only[M,O,V]at this ⊢;omega
theorem YP {x y z:Nat×Obj}{L N G:aX}(h:L.Perm (N++(x::y::z::G))):L.Perm (y::z::(N++(x::G))):=lR fun c w M O V a1=>by
 have:=a1 _ _ h;simp only[M,O,V]at this ⊢;omega
theorem IL {F:aX}(h:mQ D d F)(d4:d.pend.length<1000000){kp:OA}{kc:Nat}{ks:List Int}(c3:ks.length≤9223372036854775807)(torn:Int):
  m0 TP 35 ⟨[DP D,.slice kp ks.length kc,.int .i64 torn]⟩ F (fun W=>ve (F.map (·.1)) W kp ks) (uq D (.tuple #[]) (d.om ks torn)):=by
 intro W hm a8;obtain⟨a1,SB,sc,cs,a6,a5,G,b3,b4,b5,b6,b7⟩:=h;have c4:=a1.ok.le;have c2:=a1.ok.len;have b9:=DR a1.ok ks torn;refine Ov D kp ks.length kc torn SB _ sc a6 _ a5 _ _ cs G (hm.perm b3.symm) ?_;generalize F.map (·.1)=S at a8 hm;have go:∀(g i:Nat) (lp:OA) (lc:Nat) (N V O:aX),g+i=d.pend.length→mb 128 2 (kept ks 0 (d.pend.take i)).length (mm (kept ks 0 (d.pend.take i))) lp lc N→mb 128 2 d.pend.length (mm d.pend) a6 a5 V→O.Perm (N++V)→
   yW D SB d.vis.length sc a6 d.pend.length a5 (!d.on) d.cut D SB kp ks.length kc torn lp (kept ks 0 (d.pend.take i)).length lc (i:Int) d.vis.length sc (!d.on) cs O S W (CN D (d.om ks torn) S W):=by
  intro g;induction g with
  |zero=>
   intro i lp lc N V O hi r1 a2 hp;apply NP;have c8:d.pend.take i=d.pend:=aK (by omega);rw[c8]at r1 ⊢;have a7:=EM (ks:=ks) d.pend 0;refine no (by omega) ?_;apply Oz;refine Ll (b0:=d.dur) (d':=d.om ks torn) (by omega) c4 (fun q c7=>a1.ok.pend q (EX _ _ q c7)) ((r1.more V).perm (hp.trans aw)) rfl rfl rfl b9 ⟨mj.om a1.ok ks torn,rfl⟩ (R5 ks torn) b4 (kept ks 0 d.pend).length 0 cs d.dur (by omega) b5 c2 b6 (by rw[aU])
  | succ g ih=>
   intro i lp lc N V O hi r1 a2 hp;apply NP;have a9:i<d.pend.length:=by omega
   have M:=Nw (ks:=ks) d.pend 0 i a9;have a7:=EM (ks:=ks) (d.pend.take i) 0;rw[ao]at a7;rw[az]at M;refine yes (by omega) (eA.pw (fun d3 c6=>Zo (ZK a8 c6) c3) ⟨_,rfl,rfl,fun a4=>?_,fun a4=>?_⟩)
   ·rw[if_pos (of_decide_eq_true a4)]at M
    obtain⟨Q,qs,rfl,k1,d0,d1⟩:=Fg a2 a9;have c9:∃t fz,(Q,bu ⟨qs⟩ t fz)∈O:=by
     obtain⟨t,fz,k1⟩:=k1;exact⟨t,fz,hp.mem_iff.2 (ak _ k1)⟩
    refine⟨Q,0,rfl,by omega,qs,(d.pend[i].1:Int),d.pend[i].2,Ey c9,⟨d0,d1⟩,fun B2=>?_⟩;refine(r1.push (T:=120) (m:=1) (news:=[.int .i64 (d.pend[i].1:Int),.string d.pend[i].2]) (bytes:=24) (z:=.agg #[.int .i64 0,.string ⟨#[]⟩]) (by kernel_rfl) (by kernel_rfl) rfl (by omega) rfl ⟨by omega,by omega⟩ (Yy hp)).nd ?_;rintro _ d2 ⟨p',c',b1,rfl,g1,a3⟩;refine⟨_,YP g1,p',c',_,rfl,rfl,?_⟩;rintro _ rfl;rw[kS (by omega),show(i:Int)+1=((i+1:Nat):Int)by omega];have c5:(kept ks 0 (d.pend.take (i+1))).length=(kept ks 0 (d.pend.take i)).length+1:=by rw[M];simp
    have qp:mm (kept ks 0 (d.pend.take (i+1)))=mm (kept ks 0 (d.pend.take i))++[.int .i64 (d.pend[i].1:Int),.string d.pend[i].2]:=by rw[M,D6];simp[mm]
    rw[←c5]at a3 ⊢;rw[←qp]at a3;exact ih (i+1) p' c' b1 _ _ (by omega) a3 (a2.more [_]) (ah _)
   ·rw[if_neg (of_decide_eq_false a4)]at M
    rintro _ rfl;rw[kS (by omega),show(i:Int)+1=((i+1:Nat):Int)by omega];have:=ih (i+1) lp lc N V O (by omega) (by rw[M];exact r1) a2 hp;rw[M]at this;exact this
 exact go d.pend.length 0 none 0 [] G G (by omega) mb.nil b7 (ah _)
end om
structure sW where
 call:Int
 f:dF
 num:Int
 lH:List Int
theorem U8 (b:UInt8)(r:List UInt8):(tH (ba (b::r))).size=r.length:=by rw[←lB,AZ]
theorem O8 (b:UInt8)(r:List UInt8):(tO (ba (b::r))).size=1:=by rw[←lB,Bm];rfl
theorem Fq {off n:Nat}{r:List UInt8}(h:off+(r.length+1)≤n):∀o∈l8 (off:Int) (ba (1::r)),o.fits n:=by
 intro o M;simp only[l8,bT,bG,or_false]at M;rcases M with rfl|rfl|rfl|rfl
 ·show 0≤(off:Int)+1∧(off:Int)+1+((tH (ba (1::r))).size:Int)≤n
  rw[U8];omega
 ·trivial
 ·show 0≤(off:Int)∧(off:Int)+((tO (ba (1::r))).size:Int)≤n
  rw[O8];omega
 ·trivial
theorem Vm (fs:List dF)(f:dF):flat (fs++[f])=flat fs++lJ f:=by simp
theorem Bj (g:Int)(fs:List dF)(f:dF):cont g (fs++[f])=cont g fs++lJ f:=by rw[cont,Vm,←an]
inductive zS (R:List UInt8)(m:JM)(d:DS)(f:dF):Int×JM×DS→Prop
 |no (e:Int) (he:(e=240∧(f.ok=false∨f.n≠((m.fs.length+1:Nat):Int)))∨(e=241∧f.ok=true∧f.n=((m.fs.length+1:Nat):Int)∧m.sz-m.en<(lJ f).length)):zS R m d f (e,m,d)
 |yes (d':DS) (hf:f.ok=true) (hn:f.n=((m.fs.length+1:Nat):Int)) (h:Clean R {m with fs:=m.fs++[f],en:=m.en+(lJ f).length} d') (hl:d'.vis.length=d.vis.length) (hc:d.cut=0→d'.cut=0):zS R m d f (0,{m with fs:=m.fs++[f],en:=m.en+(lJ f).length},d')
 |pow (d':DS) (hf:f.ok=true) (hc:d.cut≠0) (h:IF m.sz R d.vis.length d' fun g fs=>g=m.gen∧(fs=m.fs∨fs=m.fs++[f])):zS R m d f (231,{m with br:=true},d')
theorem HQ {R:List UInt8}{m:JM}{d:DS}(h:Clean R m d)(f:dF):zS R m d f (mw m d f):=by
 have b5:=h.len;have b4:=h.fit;have V:=h.cu;rw[mw,if_neg (by rw[h.br];decide)]
 by_cases hok:f.ok=true
 ·rw [if_neg (by rw[hok];decide)]
  by_cases hn:f.n=((m.fs.length+1:Nat):Int)
  ·rw [if_neg (by simpa using hn)]
   by_cases hr:m.sz-m.en<(lJ f).length
   ·rw[if_pos hr];exact .no 241 (.inr ⟨rfl,hok,hn,hr⟩)
   ·rw[if_neg hr]
    obtain⟨r',O⟩:=Lh f;have b3:(lJ f).length=r'.length+1:=by rw[O];rfl
    have hcs:m.cu*m.sz≤1*m.sz:=bI _ V;have hH:∀X o (s:List UInt8),X.length=m.sz→o+s.length≤m.sz→lu ((fun X=>lay m.cu X (zs m.sz) R) X) (m.cu*m.sz+o) s=(fun X=>lay m.cu X (zs m.sz) R) (lu X o s):=fun X o s a8 a9=>Bt V a8 (nC _) a9
    have a6:(cont m.gen m.fs).length+(m.sz-m.en)=m.sz:=by have:=h.en;omega
    have a7:m.cu*m.sz+m.en=m.cu*m.sz+(cont m.gen m.fs).length:=by rw[←h.en]
    have b1:l8 ((m.cu*m.sz+m.en:Nat):Int) (ba (lJ f))=[.write (((m.cu*m.sz+m.en:Nat):Int)+1) (tH (ba (lJ f))),.sync,.write ((m.cu*m.sz+m.en:Nat):Int) (tO (ba (lJ f)))]++[.sync]:=rfl;have a4:∀o∈l8 ((m.cu*m.sz+m.en:Nat):Int) (ba (lJ f)),o.fits d.vis.length:=by rw[O];exact Fq (by omega)
    have a2:Gn m.gen (m.fs++[f]):=⟨h.gn.one,h.gn.ok,h.gn.numb.snoc hok (by rw[hn];congr 1;omega)⟩;have a3:qD (l8 ((m.cu*m.sz+m.en:Nat):Int) (ba (lJ f))) d.vis []=(lay m.cu (cont m.gen m.fs++lJ f++zs (m.sz-m.en-(r'.length+1))) (zs m.sz) R,[]):=by
     have:=FT hH (A:=cont m.gen m.fs) (r':=r') (k:=m.sz-m.en) (off:=m.cu*m.sz+m.en) (more:=[]) a7 a6 (by omega);rw[aL,←O,←h.vis]at this;exact this
    have a5:∀x,pJ (l8 ((m.cu*m.sz+m.en:Nat):Int) (ba (lJ f))) d.vis [] x→∃g fs,(g=m.gen∧(fs=m.fs∨fs=m.fs++[f]))∧Good m.sz R g fs x:=by
     intro x a1;rw[h.vis,O]at a1;have:=MJ hH (A:=cont m.gen m.fs) (r':=r') (k:=m.sz-m.en) (off:=m.cu*m.sz+m.en) (more:=[]) a7 a6 (by omega) (x:=x) (by rw[aL];exact a1);rcases this with⟨q,q1,q2,q3⟩|hx2
     ·exact⟨_,_,⟨rfl,.inl rfl⟩,h.gn,m.cu,V,q,zs m.sz,q3,by omega,nC _,q1,.inl (tg _)⟩
     ·have M:=o6.none hx2
      refine⟨_,_,⟨rfl,.inr rfl⟩,a2,m.cu,V,zs (m.sz-m.en-(r'.length+1)),zs m.sz,?_,?_,nC _,tg _,.inl (tg _)⟩
      ·rw[M,Bj,O]
      ·rw[Bj,ae,nC];omega
    rw[b1]at a4 a3 a5 ⊢;rcases JR h a4 a3 with⟨e1,M,e3,e4,e5,e6,e7,e8⟩|⟨e1,M,e3,e4,e5⟩
    ·rw[if_pos e1]
     refine .yes _ hok hn ⟨M,e3,e4,e5,?_,h.rest,by rw[e7];exact h.big,?_,by show m.en+(lJ f).length≤m.sz;omega,V,a2,h.br⟩ e7 e8
     ·rw[e6]
      show _=lay m.cu (cont m.gen (m.fs++[f])++zs (m.sz-(m.en+(lJ f).length))) (zs m.sz) R;rw[Bj,b3,Nat.sub_sub]
     ·show m.en+(lJ f).length=(cont m.gen (m.fs++[f])).length
      rw[Bj,ae,h.en]
    ·rw[if_neg (by rw[e1];decide),e1]
     exact .pow _ hok e5 ⟨M,e3,fun x a1=>a5 x (e4 x a1)⟩
  ·rw[if_pos hn];exact .no 240 (.inl ⟨rfl,.inr hn⟩)
 ·rw[if_pos (by simpa using hok)];exact .no 240 (.inl ⟨rfl,.inl (by simpa using hok)⟩)
abbrev Nf (m:JM):JM:={gen:=m.gen+1,fs:=l5 m.fs,en:=(cont (m.gen+1) (l5 m.fs)).length,sz:=m.sz,cu:=1-m.cu,br:=m.br}
inductive Bd (R:List UInt8)(m:JM)(d:DS):Int×JM×DS→Prop
 |no (he:4611686018427387903≤m.gen∨m.sz<(cont (m.gen+1) (l5 m.fs)).length):Bd R m d (241,m,d)
 |yes (d':DS) (h:Clean R (Nf m) d') (hl:d'.vis.length=d.vis.length) (hc:d.cut=0→d'.cut=0):Bd R m d (0,Nf m,d')
 |pow (d':DS) (hc:d.cut≠0) (h:IF m.sz R d.vis.length d' fun g fs=>(g=m.gen∧fs=m.fs)∨(g=m.gen+1∧fs=l5 m.fs)):Bd R m d (231,{m with br:=true},d')
theorem S9 {R:List UInt8}{m:JM}{d:DS}(h:Clean R m d):Bd R m d (nz m d):=by
 have c8:=h.len;have c5:=h.fit;have M:=h.cu;have c7:=h.gn.ok;have c6:=h.gn.one;rw[nz,if_neg (by rw[h.br];decide)]
 by_cases hg:4611686018427387903≤m.gen
 ·rw[if_pos hg];exact .no (.inl hg)
 ·rw [if_neg hg]
  by_cases hbig:m.sz<(cont (m.gen+1) (l5 m.fs)).length
  ·rw[if_pos hbig];exact .no (.inr hbig)
  ·rw [if_neg hbig]
   obtain⟨r',V⟩:∃r',cont (m.gen+1) (l5 m.fs)=1::r':=⟨_,by rw[cont,lA,mD];rfl⟩;have c2:(cont (m.gen+1) (l5 m.fs)).length=r'.length+1:=by rw[V];rfl
   have a5:Gn (m.gen+1) (l5 m.fs):=⟨by omega,by omega,h.gn.numb.red⟩;have hcs:(1-m.cu)*m.sz≤1*m.sz:=bI _ (by omega);have c4:m.cu*m.sz≤1*m.sz:=bI _ M;have a1:(cont m.gen m.fs++zs (m.sz-m.en)).length=m.sz:=by rw[ae,nC,←h.en];omega
   have hH:∀X o (s:List UInt8),X.length=m.sz→o+s.length≤m.sz→lu ((fun Y=>lay m.cu (cont m.gen m.fs++zs (m.sz-m.en)) Y R) X) ((1-m.cu)*m.sz+o) s=(fun Y=>lay m.cu (cont m.gen m.fs++zs (m.sz-m.en)) Y R) (lu X o s):=fun X o s b1 b4=>HG M a1 b1 b4
   have a3:nF m=l8 (((1-m.cu)*m.sz:Nat):Int) (ba (1::r'))++[.write ((m.cu*m.sz:Nat):Int) (ba (zs m.sz)),.sync]:=by rw[nF,V];rfl
   have b7:nF m=[.write (((1-m.cu)*m.sz:Nat)+1:Int) (tH (ba (cont (m.gen+1) (l5 m.fs)))),.sync,.write (((1-m.cu)*m.sz:Nat):Int) (tO (ba (cont (m.gen+1) (l5 m.fs)))),.sync,.write ((m.cu*m.sz:Nat):Int) (ba (zs m.sz))]++[.sync]:=rfl;have c3:(ba (zs m.sz)).size=m.sz:=by rw[lY (zs m.sz),nC]
   have a8:∀o∈nF m,o.fits d.vis.length:=by
    rw[a3];intro o O;rcases cn.1 O with O|O
    ·exact Fq (by omega) o O
    ·simp only[bT,bG,or_false]at O
     rcases O with rfl|rfl
     ·show 0≤((m.cu*m.sz:Nat):Int)∧((m.cu*m.sz:Nat):Int)+((ba (zs m.sz)).size:Int)≤_
      rw[c3];omega
     ·trivial
   have a4:=FT hH (A:=[]) (r':=r') (k:=m.sz) (off:=(1-m.cu)*m.sz) (more:=[.write ((m.cu*m.sz:Nat):Int) (ba (zs m.sz)),.sync]) (by simp) (by simp) (by omega);simp only[aT]at a4;rw[←V,←h.vis]at a4;have b3:1-(1-m.cu)=m.cu:=by omega
   have a6:bb (ba (zs m.sz))=zs m.sz:=mA _;have b5:(cont (m.gen+1) (l5 m.fs)++zs (m.sz-(r'.length+1))).length=m.sz:=by rw[ae,nC];omega
   have b6:lu (lay m.cu (cont m.gen m.fs++zs (m.sz-m.en)) (cont (m.gen+1) (l5 m.fs)++zs (m.sz-(r'.length+1))) R) (m.cu*m.sz) (zs m.sz)=lay (1-m.cu) (cont (m.gen+1) (l5 m.fs)++zs (m.sz-(r'.length+1))) (zs m.sz) R:=by
    have:=Bt (c:=m.cu) (sz:=m.sz) (o:=0) (X:=cont m.gen m.fs++zs (m.sz-m.en)) (Y:=cont (m.gen+1) (l5 m.fs)++zs (m.sz-(r'.length+1))) (R:=R) (s:=zs m.sz) M a1 b5 (by rw[nC];omega);exact this.trans (by rw[Tc a1,Nl M])
   have a7:qD (nF m) d.vis []=(lay (1-m.cu) (cont (m.gen+1) (l5 m.fs)++zs (m.sz-(r'.length+1))) (zs m.sz) R,[]):=by
    rw[a3,←V,a4];simp only[qD,oU,aT,ai,a6,b6]
   have a9:∀x,pJ (nF m) d.vis [] x→∃g fs,((g=m.gen∧fs=m.fs)∨(g=m.gen+1∧fs=l5 m.fs))∧Good m.sz R g fs x:=by
    intro x a2;rw[h.vis,a3]at a2;have:=MJ hH (A:=[]) (r':=r') (k:=m.sz) (off:=(1-m.cu)*m.sz) (more:=[.write ((m.cu*m.sz:Nat):Int) (ba (zs m.sz)),.sync]) (by simp) (by simp) (by omega) (x:=x) (by simpa using a2);rcases this with⟨q,q1,q2,q3⟩|hx2
    ·exact⟨_,_,.inl ⟨rfl,rfl⟩,h.gn,m.cu,M,zs (m.sz-m.en),q,q3,by rw[nC,←h.en];omega,q2,tg _,.inl q1⟩
    ·refine⟨_,_,.inr ⟨rfl,rfl⟩,a5,1-m.cu,by omega,?_⟩
     rw[aT,←V]at hx2;refine Gk (Qp (c:=1-m.cu) (sz:=m.sz) (R:=R) (g:=m.gen+1) (fs:=l5 m.fs) (by omega)) hx2 (fun o s hm=>?_) ?_ (fun q b9=>by cases b9)
     ·simp only[bT,bG,or_false,lC.write.injEq,reduceCtorEq]at hm
      obtain⟨rfl,rfl⟩:=hm;exact .inl ⟨by rw[b3];rfl,m.sz,aD _,a6⟩
     ·refine⟨zs (m.sz-(r'.length+1)),cont m.gen m.fs++zs (m.sz-m.en),by rw[Nl M],by rw[nC];omega,a1,tg _,.inr ⟨m.fs,zs (m.sz-m.en),?_,?_,tg _⟩⟩
      ·rw[show m.gen+1-1=m.gen by omega];exact h.gn
      ·rw[show m.gen+1-1=m.gen by omega]
   rw[b7]at a8 a7 a9 ⊢;rcases JR h a8 a7 with⟨e1,e2,e3,e4,e5,e6,e7,e8⟩|⟨e1,e2,e3,e4,e5⟩
   ·rw[if_pos e1]
    refine .yes _ ⟨e2,e3,e4,e5,?_,h.rest,by rw[e7];exact h.big,rfl,by show(cont (m.gen+1) (l5 m.fs)).length≤m.sz;omega,by show 1-m.cu≤1;omega,a5,h.br⟩ e7 e8;rw[e6];show _=lay (1-m.cu) (cont (m.gen+1) (l5 m.fs)++zs (m.sz-(cont (m.gen+1) (l5 m.fs)).length)) (zs m.sz) R;rw[c2]
   ·rw[if_neg (by rw[e1];decide),e1]
    exact .pow _ e5 ⟨e2,e3,fun x a2=>a9 x (e4 x a2)⟩
theorem Fl (k sz fr n:Nat):mr k sz fr (zs n)=[]:=by
 unfold mr;rw[if_pos];rw[Nk,ij];intro b M;simp[iA M]
theorem Hm {c:Nat}{X Y R:List UInt8}{d:DS}{sz:Nat}(hc:c≤1)(a1:d.vis=lay c X Y R)(M:X.length=sz)(O:Y.length=sz)(a4:R.length≤1):d.vis.length/2=sz∧ng d=(if c=0 then X else Y)∧na d=(if c=0 then Y else X):=by
 have V:d.vis.length/2=sz:=by rw[a1,Ma];omega
 have key:∀A B:List UInt8,A.length=sz→B.length=sz→(A++B++R).take sz=A∧((A++B++R).drop sz).take sz=B:=by
  intro A B a2 a3;rw[an,←a2,gN,fB,a2,←a3,gN];exact⟨rfl,rfl⟩
 refine⟨V,?_,?_⟩
 ·rw[ng,V,a1];unfold lay;split
  ·exact(key X Y M O).1
  ·exact(key Y X O M).1
 ·rw[na,V,a1];unfold lay;split
  ·exact(key X Y M O).2
  ·exact(key Y X O M).2
theorem Wn {g:Int}{Y:List UInt8}(h:EJ g Y):∃M O e',mf Y=some (M,O,e')∧(M=0∨(M=g-1∧1≤M)):=by
 rcases h with h|⟨O,t,h1,h2,h3⟩
 ·exact⟨0,[],0,G8 h,.inl rfl⟩
 ·exact⟨g-1,O,_,by rw[h2];exact Iw h1.lU h1.one h1.numb h3,.inr ⟨rfl,h1.one⟩⟩
theorem Yw {c sz:Nat}{R:List UInt8}{g:Int}{fs:List dF}{t Y:List UInt8}{d:DS}(hc:c≤1)(b3:d.vis=lay c (cont g fs++t) Y R)(b4:(cont g fs).length+t.length=sz)(b5:Y.length=sz)(b1:Ends t)(a7:EJ g Y)(M:Gn g fs)(a5:R.length≤1)(b7:64≤d.vis.length)(a8:d.on=true):
  mn d=nL (ng d) (na d) ⟨g,fs,(cont g fs).length,sz,c,false⟩ d∧p9 (ng d) (na d) ⟨g,fs,(cont g fs).length,sz,c,false⟩=nu (mr (1-c) sz 0 Y++mr c sz (cont g fs).length (cont g fs++t)):=by
 have a6:(cont g fs++t).length=sz:=by rw[ae];exact b4
 obtain⟨a9,e0,e1⟩:=Hm hc b3 a6 b5 a5;have a4:=Iw M.lU M.one M.numb b1;obtain⟨a2,a1,e',a3,b6⟩:=Wn a7;have b9:=M.one;have O:¬g=0:=by omega
 rw[mn,if_neg (by omega),if_neg (by rw[a8];decide),a9];rcases(by omega:c=0∨c=1)with rfl|rfl
 ·rw[if_pos rfl]at e0 e1
  rw[e0,e1,a4,a3];refine⟨?_,?_⟩
  ·simp only
   rw[if_neg (fun h=>by omega)];have V:pQ sz (g,fs,(cont g fs).length) (a2,a1,e')=⟨g,fs,(cont g fs).length,sz,0,false⟩:=if_neg (by simp only;omega);rw[V]
  ·rw[p9,if_neg O,px]
   simp only[if_pos];rw[if_neg O]
 ·rw[if_neg (by decide)]at e0 e1
  rw[e0,e1,a4,a3];refine⟨?_,?_⟩
  ·simp only
   rw[if_neg (fun h=>by omega)];have V:pQ sz (a2,a1,e') (g,fs,(cont g fs).length)=⟨g,fs,(cont g fs).length,sz,1,false⟩:=if_pos (by simp only;omega);rw[V]
  ·rw[p9,if_neg O,px]
   simp only;rw[if_neg (by decide)]
theorem SU:nu []=[]:=rfl
theorem Qc (k sz:Nat)(A:List UInt8)(n:Nat):mr k sz A.length (A++zs n)=[]:=by
 unfold mr;rw[if_pos];rw[fB,ij];intro b M;simp[iA M]
theorem T3 {R:List UInt8}{m:JM}{d:DS}(h:Clean R m d):mn d=(0,some m,d):=by
 have a2:=h.fit;have a1:=h.en;obtain⟨e1,M⟩:=Yw (sz:=m.sz) h.cu h.vis (by rw[nC];omega) (nC _) (tg _) (.inl (tg _)) h.gn h.rest h.big h.on;rw[Fl,Qc,aL,SU]at M;rw[e1,nL,M];have V:ln [] d=(0,d):=rfl;rw[V,if_pos rfl];have O:wj ⟨m.gen,m.fs,(cont m.gen m.fs).length,m.sz,m.cu,false⟩=m:=by
  rw[wj,if_neg (by have:=h.gn.one;show¬m.gen=0;omega),←h.en,←h.br]
 rw[O]
theorem Qv {d:DS}(b4:mj d)(a3:d.on=true)(hc:d.cut=0)(hp:d.pend=[])(a1:d.dur=d.vis)(b7:d.vis=zs d.vis.length)(a8:64≤d.vis.length):
  ∃d',mn d=(0,some ⟨1,[],(lA 1).length,d.vis.length/2,0,false⟩,d')∧Clean (zs (d.vis.length%2)) ⟨1,[],(lA 1).length,d.vis.length/2,0,false⟩ d'∧d'.cut=0∧d'.vis.length=d.vis.length:=by
 have b6:d.vis.length/2+d.vis.length/2+d.vis.length%2=d.vis.length:=by omega
 generalize hn:d.vis.length/2=sz at*;generalize hr:d.vis.length%2=r at*;have a4:r≤1:=by omega
 have a2:d.vis=lay 0 (zs sz) (zs sz) (zs r):=by
  rw[b7];unfold lay;rw[if_pos rfl,MX,MX,b6]
 obtain⟨a7,e0,e1⟩:=Hm (c:=0) (by omega) a2 (nC _) (nC _) (by rw[nC];exact a4);rw[if_pos rfl]at e0 e1;have c5:=tz 1;have b3:mf (zs sz)=some (0,[],0):=G8 (tg _);obtain⟨r',O⟩:∃r',lA 1=1::r':=⟨_,by rw[lA,mD]⟩;have b5:(lA 1).length=r'.length+1:=by rw[O];rfl
 have a5:mn d=nL (zs sz) (zs sz) ⟨0,[],0,sz,0,false⟩ d:=by
  rw[mn,if_neg (by omega),if_neg (by rw[a3];decide),e0,e1,b3];simp only;rw[if_neg (by decide),a7];rfl
 have a6:p9 (zs sz) (zs sz) ⟨0,[],0,sz,0,false⟩=l8 0 (ba (lA 1)):=by
  rw[p9,if_pos rfl,px,if_pos rfl,if_pos rfl,Fl,Fl];rfl
 have b1:∀o∈l8 0 (ba (lA 1)),o.fits d.vis.length:=by
  rw[O];exact Fq (off:=0) (by omega)
 have ro:=Am (l8 0 (ba (lA 1))) d ⟨b4,by rw[hp,a1];rfl⟩ b1;obtain⟨p1,b9,c2⟩:=ro.pow a3 hc;have hH:∀X o (s:List UInt8),X.length=sz→o+s.length≤sz→lu ((fun X=>lay 0 X (zs sz) (zs r)) X) (0*sz+o) s=(fun X=>lay 0 X (zs sz) (zs r)) (lu X o s):=fun X o s c3 c4=>Bt (by omega) c3 (nC _) c4
 have a9:qD (l8 0 (ba (lA 1))) d.vis []=(lay 0 (lA 1++zs (sz-(lA 1).length)) (zs sz) (zs r),[]):=by
  have:=FT hH (A:=[]) (r':=r') (k:=sz) (off:=0) (more:=[]) (by simp) (by simp) (by omega);simp only[aT,aL]at this;rw[←O,←a2,←b5]at this;exact this
 have M:=ro.fin p1;rw[hp,a1,a9]at M;simp only[Prod.mk.injEq]at M;have V:=ro.sR.vis;rw[M.2]at V;refine⟨_,?_,⟨ro.sR.ok,b9,M.2,V.symm,?_,by rw[nC];exact a4,by rw[ro.len];exact a8,?_,by show(lA 1).length≤sz;omega,by show 0≤1;omega,⟨by show(1:Int)≤1;omega,by show(1:Int)≤_;omega,trivial⟩,rfl⟩,c2,ro.len⟩
 ·rw[a5,nL,a6,if_pos p1];rfl
 ·have:=V.trans M.1
  rw[this];show _=lay 0 (cont 1 []++zs (sz-(lA 1).length)) (zs sz) (zs r);have:cont 1 []=lA 1:=aL _;rw[this]
 ·show(lA 1).length=(cont 1 []).length
  have:cont 1 []=lA 1:=aL _;rw[this]
theorem Wt (a:Nat)(b:aX)(hm:Mem (b) S w0 W)(H:VP S w0 R (.cl 8 42 [PP a] (b)<|.x2 fun r1 (c:aX)=>.rt (IV r1) (c)<|.cl 0 43 [PP a,IV 0,IV r1] (c)<|.x3 fun r21 r31 (d:aX)=>.rt (kBcq r21 r31) (d)<|.re 11 (.string r21) (d))):aE TP 21 ⟨[PP a]⟩ W R:=VC.cs Tryz.func21 hm _ H
theorem JD.perm {JB D:Nat}{m:JM}{d:DS}{L L':aX}(h:JD JB D m d L)(hp:L'.Perm L):JD JB D m d L':=by
 obtain⟨F,p,c,T,M,O,V⟩:=h;exact⟨F,p,c,T,hp.trans M,O,V⟩
theorem TF {x:Nat×Obj}{X L F T:aX}(h:L.Perm (x::(F++T))):(X++L).Perm (x::(F++(X++T))):=lR fun c w M O V a1=>by
 have:=a1 _ _ h;simp only[M,O,V]at this ⊢;omega
theorem JD.more {JB D:Nat}{m:JM}{d:DS}{L:aX}(h:JD JB D m d L)(X:aX):JD JB D m d (X++L):=by
 obtain⟨F,p,c,T,M,O,V⟩:=h;exact⟨F,p,c,X++T,TF M,O,V.more X⟩
def DM (D:Nat)(d:DS)(L:aX):Prop:=∃F T,L.Perm (F++T)∧mV D d F
theorem UL {X L F T:aX}(h:L.Perm (F++T)):(X++L).Perm (F++(X++T)):=lR fun c w M O V a1=>by
 have:=a1 _ _ h;simp only[M,O,V]at this ⊢;omega
theorem DM.more {D:Nat}{d:DS}{L:aX}(h:DM D d L)(X:aX):DM D d (X++L):=by
 obtain⟨F,T,M,O⟩:=h;exact⟨F,X++T,UL M,O⟩
theorem Se {x:Nat×Obj}{F T:aX}:(x::(F++T)).Perm (F++x::T):=cI.symm
theorem JD.dm {JB D:Nat}{m:JM}{d:DS}{L:aX}(h:JD JB D m d L):DM D d L:=by
 obtain⟨F,p,c,T,M,O,V⟩:=h;exact⟨F,_,M.trans Se,O⟩
theorem US {x:Nat×Obj}{N L F T:aX}(h:L.Perm (x::(F++T))):(N++L).Perm (F++(N++x::T)):=lR fun c w M O V a1=>by
 have:=a1 _ _ h;simp only[M,O,V]at this ⊢;omega
theorem T8 {x:Nat×Obj}{X N F T:aX}:(F++(X++(N++x::T))).Perm (x::(F++((X++N)++T))):=perm_a
theorem JD.re {JB D:Nat}{m:JM}{d':DS}{F' X N T:aX}{p:OA}{c:Nat}(h:mV D d' F')(M:lj mI m.fs p c T):JD JB D m d' (F'++(X++(N++jH JB D (m.js p c)::T))):=
 ⟨F',p,c,(X++N)++T,T8,h,M.more _⟩
theorem lj.within {fs:List dF}{p:OA}{c:Nat}{N L:aX}(h:lj mI fs p c N)(O:∀x∈N,x∈L):pP (l7 L) p fs:=h.zX.mono fun b c M=>mR O b c (vq b c M)
theorem W5 {told F:aX}{w0 W:aj}(hm:Mem (told++F) [] w0 W)(M:lG w0 0=some mH):xL (kY w0) (F.map (·.1)) W:=
 ⟨tQ hm 0 mH (.inr M),fun b c h=>tQ hm b c (.inr h)⟩
section calls
variable {w0:World}{JB D:Nat}{m:JM}{d:DS}{F N L:aX}{K:Value→aX→Prop}(told:aX)
theorem By {told F N L:aX}(h:F.Perm (N++L)):(L++(told++N)).Perm (told++F):=lR fun c w M O V a1=>by
 have:=a1 _ _ h;simp only[M,O,V]at this ⊢;omega
theorem Mb {told N L:aX}:(L++(told++N)).Perm (told++(N++L)):=By (ah _)
theorem JU {W:aj}(M:F.Perm (N++L))(hm:Mem (told++F) [] w0 W)(O:lG w0 0=some mH):xL (kY w0) (L.map (·.1)) W:=by
 have:Mem ((told++N)++L) [] w0 W:=hm.perm (by rw[an];exact(M.append_left told).symm);exact W5 this O
theorem eA.app {f:dF}{tp bp ap:OA}{tc bc ac:Nat}(M:F.Perm (N++L))(h:JD JB D m d L)(hm:nQ m)(hp:d.pend.length<900000)(a1:lG w0 0=some mH)(V:lv (kY w0) f tp tc bp bc ap ac)
  (O:∀L',JD JB D (mw m d f).2.1 (mw m d f).2.2 L'→K (.int .i64 (mw m d f).1) (told++(N++L'))):
  eA TP 16 ⟨[pt JB 0,.agg ⟨f.cells tp tc bp bc ap ac⟩]⟩ (told++F) [] w0 K:=
 eA.nX (L1:=told++N) (Hf h hm hp V) (fun W a2=>JU told M a2 a1) (By M) fun v L' ⟨e,hj⟩=>⟨_,Mb,e▸O L' hj⟩
theorem eA.Yz (M:F.Perm (N++L))(h:JD JB D m d L)(hm:nQ m)(hp:d.pend.length<900000)(V:lG w0 0=some mH)
  (O:∀L',JD JB D (nz m d).2.1 (nz m d).2.2 L'→K (.int .i64 (nz m d).1) (told++(N++L'))):
  eA TP 25 ⟨[pt JB 0]⟩ (told++F) [] w0 K:=
 eA.nX (L1:=told++N) (Ks h hm hp) (fun W a1=>⟨(JU told M a1 V).1,fun b c h=>h.elim⟩) (By M) fun v L' ⟨e,hj⟩=>⟨_,Mb,e▸O L' hj⟩
theorem Tl {x:Nat×Obj}{told F F0 T:aX}(h:F.Perm (x::(F0++T))):((x::T)++(told++F0)).Perm (told++F):=lR fun c w M O V a1=>by
 have:=a1 _ _ h;simp only[M,O,V,aY]at this ⊢;omega
theorem P5 {x:Nat×Obj}{told F F0 T N X:aX}(h:F.Perm (x::(F0++T)))(V:X.Perm (N++(x::T))):(X++(told++F0)).Perm (told++(N++F)):=lR fun c w O a1 a2 M=>by
 have:=M _ _ h;have:=M _ _ V;simp only[O,a1,a2,aY]at*;omega
theorem eA.facts (h:JD JB D m d F)(hm:nQ m)
  (V:∀p c N,lj mI m.fs p c N→K (.slice p m.fs.length c) (told++(N++F))):
  eA TP 15 ⟨[pt JB 0]⟩ (told++F) [] w0 K:=by
 obtain⟨F0,p,c,T,M,a3,O⟩:=h;have a4:=hm.len;refine eA.lF (L0:=jH JB D (m.js p c)::T) (L1:=told++F0) (NZ ⟨p,c,T,rfl,O⟩ (fun f a1=>BU (hm.ok f a1)) (by omega)) (Tl M) ?_;rintro v L' ⟨p',c',N,rfl,hp,a2⟩;exact⟨_,P5 M hp,V p' c' N a2⟩
theorem JD.here {W:aj}{S:List Nat}(h:JD JB D m d F)(hm:Mem (told++F) S w0 W):∃p c,W.heap[JB]?=some (jH JB D (m.js p c)).2:=by
 obtain⟨F0,p,c,T,M,O,V⟩:=h;exact⟨p,c,hm.here (jH JB D (m.js p c)) (ak _ (M.mem_iff.2 au))⟩
theorem eA.gen (h:JD JB D m d F)(M:K (.int .i64 m.gen) (told++F)):eA TP 26 ⟨[pt JB 0]⟩ (told++F) [] w0 K:=
 eA.pw (fun W V=>by
  obtain⟨p,c,O⟩:=h.here told V;exact GV O) M
def Vz (D:Nat)(r:Int×Option JM×DS)(v:aa)(L':aX):Prop:=
 match r with
 |(e,none,d')=>v=.tuple #[.pointer none,.int .i64 e]
 |(e,some m,d')=>∃JB,v=.tuple #[pt JB 0,.int .i64 0]∧JD JB D m d' L'
theorem eA.xi {Fd T:aX}(a4:F.Perm (Fd++T))(h:mV D d Fd)(hp:d.pend.length<900000)(a7:lG w0 0=some mH)
  (a5:∀v F' X,mV D (mn d).2.2 F'→Vz D (mn d) v (F'++(X++T))→K v (told++(F'++(X++T)))):
  eA TP 13 ⟨[pt D 0]⟩ (told++F) [] w0 K:=by
 refine eA.nX (L0:=Fd) (L1:=told++T) (HO h hp) (fun W a8=>?_) (By (N:=T) (a4.trans aw)) ?_
 ·have:Mem ((told++T)++Fd) [] w0 W:=a8.perm (by rw[an];exact((a4.trans aw).append_left told).symm)
  exact tQ this 0 mH (.inr a7)
 ·intro v L' a6
  generalize mn d=r at*;obtain⟨e,o,d'⟩:=r;cases o with
  | none=>
   obtain⟨rfl,F',X,k1,a2⟩:=a6;refine⟨_,?_,a5 _ F' X a2 rfl⟩;exact lR fun c w M O V a1=>by
    have:=a1 _ _ k1;simp only[M,O,V]at this ⊢;omega
  |some m=>
   obtain⟨JB,rfl,F',p,c,a3,k1,a2,a9⟩:=a6;refine⟨_,?_,a5 _ F' (jH JB D (m.js p c)::a3) a2 ⟨JB,rfl,F',p,c,a3++T,?_,a2,(a9.more T).perm aw⟩⟩
   ·exact lR fun c w M O V a1=>by
     have:=a1 _ _ k1;simp only[M,O,V,aY]at this ⊢;omega
   ·exact lR fun c w M O V a1=>by
     simp only[M,O,V,aY];omega
end calls
theorem Uq {D:Nat}{d:DS}{Fd:aX}(h:mV D d Fd)(a2:d.on=true):lP TP 21 ⟨[pt D 0]⟩ Fd (rT D (.string ⟨d.vis.toArray⟩) d):=by
 intro W hm;have a3:=h.1.le;refine Wt D Fd hm (eA.dT [] (A6 h) fun M V=>⟨_,M,rfl,rfl,eA.dT [] (FQ V (by omega)) fun O a1=>⟨_,_,O,rfl,rfl,?_⟩⟩);have e:(d.read 0 (d.vis.length:Int)).1=⟨d.vis.toArray⟩:=by
  rw[DS.read,if_neg (by rw[a2];decide),if_pos ⟨jL _,by omega,by omega⟩];simp
 rw[e];exact kR ⟨rfl,a1⟩
def za (lk:Lk)(cs:List aa)(x:sW):Prop:=i64 x.call∧∃tp tc bp bc ap ac kp kc,cs=.int .i64 x.call::(x.f.cells tp tc bp bc ap ac++[.int .i64 x.num,.slice kp x.lH.length kc])∧xT lk x.f tp tc bp bc ap ac∧lX lk kp x.lH∧x.lH.length≤9223372036854775807∧i64 x.num
theorem OT {c:List aa}{o:Nat}{f:dF}{tp bp ap:OA}{tc bc ac:Nat}(h:(c.drop o).take 23=f.cells tp tc bp bc ap ac):c[o+2]?=some (.int .i64 f.kind)∧c[o+3]?=some (.int .i64 f.story):=by
 have M:((c.drop o).take 23)[2]?=some (.int .i64 f.kind):=by rw[h];rfl
 have O:((c.drop o).take 23)[3]?=some (.int .i64 f.story):=by rw[h];rfl
 rw[bh (by decide),cd]at M O;exact⟨M,O⟩
section perms
variable (x y:Nat×Obj)(X N F:aX)
end perms
abbrev zL2aa:Array aa:= #[IV 1,IV 0,IV 6,IV 5,sZ,IV 0,IV 0,sZ,sZ,.slice none 0 0,.slice none 0 0,IV 0,.slice none 0 0,IV 0,IV 0,IV 0,IV 0,IV 0,sZ,sZ,IV 0,IV 0,IV 0]
abbrev yL2aa (a:Nat)(b:aX):aX:=(a,.cells zL2aa 38)::b
abbrev kDgq (x0 x1):=(.tuple #[.pointer x0,IV x1]:aa)
theorem OS (g:aX)(hm:Mem (g) [] w0 W)(H:VP [] w0 R (.cl 6 11 [IV 200] (g)<|.x3 fun(d:OA) r21 (h:aX)=>.rt (kDgq d r21) (h)<|.cl 9 13 [.pointer d] (h)<|.x3 fun(b:OA) r41 (i:aX)=>.rt (kDgq b r41) (i)<|.nf 9 (.cells kAjq 38) fun B=>.ru [200,4,200]<|.cl 0 16 [.pointer b,.agg zL2aa] (yL2aa B i)<|.x2 fun t j=>.rt (IV t) (yL2aa B j)<|.ru [5,200]<|.cl 0 16 [.pointer b,.agg zL2aa] (yL2aa B j)<|.x2 fun u k=>.rt (IV u) (yL2aa B k)<|.cl 5 25 [.pointer b] (yL2aa B k)<|.x2 fun w l=>.rt (IV w) (yL2aa B l)<|.cl 5 15 [.pointer b] (yL2aa B l)<|.x4 fun y e x m=>.rt (.slice y e x) (yL2aa B m)<|.cl 5 13 [.pointer d] (yL2aa B m)<|.x3 fun(z:OA) r101 F7=>.rt (kDgq z r101) (yL2aa B F7)<|.cl 8 13 [.pointer none] (yL2aa B F7)<|.x3 fun(C:OA) r121 F8=>.rt (kDgq C r121) (yL2aa B F8)<|.hp (yL2aa B F8) fun a=>.P 11 45 (r41=0) (.P 4 49 (t=0) (.P 4 53 (u=240) (.P 4 57 (w=0) (.P 5 62 ((e:Int)=1) (.r 1<|.x2 fun f c=>.sp y f c [9,33,58,63]<|.iL f c e x 23 0 (c+((0)*23))<|.r 1<|.x2 fun A p=>.lM a f ((c+((0)*23))+3) 3 A (IV p)<|.P 3 69 (p=5) (.cl 1 26 [.pointer b] a<|.ex fun q=>.rt (IV q) a<|.P 3 74 (q=2) (.P 4 78 (r101=0) (.cl 1 15 [.pointer z] a<|.x4 fun E s D n=>.rt (.slice E s D) (yL2aa B n)<|.hp (yL2aa B n) fun o=>.P 4 84 ((s:Int)=1) (.re 5 (.bool (decide (r121=1))) o)<|.re 5 (.bool false) o)<|.re 11 (.bool false) a)<|.re 15 (.bool false) a)<|.re 20 (.bool false) a)<|.re 27 (.bool false) a)<|.re 32 (.bool false) a)<|.re 36 (.bool false) a)<|.re 40 (.bool false) a)<|.re 44 (.bool false) a)):aE TP 10 ⟨[]⟩ W R:=VC.cs Tryz.func10 hm _ H
abbrev zK8aa (a:dF)(b x2 x3:Nat)(x4 x5 c:OA):Array aa:= #[IV a.n,IV a.time,IV a.kind,IV a.story,.string a.lang,IV a.rev,IV a.base,.string a.title,.string a.author,.slice x4 a.topics.length b,.slice x5 a.blocks.length x2,IV a.lab.unt,.slice c a.lab.after.length x3,IV a.lab.appr,IV a.lab.den,IV a.editor,IV a.block,IV a.sentence,.string a.text,.string a.name,IV a.partner,IV a.cls,IV a.unt]
theorem Tz  (hm:Mem [] [] w0 W)(H:VP [] w0 R (.il 9 Tryz.func42 [.pointer none]<|.rk 15<|.re 8 (.tuple #[.pointer none,IV 1]) [])):aE TP 13 ⟨[.pointer none]⟩ W R:=VC.cs Tryz.func13 hm _ H
theorem Y4 (a:dF)(g:OA)(f:Nat)(e:OA)(d:Nat)(c:OA)(b:Nat)(hm:Mem [] [] w0 W)(H:VP [] w0 R (.np 2 (.cells (zK8aa a f d b g e c) 38) fun B=>.re 20 (IV 1) [(B,.cells (zK8aa a f d b g e c) 38)])):aE TP 16 ⟨[.pointer none,.agg (zK8aa a f d b g e c)]⟩ W R:=VC.cs Tryz.func16 hm _ H
theorem Rz  (hm:Mem [] [] w0 W)(H:VP [] w0 R (.re 22 (IV 1) [])):aE TP 25 ⟨[.pointer none]⟩ W R:=VC.cs Tryz.func25 hm _ H
theorem So:l9 TP 13 ⟨[.pointer none]⟩ (.tuple #[.pointer none,.int .i64 1]):=fun W=>Tz (Mem.start [] W) (lf rfl)
theorem WK {n:Nat}(M:64≤n)(O:n≤4194304):mj (DS.new n):=
 ⟨by simp[DS.new],by simp[DS.new];omega,by simp[DS.new];omega,by simp[DS.new],fun p hp=>by cases hp⟩
theorem Vp {n:Nat}(O:64≤n)(V:n≤4194304):∃d',mn (DS.new n)=(0,some ⟨1,[],(lA 1).length,n/2,0,false⟩,d')∧Clean (zs (n%2)) ⟨1,[],(lA 1).length,n/2,0,false⟩ d'∧d'.cut=0∧d'.vis.length=n:=by
 have M:(DS.new n).vis.length=n:=dL;have:=Qv (WK O V) rfl rfl rfl rfl (by rw[M];rfl) (by rw[M];exact O);rwa[M]at this
def n8:dF:=⟨1,0,6,5,⟨#[]⟩,0,0,⟨#[]⟩,⟨#[]⟩,[],[],mi.zero,0,0,0,⟨#[]⟩,⟨#[]⟩,0,0,0⟩
theorem SE:n8.ok=true:=by kernel_rfl
theorem Qg:(lL (mE n8)).length=5:=by kernel_rfl
theorem Oj:l5 [n8]=[nn n8]:=by kernel_rfl
theorem X5:(lL (mE (nn n8))).length=5:=by kernel_rfl
theorem Mf:lv lk n8 none 0 none 0 none 0:=qi rfl rfl rfl ⟨ny,ny,ny,ny,ny⟩
theorem TY:(lJ n8).length≤16:=by have:=AW (lL (mE n8));rw[Qg]at this;exact this
theorem V0:(lJ (nn n8)).length≤16:=by have:=AW (lL (mE (nn n8)));rw[X5]at this;exact this
theorem TB {W:aj}(a3:lG W 0=some mH):aE TP 10 ⟨[]⟩ W (fun e a7=>e=.returned (.bool true)∧Below W.heap.size W a7):=by
 obtain⟨b4,o1,c1,k1,n1⟩:=Vp (n:=200) (by decide) (by decide);have e8:=tz 1;have e9:=tz 2;have f4:=TY;have f5:=V0

 obtain⟨M,O,c2,a2,a9,a6,c5,b5⟩:∃M O,mw ⟨1,[],(lA 1).length,200/2,0,false⟩ b4 n8=(0,M,O)∧Clean (zs (200%2)) M O∧O.cut=0∧M.fs=[n8]∧M.sz=100∧M.gen=1:=by
  have V:=HQ c1 n8;generalize hr:mw ⟨1,[],(lA 1).length,200/2,0,false⟩ b4 n8=r at V;cases V with
  |no e he=>
   rcases he with⟨_,he|he⟩|⟨_,_,_,he⟩
   ·rw[SE]at he;cases he
   ·exact absurd rfl he
   ·simp only at he;omega
  |yes d' _ _ h hl hc=>exact⟨_,d',rfl,h,hc k1,rfl,rfl,rfl⟩
  |pow d' _ hc _=>exact absurd k1 hc

 have c3:mw M O n8=(240,M,O):=by
  have V:=HQ a2 n8;generalize hr:mw M O n8=r at V;cases V with
  |no e he=>
   rcases he with⟨rfl,_⟩|⟨_,_,he,_⟩
   ·rfl
   ·rw[a6]at he;exact absurd he (by decide)
  |yes d' _ he _ _ _=>rw[a6]at he;exact absurd he (by decide)
  |pow d' _ hc _=>exact absurd a9 hc

 obtain⟨a1,a5,c4,a4,f6,b6,c6⟩:∃a1 a5,nz M O=(0,a1,a5)∧Clean (zs (200%2)) a1 a5∧a5.cut=0∧a1.fs=[nn n8]∧a1.gen=2:=by
  have V:=S9 a2;generalize hr:nz M O=r at V;cases V with
  | no he=>
   rcases he with he|he
   ·omega
   ·rw[a6,Oj,b5,c5]at he
    have:(cont (1+1) [nn n8]).length=(lA 2).length+(lJ (nn n8)).length:=by
     rw[cont,ae];simp
    omega
  |yes d' h hl hc=>exact⟨_,d',rfl,h,hc a9,by show l5 M.fs=_;rw[a6,Oj],by show M.gen+1=2;rw[b5];rfl⟩
  |pow d' hc _=>exact absurd a9 hc
 have fin:∀{F:aX},Fin (fun e a7=>e=.returned (.bool true)∧Below W.heap.size W a7) F [] W (.bool true):=kQ rfl;refine OS [] (Mem.start [] W) (eA.EG [] (Hb (N:=200) rfl (by decide) (by decide)) ?_);rintro _ d9 ⟨D,rfl,c8⟩;refine⟨_,_,_,rfl,rfl,eA.xi [] (T:=[]) (by simp) c8 (by decide) a3 ?_⟩;rw[o1];rintro _ e2 X f3 ⟨JB,rfl,d0⟩;refine⟨_,_,_,rfl,rfl,fun B=>?_⟩;refine eA.app (f:=n8) (N:=[]) [_] (ah _) d0 c1.zr (by rw[c1.pend];decide) a3 Mf ?_;rw[c2];intro e3 d1;refine⟨_,_,rfl,rfl,?_⟩;refine eA.app (f:=n8) (N:=[]) [_] (ah _) d1 a2.zr (by rw[a2.pend];decide) a3 Mf ?_;rw[c3];intro e4 d2;refine⟨_,_,rfl,rfl,?_⟩;refine eA.Yz (N:=[]) [_] (ah _) d2 a2.zr (by rw[a2.pend];decide) a3 ?_;rw[c4];intro e5 b9;refine⟨_,_,rfl,rfl,eA.facts [_] b9 a4.zr fun p c N b7=>⟨_,_,_,_,rfl,rfl,?_⟩⟩;rw[b6]at b7 ⊢;obtain⟨F0,p',c',b3,d6,d7,d8⟩:=b9;refine eA.xi [_] (US (N:=N) d6) d7 (by rw[a4.pend];decide) a3 ?_;rw[T3 a4];rintro _ b1 a8 c9 ⟨e6,rfl,d4⟩;have d3:=JD.re (JB:=JB) (X:=a8) (N:=N) c9 d8;have c7:=b7.within (L:=b1++(a8++(N++jH JB D (a1.js p' c')::b3))) fun x d5=>by simp[d5]
 generalize b1++(a8++(N++jH JB D (a1.js p' c')::b3))=F7 at*;refine⟨_,_,_,rfl,rfl,eA.pure So ⟨_,_,_,rfl,rfl,?_⟩⟩;obtain⟨b,o,cs,rfl,z2,z3,tp,tc,bp,bc,ap,ac,z4,z5⟩:=c7.get (i:=0) (by decide);refine yes rfl (yes rfl (yes rfl (yes rfl (yes rfl ⟨b,o,rfl,by decide,cs,5,.inl ?_,?_,yes rfl ?_⟩))))
 ·obtain⟨t,fz,z⟩:=z2
  exact⟨t,fz,ag _ z⟩
 ·have:=(OT z4).2
  exact this
 refine eA.gen [_] d3 ⟨_,rfl,rfl,yes c6 (yes rfl ?_)⟩;refine eA.facts [_] d4 a4.zr fun p c e7 f2=>⟨_,_,_,_,rfl,rfl,?_⟩
 rw[b6];exact yes rfl fin
theorem eA.VT {L:aX}(O:lG w0 0=some mH)(M:K (.bool true) L):eA TP 10 ⟨[]⟩ L [] w0 K:=
 eA.ex (Q:=fun v=>v=.bool true) (fun W hm=>(TB (lK hm 0 mH O)).mono fun e W' ⟨h1,h2⟩=>⟨_,h1,h2,rfl⟩) fun v V=>V▸M
abbrev RT (w0:aj):bJ→aj→Prop:=fun e W'=>e=.returned (.bool true)∧Below w0.heap.size w0 W'
theorem Ta {f:dF}(h:lv lk f tp tc bp bc ap ac)(n:Int):lv lk {f with n:=n} tp tc bp bc ap ac:=⟨h.tops,h.blks,h.ints,h.ct,h.cb,h.ca,h.fits⟩
theorem OU (n:Int):64≤oi n∧oi n≤4194304:=by
 have:=eC (qv n) (show 1500>0 by decide);unfold oi;omega
section nil
variable {f:dF}{tp bp ap:Option Addr}{tc bc ac:Nat}
theorem UX:l9 TP 16 ⟨[.pointer none,.agg ⟨f.cells tp tc bp bc ap ac⟩]⟩ (.int .i64 1):=fun W=>Y4 f tp tc bp bc ap ac (Mem.start [] W) fun B=>lf rfl
theorem RR:l9 TP 25 ⟨[.pointer none]⟩ (.int .i64 1):=fun W=>Rz (Mem.start [] W) (lf rfl)
end nil
section l2
variable {w0:World}{n small:Int}{lp:Option Addr}{ll lc JB D B:Nat}{f:dF}{tp bp ap:Option Addr}{tc bc ac:Nat}{R:List UInt8}{m:JM}{d:DS}{F:aX}{room g:Int}
end l2
abbrev zO14aa (a:dF)(b x2 x3:Nat)(x4 x5 c:OA):Array aa:= #[IV a.n,IV a.time,IV a.kind,IV a.story,.string a.lang,IV a.rev,IV a.base,.string a.title,.string a.author,.slice x4 a.topics.length b,.slice x5 a.blocks.length x2,IV a.lab.unt,.slice c a.lab.after.length x3,IV a.lab.appr,IV a.lab.den,IV a.editor,IV a.block,IV a.sentence,.string a.text,.string a.name,IV a.partner,IV a.cls,IV a.unt]
noncomputable def Aa (c:OA)(b a:Nat)(f:OA)(e d:Nat)(g:Int):Cut:=⟨TP,[],37,29,(KC Tryz.f37 116),[(0,.slice c b a),(1,.slice f e d),(5,IV g)],[]⟩
theorem IQ (l:OA)(f i:Nat)(m:OA)(k j:Nat)(c:Int)(H:VP [] w0 R (.P 8 15 (c<(f:Int)) (.r 5<|.dr 10<|.qu [2]<|.x2 fun g d=>.sp l g d [0,13,18]<|.iL g d f i 23 c (d+((ad c)*23))<|.x5 fun cw (a:dF) m1tp m1tc m1bp=>.x3 fun q p o=>.Di [] g (d+((ad c)*23)) 23 38 cw (kAaq a m1tp m1tc m1bp q p o)<|.qu [2]<|.x2 fun h e=>.sp m h e [1,22]<|.iL h e k j 23 c (e+((ad c)*23))<|.x5 fun cw1 (b:dF) m21tp m21tc m21bp=>.x3 fun u t s=>.Di [] h (e+((ad c)*23)) 23 38 cw1 (kAaq b m21tp m21tc m21bp u t s)<|.ex fun w=>.qc 80 [.agg (zO14aa a m1tc q o m1tp m1bp p),.agg (zO14aa b m21tc u s m21tp m21bp t)] [] (.bool w)<|.qu [1]<|.dn<|.B 4 27 w (.li 9 5 (ab.wrap (c+1)) fun x=>.ct 2 [] (Aa (some ⟨g,d,none⟩) f i (some ⟨h,e,none⟩) k j x))<|.re 7 (.bool false) [])<|.re 6 (.bool true) [])):Aa l f i m k j c w0 R:=VC.go Tryz.func37 _ H
theorem O3 (d:OA)(a c:Nat)(f:OA)(b e:Nat)(hm:Mem [] [] w0 W)(H:VP [] w0 R (.I 13 11 ((a:Int)=(b:Int)) (.re 5 (.bool false) [])<|.ct 9 [] (Aa d a c f b e 0))):aE TP 37 ⟨[.slice d a c,.slice f b e]⟩ W R:=VC.cs Tryz.func37 hm _ H
abbrev kAhq (x0 x1 x2 x3 x4):=((x0,.cells #[PP x1,.pointer x2,PP x3,.pointer x4] 67):Nat×Obj)
theorem VO (c a:Nat)(f:OA)(b:Nat)(g:OA)(h:aX)(hm:Mem ((kAhq c a f b g)::h) S w0 W)(H:VP S w0 R (.ru [9,200]<|.cl 0 13 [PP a] ((kAhq c a f b g)::h)<|.x3 fun(e:OA) r21 F1=>.rt (kDgq e r21) ((kAhq c a f b g)::F1)<|.ru [11,200]<|.cl 0 73 [PP b] ((kAhq c a f b g)::F1)<|.x3 fun(i:OA) r41 F2=>.rt (kDgq i r41) ((kAhq c a f b g)::F2)<|.hp ((kAhq c a e b i)::F2) fun d=>.ru [14,200,2,200]<|.P 7 34 (r21=r41) (.r 3<|.pe false 29 86 e<|.I 0 36 (r21=0) (.B 0 38 e.isNone (.re 4 (.bool true) d)<|.re 4 (.bool false) d)<|.B 0 38 e.isNone (.re 4 (.bool false) d)<|.re 4 (.bool true) d)<|.re 8 (.bool false) d)):aE TP 32 ⟨[PP c]⟩ W R:=VC.cs Tryz.func32 hm _ H
abbrev zW2aa (a:dF)(b x2 x3:Nat)(x4 x5 c:OA):Array aa:= #[IV a.n,IV a.time,IV a.kind,IV a.story,.string a.lang,IV a.rev,IV a.base,.string a.title,.string a.author,.slice x4 a.topics.length b,.slice x5 a.blocks.length x2,IV a.lab.unt,.slice c a.lab.after.length x3,IV a.lab.appr,IV a.lab.den,IV a.editor,IV a.block,IV a.sentence,.string a.text,.string a.name,IV a.partner,IV a.cls,IV a.unt]
abbrev kBkq (x0:sW)(x1 x2 x3 x4 x5 x6):=(#[IV x0.f.n,IV x0.f.time,IV x0.f.kind,IV x0.f.story,.string x0.f.lang,IV x0.f.rev,IV x0.f.base,.string x0.f.title,.string x0.f.author,.slice x1 x0.f.topics.length x2,.slice x3 x0.f.blocks.length x4,IV x0.f.lab.unt,.slice x5 x0.f.lab.after.length x6,IV x0.f.lab.appr,IV x0.f.lab.den,IV x0.f.editor,IV x0.f.block,IV x0.f.sentence,.string x0.f.text,.string x0.f.name,IV x0.f.partner,IV x0.f.cls,IV x0.f.unt]:Array aa)
theorem YS (c:Nat)(a:sW)(k:OA)(j:Nat)(i:OA)(h:Nat)(g:OA)(e:Nat)(m:OA)(l o:Nat)(d:OA)(p:Nat)(q:OA)(y:aX)(hm:Mem ((kAhq c o d p q)::y) S w0 W)(H:VP S w0 R (.nf 2 (.cells #[IV a.call,IV a.f.n,IV a.f.time,IV a.f.kind,IV a.f.story,.string a.f.lang,IV a.f.rev,IV a.f.base,.string a.f.title,.string a.f.author,.slice k a.f.topics.length j,.slice i a.f.blocks.length h,IV a.f.lab.unt,.slice g a.f.lab.after.length e,IV a.f.lab.appr,IV a.f.lab.den,IV a.f.editor,IV a.f.block,IV a.f.sentence,.string a.f.text,.string a.f.name,IV a.f.partner,IV a.f.cls,IV a.f.unt,IV a.num,.slice m a.lH.length l] 57) fun B=>.hp ((B,.cells #[IV a.call,IV a.f.n,IV a.f.time,IV a.f.kind,IV a.f.story,.string a.f.lang,IV a.f.rev,IV a.f.base,.string a.f.title,.string a.f.author,.slice k a.f.topics.length j,.slice i a.f.blocks.length h,IV a.f.lab.unt,.slice g a.f.lab.after.length e,IV a.f.lab.appr,IV a.f.lab.den,IV a.f.editor,IV a.f.block,IV a.f.sentence,.string a.f.text,.string a.f.name,IV a.f.partner,IV a.f.cls,IV a.f.unt,IV a.num,.slice m a.lH.length l] 57)::(kAhq c o d p q)::y) fun w=>.ru [6,200]<|.cl 0 17 [IV a.call,IV 9] w<|.ex fun z=>.rt (IV z) w<|.P 7 9 (z=6) (.r 2<|.dD<|.nm [0,3]<|.ph 20 [0,1,2,3,4,5,9,10,11,12,13,14] [6,7,8,15,16,17,18,19] 2<|.qu [3,101,1,100,3,101,1,100]<|.dn<|.hp ((B,.cells #[IV a.call,IV a.f.n,IV a.f.time,IV a.f.kind,IV a.f.story,.string a.f.lang,IV a.f.rev,IV a.f.base,.string a.f.title,.string a.f.author,.slice k a.f.topics.length j,.slice i a.f.blocks.length h,IV a.f.lab.unt,.slice g a.f.lab.after.length e,IV a.f.lab.appr,IV a.f.lab.den,IV a.f.editor,IV a.f.block,IV a.f.sentence,.string a.f.text,.string a.f.name,IV a.f.partner,IV a.f.cls,IV a.f.unt,IV a.num,.slice m a.lH.length l] 57)::(kAhq c o d p q)::y) fun C=>.cl 17 [IV a.num,IV 9] C<|.ex fun b1=>.rt (IV b1) C<|.st 0<|.cl 29 [PP o,IV (ab.wrap (1+b1))] C<|.x2 fun b3 E=>.rt (IV b3) ((B,.cells #[IV a.call,IV a.f.n,IV a.f.time,IV a.f.kind,IV a.f.story,.string a.f.lang,IV a.f.rev,IV a.f.base,.string a.f.title,.string a.f.author,.slice k a.f.topics.length j,.slice i a.f.blocks.length h,IV a.f.lab.unt,.slice g a.f.lab.after.length e,IV a.f.lab.appr,IV a.f.lab.den,IV a.f.editor,IV a.f.block,IV a.f.sentence,.string a.f.text,.string a.f.name,IV a.f.partner,IV a.f.cls,IV a.f.unt,IV a.num,.slice m a.lH.length l] 57)::(kAhq c o d p q)::E)<|.hp ((B,.cells #[IV a.call,IV a.f.n,IV a.f.time,IV a.f.kind,IV a.f.story,.string a.f.lang,IV a.f.rev,IV a.f.base,.string a.f.title,.string a.f.author,.slice k a.f.topics.length j,.slice i a.f.blocks.length h,IV a.f.lab.unt,.slice g a.f.lab.after.length e,IV a.f.lab.appr,IV a.f.lab.den,IV a.f.editor,IV a.f.block,IV a.f.sentence,.string a.f.text,.string a.f.name,IV a.f.partner,IV a.f.cls,IV a.f.unt,IV a.num,.slice m a.lH.length l] 57)::(kAhq c o d p q)::E) fun D=>.cl 17 [IV a.num,IV 9] D<|.ex fun b4=>.rt (IV b4) D<|.st 0<|.cl 74 [PP p,IV (ab.wrap (1+b4))] D<|.x2 fun b5 Q=>.rt (IV b5) ((B,.cells #[IV a.call,IV a.f.n,IV a.f.time,IV a.f.kind,IV a.f.story,.string a.f.lang,IV a.f.rev,IV a.f.base,.string a.f.title,.string a.f.author,.slice k a.f.topics.length j,.slice i a.f.blocks.length h,IV a.f.lab.unt,.slice g a.f.lab.after.length e,IV a.f.lab.appr,IV a.f.lab.den,IV a.f.editor,IV a.f.block,IV a.f.sentence,.string a.f.text,.string a.f.name,IV a.f.partner,IV a.f.cls,IV a.f.unt,IV a.num,.slice m a.lH.length l] 57)::(kAhq c o d p q)::Q)<|.st 0<|.st 0<|.dn<|.tl<|.re 1 (.bool (decide (b3=b5))) ((B,.cells #[IV a.call,IV a.f.n,IV a.f.time,IV a.f.kind,IV a.f.story,.string a.f.lang,IV a.f.rev,IV a.f.base,.string a.f.title,.string a.f.author,.slice k a.f.topics.length j,.slice i a.f.blocks.length h,IV a.f.lab.unt,.slice g a.f.lab.after.length e,IV a.f.lab.appr,IV a.f.lab.den,IV a.f.editor,IV a.f.block,IV a.f.sentence,.string a.f.text,.string a.f.name,IV a.f.partner,IV a.f.cls,IV a.f.unt,IV a.num,.slice m a.lH.length l] 57)::(kAhq c o d p q)::Q))<|.P 6 30 (z=7) (.r 2<|.dr 8<|.qu [3,101,1,100,1,100]<|.dn<|.cl 0 34 [PP o,.slice m a.lH.length l,IV a.num] w<|.x2 fun c6 U=>.rt (IV c6) ((B,.cells #[IV a.call,IV a.f.n,IV a.f.time,IV a.f.kind,IV a.f.story,.string a.f.lang,IV a.f.rev,IV a.f.base,.string a.f.title,.string a.f.author,.slice k a.f.topics.length j,.slice i a.f.blocks.length h,IV a.f.lab.unt,.slice g a.f.lab.after.length e,IV a.f.lab.appr,IV a.f.lab.den,IV a.f.editor,IV a.f.block,IV a.f.sentence,.string a.f.text,.string a.f.name,IV a.f.partner,IV a.f.cls,IV a.f.unt,IV a.num,.slice m a.lH.length l] 57)::(kAhq c o d p q)::U)<|.r 2<|.dr 8<|.qu [3,101,1,100,1,100]<|.dn<|.cl 0 35 [PP p,.slice m a.lH.length l,IV a.num] ((B,.cells #[IV a.call,IV a.f.n,IV a.f.time,IV a.f.kind,IV a.f.story,.string a.f.lang,IV a.f.rev,IV a.f.base,.string a.f.title,.string a.f.author,.slice k a.f.topics.length j,.slice i a.f.blocks.length h,IV a.f.lab.unt,.slice g a.f.lab.after.length e,IV a.f.lab.appr,IV a.f.lab.den,IV a.f.editor,IV a.f.block,IV a.f.sentence,.string a.f.text,.string a.f.name,IV a.f.partner,IV a.f.cls,IV a.f.unt,IV a.num,.slice m a.lH.length l] 57)::(kAhq c o d p q)::U)<|.ex fun V=>.rt (.tuple #[]) ((B,.cells #[IV a.call,IV a.f.n,IV a.f.time,IV a.f.kind,IV a.f.story,.string a.f.lang,IV a.f.rev,IV a.f.base,.string a.f.title,.string a.f.author,.slice k a.f.topics.length j,.slice i a.f.blocks.length h,IV a.f.lab.unt,.slice g a.f.lab.after.length e,IV a.f.lab.appr,IV a.f.lab.den,IV a.f.editor,IV a.f.block,IV a.f.sentence,.string a.f.text,.string a.f.name,IV a.f.partner,IV a.f.cls,IV a.f.unt,IV a.num,.slice m a.lH.length l] 57)::(kAhq c o d p q)::V)<|.cl 4 32 [PP c] ((B,.cells #[IV a.call,IV a.f.n,IV a.f.time,IV a.f.kind,IV a.f.story,.string a.f.lang,IV a.f.rev,IV a.f.base,.string a.f.title,.string a.f.author,.slice k a.f.topics.length j,.slice i a.f.blocks.length h,IV a.f.lab.unt,.slice g a.f.lab.after.length e,IV a.f.lab.appr,IV a.f.lab.den,IV a.f.editor,IV a.f.block,IV a.f.sentence,.string a.f.text,.string a.f.name,IV a.f.partner,IV a.f.cls,IV a.f.unt,IV a.num,.slice m a.lH.length l] 57)::(kAhq c o d p q)::V)<|.x4 fun r71 (b7 c0:OA) F5=>.rt (.bool r71) ((B,.cells #[IV a.call,IV a.f.n,IV a.f.time,IV a.f.kind,IV a.f.story,.string a.f.lang,IV a.f.rev,IV a.f.base,.string a.f.title,.string a.f.author,.slice k a.f.topics.length j,.slice i a.f.blocks.length h,IV a.f.lab.unt,.slice g a.f.lab.after.length e,IV a.f.lab.appr,IV a.f.lab.den,IV a.f.editor,IV a.f.block,IV a.f.sentence,.string a.f.text,.string a.f.name,IV a.f.partner,IV a.f.cls,IV a.f.unt,IV a.num,.slice m a.lH.length l] 57)::(kAhq c o b7 p c0)::F5)<|.re 2 (.bool r71) ((B,.cells #[IV a.call,IV a.f.n,IV a.f.time,IV a.f.kind,IV a.f.story,.string a.f.lang,IV a.f.rev,IV a.f.base,.string a.f.title,.string a.f.author,.slice k a.f.topics.length j,.slice i a.f.blocks.length h,IV a.f.lab.unt,.slice g a.f.lab.after.length e,IV a.f.lab.appr,IV a.f.lab.den,IV a.f.editor,IV a.f.block,IV a.f.sentence,.string a.f.text,.string a.f.name,IV a.f.partner,IV a.f.cls,IV a.f.unt,IV a.num,.slice m a.lH.length l] 57)::(kAhq c o b7 p c0)::F5))<|.P 6 52 (z=8) (.cl 4 32 [PP c] w<|.x4 fun r81 (b9 c2:OA) F6=>.rt (.bool r81) ((B,.cells #[IV a.call,IV a.f.n,IV a.f.time,IV a.f.kind,IV a.f.story,.string a.f.lang,IV a.f.rev,IV a.f.base,.string a.f.title,.string a.f.author,.slice k a.f.topics.length j,.slice i a.f.blocks.length h,IV a.f.lab.unt,.slice g a.f.lab.after.length e,IV a.f.lab.appr,IV a.f.lab.den,IV a.f.editor,IV a.f.block,IV a.f.sentence,.string a.f.text,.string a.f.name,IV a.f.partner,IV a.f.cls,IV a.f.unt,IV a.num,.slice m a.lH.length l] 57)::(kAhq c o b9 p c2)::F6)<|.re 2 (.bool r81) ((B,.cells #[IV a.call,IV a.f.n,IV a.f.time,IV a.f.kind,IV a.f.story,.string a.f.lang,IV a.f.rev,IV a.f.base,.string a.f.title,.string a.f.author,.slice k a.f.topics.length j,.slice i a.f.blocks.length h,IV a.f.lab.unt,.slice g a.f.lab.after.length e,IV a.f.lab.appr,IV a.f.lab.den,IV a.f.editor,IV a.f.block,IV a.f.sentence,.string a.f.text,.string a.f.name,IV a.f.partner,IV a.f.cls,IV a.f.unt,IV a.num,.slice m a.lH.length l] 57)::(kAhq c o b9 p c2)::F6))<|.ru [9,201]<|.pe false 29 86 d<|.B 1 60 d.isNone (.r 2<|.dr 6<|.qu [3,101,1,100]<|.dn<|.cl 0 16 [.pointer d,.agg (kBkq a k j i h g e)] w<|.x2 fun b6 X=>.rt (IV b6) ((B,.cells #[IV a.call,IV a.f.n,IV a.f.time,IV a.f.kind,IV a.f.story,.string a.f.lang,IV a.f.rev,IV a.f.base,.string a.f.title,.string a.f.author,.slice k a.f.topics.length j,.slice i a.f.blocks.length h,IV a.f.lab.unt,.slice g a.f.lab.after.length e,IV a.f.lab.appr,IV a.f.lab.den,IV a.f.editor,IV a.f.block,IV a.f.sentence,.string a.f.text,.string a.f.name,IV a.f.partner,IV a.f.cls,IV a.f.unt,IV a.num,.slice m a.lH.length l] 57)::(kAhq c o d p q)::X)<|.hp ((B,.cells #[IV a.call,IV a.f.n,IV a.f.time,IV a.f.kind,IV a.f.story,.string a.f.lang,IV a.f.rev,IV a.f.base,.string a.f.title,.string a.f.author,.slice k a.f.topics.length j,.slice i a.f.blocks.length h,IV a.f.lab.unt,.slice g a.f.lab.after.length e,IV a.f.lab.appr,IV a.f.lab.den,IV a.f.editor,IV a.f.block,IV a.f.sentence,.string a.f.text,.string a.f.name,IV a.f.partner,IV a.f.cls,IV a.f.unt,IV a.num,.slice m a.lH.length l] 57)::(kAhq c o d p q)::X) fun a0=>.P 2 69 (b6=1) (.ru [3,201]<|.cl 0 25 [.pointer d] a0<|.x2 fun a2 Y=>.rt (IV a2) ((B,.cells #[IV a.call,IV a.f.n,IV a.f.time,IV a.f.kind,IV a.f.story,.string a.f.lang,IV a.f.rev,IV a.f.base,.string a.f.title,.string a.f.author,.slice k a.f.topics.length j,.slice i a.f.blocks.length h,IV a.f.lab.unt,.slice g a.f.lab.after.length e,IV a.f.lab.appr,IV a.f.lab.den,IV a.f.editor,IV a.f.block,IV a.f.sentence,.string a.f.text,.string a.f.name,IV a.f.partner,IV a.f.cls,IV a.f.unt,IV a.num,.slice m a.lH.length l] 57)::(kAhq c o d p q)::Y)<|.re 4 (.bool (decide (a2=1))) ((B,.cells #[IV a.call,IV a.f.n,IV a.f.time,IV a.f.kind,IV a.f.story,.string a.f.lang,IV a.f.rev,IV a.f.base,.string a.f.title,.string a.f.author,.slice k a.f.topics.length j,.slice i a.f.blocks.length h,IV a.f.lab.unt,.slice g a.f.lab.after.length e,IV a.f.lab.appr,IV a.f.lab.den,IV a.f.editor,IV a.f.block,IV a.f.sentence,.string a.f.text,.string a.f.name,IV a.f.partner,IV a.f.cls,IV a.f.unt,IV a.num,.slice m a.lH.length l] 57)::(kAhq c o d p q)::Y))<|.re 9 (.bool false) a0)<|.ru [6,200]<|.cl 0 17 [IV a.call,IV 9] w<|.ex fun a3=>.rt (IV a3) w<|.P 2 80 (a3=5) (.r 2<|.dD<|.nm [0]<|.ph 10 [0,1,2,3,5,6,7,8] [4,9] 2<|.qu [3,101,3,101]<|.dn<|.cl 25 [.pointer d] ((B,.cells #[IV a.call,IV a.f.n,IV a.f.time,IV a.f.kind,IV a.f.story,.string a.f.lang,IV a.f.rev,IV a.f.base,.string a.f.title,.string a.f.author,.slice k a.f.topics.length j,.slice i a.f.blocks.length h,IV a.f.lab.unt,.slice g a.f.lab.after.length e,IV a.f.lab.appr,IV a.f.lab.den,IV a.f.editor,IV a.f.block,IV a.f.sentence,.string a.f.text,.string a.f.name,IV a.f.partner,IV a.f.cls,IV a.f.unt,IV a.num,.slice m a.lH.length l] 57)::(kAhq c o d p q)::y)<|.x2 fun a4 Z=>.rt (IV a4) ((B,.cells #[IV a.call,IV a.f.n,IV a.f.time,IV a.f.kind,IV a.f.story,.string a.f.lang,IV a.f.rev,IV a.f.base,.string a.f.title,.string a.f.author,.slice k a.f.topics.length j,.slice i a.f.blocks.length h,IV a.f.lab.unt,.slice g a.f.lab.after.length e,IV a.f.lab.appr,IV a.f.lab.den,IV a.f.editor,IV a.f.block,IV a.f.sentence,.string a.f.text,.string a.f.name,IV a.f.partner,IV a.f.cls,IV a.f.unt,IV a.num,.slice m a.lH.length l] 57)::(kAhq c o d p q)::Z)<|.cl 75 [.pointer q] ((B,.cells #[IV a.call,IV a.f.n,IV a.f.time,IV a.f.kind,IV a.f.story,.string a.f.lang,IV a.f.rev,IV a.f.base,.string a.f.title,.string a.f.author,.slice k a.f.topics.length j,.slice i a.f.blocks.length h,IV a.f.lab.unt,.slice g a.f.lab.after.length e,IV a.f.lab.appr,IV a.f.lab.den,IV a.f.editor,IV a.f.block,IV a.f.sentence,.string a.f.text,.string a.f.name,IV a.f.partner,IV a.f.cls,IV a.f.unt,IV a.num,.slice m a.lH.length l] 57)::(kAhq c o d p q)::Z)<|.x2 fun a5 F=>.rt (IV a5) ((B,.cells #[IV a.call,IV a.f.n,IV a.f.time,IV a.f.kind,IV a.f.story,.string a.f.lang,IV a.f.rev,IV a.f.base,.string a.f.title,.string a.f.author,.slice k a.f.topics.length j,.slice i a.f.blocks.length h,IV a.f.lab.unt,.slice g a.f.lab.after.length e,IV a.f.lab.appr,IV a.f.lab.den,IV a.f.editor,IV a.f.block,IV a.f.sentence,.string a.f.text,.string a.f.name,IV a.f.partner,IV a.f.cls,IV a.f.unt,IV a.num,.slice m a.lH.length l] 57)::(kAhq c o d p q)::F)<|.dn<|.tl<|.re 3 (.bool (decide (a4=a5))) ((B,.cells #[IV a.call,IV a.f.n,IV a.f.time,IV a.f.kind,IV a.f.story,.string a.f.lang,IV a.f.rev,IV a.f.base,.string a.f.title,.string a.f.author,.slice k a.f.topics.length j,.slice i a.f.blocks.length h,IV a.f.lab.unt,.slice g a.f.lab.after.length e,IV a.f.lab.appr,IV a.f.lab.den,IV a.f.editor,IV a.f.block,IV a.f.sentence,.string a.f.text,.string a.f.name,IV a.f.partner,IV a.f.cls,IV a.f.unt,IV a.num,.slice m a.lH.length l] 57)::(kAhq c o d p q)::F))<|.ru [5,200]<|.cl 0 14 [.agg (kBkq a k j i h g e)] w<|.x5 fun(b:dF) r141tp r141tc r141bp r141bc=>.x2 fun t s=>.rt (.agg (zW2aa b r141tc r141bc s r141tp r141bp t)) w<|.nf 0 (.cells kAjq 38) fun u=>.hp ((u,.cells (zW2aa b r141tc r141bc s r141tp r141bp t) 38)::(B,.cells #[IV a.call,IV a.f.n,IV a.f.time,IV a.f.kind,IV a.f.story,.string a.f.lang,IV a.f.rev,IV a.f.base,.string a.f.title,.string a.f.author,.slice k a.f.topics.length j,.slice i a.f.blocks.length h,IV a.f.lab.unt,.slice g a.f.lab.after.length e,IV a.f.lab.appr,IV a.f.lab.den,IV a.f.editor,IV a.f.block,IV a.f.sentence,.string a.f.text,.string a.f.name,IV a.f.partner,IV a.f.cls,IV a.f.unt,IV a.num,.slice m a.lH.length l] 57)::(kAhq c o d p q)::y) fun A=>.ru [200,5,201]<|.cl 0 17 [IV a.call,IV 9] A<|.ex fun a6=>.rt (IV a6) A<|.P 2 98 (a6<4) (.ru [5,202]<|.ex fun(a1:Nat)=>.nc q a1<|.r 1<|.x4 fun c3 c5 x c4=>.lT A a1 5 22 c3 (.slice c5 x c4)<|.ru [3,200]<|.r 2<|.dD<|.nm [0,5]<|.ph 12 [0,1,2,3,4,6,7,8,9,10] [5,11] 3<|.qu [3,102,100,3,102,100]<|.dn<|.cl 16 [.pointer d,.agg #[IV (ab.wrap ((x:Int)+1)),IV b.time,IV b.kind,IV b.story,.string b.lang,IV b.rev,IV b.base,.string b.title,.string b.author,.slice r141tp b.topics.length r141tc,.slice r141bp b.blocks.length r141bc,IV b.lab.unt,.slice t b.lab.after.length s,IV b.lab.appr,IV b.lab.den,IV b.editor,IV b.block,IV b.sentence,.string b.text,.string b.name,IV b.partner,IV b.cls,IV b.unt]] ((u,.cells #[IV (ab.wrap ((x:Int)+1)),IV b.time,IV b.kind,IV b.story,.string b.lang,IV b.rev,IV b.base,.string b.title,.string b.author,.slice r141tp b.topics.length r141tc,.slice r141bp b.blocks.length r141bc,IV b.lab.unt,.slice t b.lab.after.length s,IV b.lab.appr,IV b.lab.den,IV b.editor,IV b.block,IV b.sentence,.string b.text,.string b.name,IV b.partner,IV b.cls,IV b.unt] 38)::(B,.cells #[IV a.call,IV a.f.n,IV a.f.time,IV a.f.kind,IV a.f.story,.string a.f.lang,IV a.f.rev,IV a.f.base,.string a.f.title,.string a.f.author,.slice k a.f.topics.length j,.slice i a.f.blocks.length h,IV a.f.lab.unt,.slice g a.f.lab.after.length e,IV a.f.lab.appr,IV a.f.lab.den,IV a.f.editor,IV a.f.block,IV a.f.sentence,.string a.f.text,.string a.f.name,IV a.f.partner,IV a.f.cls,IV a.f.unt,IV a.num,.slice m a.lH.length l] 57)::(kAhq c o d p q)::y)<|.x2 fun a7 G=>.rt (IV a7) ((u,.cells #[IV (ab.wrap ((x:Int)+1)),IV b.time,IV b.kind,IV b.story,.string b.lang,IV b.rev,IV b.base,.string b.title,.string b.author,.slice r141tp b.topics.length r141tc,.slice r141bp b.blocks.length r141bc,IV b.lab.unt,.slice t b.lab.after.length s,IV b.lab.appr,IV b.lab.den,IV b.editor,IV b.block,IV b.sentence,.string b.text,.string b.name,IV b.partner,IV b.cls,IV b.unt] 38)::(B,.cells #[IV a.call,IV a.f.n,IV a.f.time,IV a.f.kind,IV a.f.story,.string a.f.lang,IV a.f.rev,IV a.f.base,.string a.f.title,.string a.f.author,.slice k a.f.topics.length j,.slice i a.f.blocks.length h,IV a.f.lab.unt,.slice g a.f.lab.after.length e,IV a.f.lab.appr,IV a.f.lab.den,IV a.f.editor,IV a.f.block,IV a.f.sentence,.string a.f.text,.string a.f.name,IV a.f.partner,IV a.f.cls,IV a.f.unt,IV a.num,.slice m a.lH.length l] 57)::(kAhq c o d p q)::G)<|.cl 76 [.pointer q,.agg #[IV (ab.wrap ((x:Int)+1)),IV b.time,IV b.kind,IV b.story,.string b.lang,IV b.rev,IV b.base,.string b.title,.string b.author,.slice r141tp b.topics.length r141tc,.slice r141bp b.blocks.length r141bc,IV b.lab.unt,.slice t b.lab.after.length s,IV b.lab.appr,IV b.lab.den,IV b.editor,IV b.block,IV b.sentence,.string b.text,.string b.name,IV b.partner,IV b.cls,IV b.unt]] ((u,.cells #[IV (ab.wrap ((x:Int)+1)),IV b.time,IV b.kind,IV b.story,.string b.lang,IV b.rev,IV b.base,.string b.title,.string b.author,.slice r141tp b.topics.length r141tc,.slice r141bp b.blocks.length r141bc,IV b.lab.unt,.slice t b.lab.after.length s,IV b.lab.appr,IV b.lab.den,IV b.editor,IV b.block,IV b.sentence,.string b.text,.string b.name,IV b.partner,IV b.cls,IV b.unt] 38)::(B,.cells #[IV a.call,IV a.f.n,IV a.f.time,IV a.f.kind,IV a.f.story,.string a.f.lang,IV a.f.rev,IV a.f.base,.string a.f.title,.string a.f.author,.slice k a.f.topics.length j,.slice i a.f.blocks.length h,IV a.f.lab.unt,.slice g a.f.lab.after.length e,IV a.f.lab.appr,IV a.f.lab.den,IV a.f.editor,IV a.f.block,IV a.f.sentence,.string a.f.text,.string a.f.name,IV a.f.partner,IV a.f.cls,IV a.f.unt,IV a.num,.slice m a.lH.length l] 57)::(kAhq c o d p q)::G)<|.x2 fun a8 M=>.rt (IV a8) ((u,.cells #[IV (ab.wrap ((x:Int)+1)),IV b.time,IV b.kind,IV b.story,.string b.lang,IV b.rev,IV b.base,.string b.title,.string b.author,.slice r141tp b.topics.length r141tc,.slice r141bp b.blocks.length r141bc,IV b.lab.unt,.slice t b.lab.after.length s,IV b.lab.appr,IV b.lab.den,IV b.editor,IV b.block,IV b.sentence,.string b.text,.string b.name,IV b.partner,IV b.cls,IV b.unt] 38)::(B,.cells #[IV a.call,IV a.f.n,IV a.f.time,IV a.f.kind,IV a.f.story,.string a.f.lang,IV a.f.rev,IV a.f.base,.string a.f.title,.string a.f.author,.slice k a.f.topics.length j,.slice i a.f.blocks.length h,IV a.f.lab.unt,.slice g a.f.lab.after.length e,IV a.f.lab.appr,IV a.f.lab.den,IV a.f.editor,IV a.f.block,IV a.f.sentence,.string a.f.text,.string a.f.name,IV a.f.partner,IV a.f.cls,IV a.f.unt,IV a.num,.slice m a.lH.length l] 57)::(kAhq c o d p q)::M)<|.dn<|.tl<|.re 3 (.bool (decide (a7=a8))) ((u,.cells #[IV (ab.wrap ((x:Int)+1)),IV b.time,IV b.kind,IV b.story,.string b.lang,IV b.rev,IV b.base,.string b.title,.string b.author,.slice r141tp b.topics.length r141tc,.slice r141bp b.blocks.length r141bc,IV b.lab.unt,.slice t b.lab.after.length s,IV b.lab.appr,IV b.lab.den,IV b.editor,IV b.block,IV b.sentence,.string b.text,.string b.name,IV b.partner,IV b.cls,IV b.unt] 38)::(B,.cells #[IV a.call,IV a.f.n,IV a.f.time,IV a.f.kind,IV a.f.story,.string a.f.lang,IV a.f.rev,IV a.f.base,.string a.f.title,.string a.f.author,.slice k a.f.topics.length j,.slice i a.f.blocks.length h,IV a.f.lab.unt,.slice g a.f.lab.after.length e,IV a.f.lab.appr,IV a.f.lab.den,IV a.f.editor,IV a.f.block,IV a.f.sentence,.string a.f.text,.string a.f.name,IV a.f.partner,IV a.f.cls,IV a.f.unt,IV a.num,.slice m a.lH.length l] 57)::(kAhq c o d p q)::M))<|.r 3<|.dD<|.nm [0,5]<|.ph 12 [0,1,2,3,4,6,7,8,9,10] [5,11] 3<|.qu [3,102,100,3,102,100]<|.dn<|.cl 16 [.pointer d,.agg (zW2aa b r141tc r141bc s r141tp r141bp t)] ((u,.cells (zW2aa b r141tc r141bc s r141tp r141bp t) 38)::(B,.cells #[IV a.call,IV a.f.n,IV a.f.time,IV a.f.kind,IV a.f.story,.string a.f.lang,IV a.f.rev,IV a.f.base,.string a.f.title,.string a.f.author,.slice k a.f.topics.length j,.slice i a.f.blocks.length h,IV a.f.lab.unt,.slice g a.f.lab.after.length e,IV a.f.lab.appr,IV a.f.lab.den,IV a.f.editor,IV a.f.block,IV a.f.sentence,.string a.f.text,.string a.f.name,IV a.f.partner,IV a.f.cls,IV a.f.unt,IV a.num,.slice m a.lH.length l] 57)::(kAhq c o d p q)::y)<|.x2 fun a9 N=>.rt (IV a9) ((u,.cells (zW2aa b r141tc r141bc s r141tp r141bp t) 38)::(B,.cells #[IV a.call,IV a.f.n,IV a.f.time,IV a.f.kind,IV a.f.story,.string a.f.lang,IV a.f.rev,IV a.f.base,.string a.f.title,.string a.f.author,.slice k a.f.topics.length j,.slice i a.f.blocks.length h,IV a.f.lab.unt,.slice g a.f.lab.after.length e,IV a.f.lab.appr,IV a.f.lab.den,IV a.f.editor,IV a.f.block,IV a.f.sentence,.string a.f.text,.string a.f.name,IV a.f.partner,IV a.f.cls,IV a.f.unt,IV a.num,.slice m a.lH.length l] 57)::(kAhq c o d p q)::N)<|.cl 76 [.pointer q,.agg (zW2aa b r141tc r141bc s r141tp r141bp t)] ((u,.cells (zW2aa b r141tc r141bc s r141tp r141bp t) 38)::(B,.cells #[IV a.call,IV a.f.n,IV a.f.time,IV a.f.kind,IV a.f.story,.string a.f.lang,IV a.f.rev,IV a.f.base,.string a.f.title,.string a.f.author,.slice k a.f.topics.length j,.slice i a.f.blocks.length h,IV a.f.lab.unt,.slice g a.f.lab.after.length e,IV a.f.lab.appr,IV a.f.lab.den,IV a.f.editor,IV a.f.block,IV a.f.sentence,.string a.f.text,.string a.f.name,IV a.f.partner,IV a.f.cls,IV a.f.unt,IV a.num,.slice m a.lH.length l] 57)::(kAhq c o d p q)::N)<|.x2 fun b0 O=>.rt (IV b0) ((u,.cells (zW2aa b r141tc r141bc s r141tp r141bp t) 38)::(B,.cells #[IV a.call,IV a.f.n,IV a.f.time,IV a.f.kind,IV a.f.story,.string a.f.lang,IV a.f.rev,IV a.f.base,.string a.f.title,.string a.f.author,.slice k a.f.topics.length j,.slice i a.f.blocks.length h,IV a.f.lab.unt,.slice g a.f.lab.after.length e,IV a.f.lab.appr,IV a.f.lab.den,IV a.f.editor,IV a.f.block,IV a.f.sentence,.string a.f.text,.string a.f.name,IV a.f.partner,IV a.f.cls,IV a.f.unt,IV a.num,.slice m a.lH.length l] 57)::(kAhq c o d p q)::O)<|.dn<|.tl<|.re 3 (.bool (decide (a9=b0))) ((u,.cells (zW2aa b r141tc r141bc s r141tp r141bp t) 38)::(B,.cells #[IV a.call,IV a.f.n,IV a.f.time,IV a.f.kind,IV a.f.story,.string a.f.lang,IV a.f.rev,IV a.f.base,.string a.f.title,.string a.f.author,.slice k a.f.topics.length j,.slice i a.f.blocks.length h,IV a.f.lab.unt,.slice g a.f.lab.after.length e,IV a.f.lab.appr,IV a.f.lab.den,IV a.f.editor,IV a.f.block,IV a.f.sentence,.string a.f.text,.string a.f.name,IV a.f.partner,IV a.f.cls,IV a.f.unt,IV a.num,.slice m a.lH.length l] 57)::(kAhq c o d p q)::O))):aE TP 33 ⟨[PP c,.agg #[IV a.call,IV a.f.n,IV a.f.time,IV a.f.kind,IV a.f.story,.string a.f.lang,IV a.f.rev,IV a.f.base,.string a.f.title,.string a.f.author,.slice k a.f.topics.length j,.slice i a.f.blocks.length h,IV a.f.lab.unt,.slice g a.f.lab.after.length e,IV a.f.lab.appr,IV a.f.lab.den,IV a.f.editor,IV a.f.block,IV a.f.sentence,.string a.f.text,.string a.f.name,IV a.f.partner,IV a.f.cls,IV a.f.unt,IV a.num,.slice m a.lH.length l]]⟩ W R:=VC.cs Tryz.func33 hm _ H
theorem ML {l:List UInt8}{g:Int}{fs:List dF}{e:Nat}(h:mf l=some (g,fs,e)):(∀f∈fs,f.ok=true)∧fs.length≤500:=by
 rcases C5 h with⟨_,rfl,_,_⟩|⟨_,_,hn,_⟩
 ·exact⟨fun f M=>(by cases M),bx _⟩
 ·refine⟨hn.all,?_⟩
  rcases hn.len with h|rfl
  ·omega
  ·exact bx _
theorem EA {d:DS}(V:mj d){m:JM}(h:(mn d).2.1=some m):nQ m:=by
 have a4:=V.le;unfold mn at h;split at h
 ·cases h
 ·next h64=>
  split at h
  ·cases h
  ·split at h
   ·next h0 h1 e0 e1=>
    split at h
    ·cases h
    ·have a5:(ng d).length=d.vis.length/2:=by rw[ng,ao];omega
     have a6:(na d).length=d.vis.length/2:=by rw[na,ao,aZ];omega
     have g0:=vh (fs:=h0.2.1) (e:=h0.2.2) (g:=h0.1) e0;have g1:=vh (fs:=h1.2.1) (e:=h1.2.2) (g:=h1.1) e1;have O:=ML (fs:=h0.2.1) (e:=h0.2.2) (g:=h0.1) e0;have o1:=ML (fs:=h1.2.1) (e:=h1.2.2) (g:=h1.1) e1;have M:nQ (pQ (d.vis.length/2) h0 h1):=by
      unfold pQ;split
      ·exact⟨by show h1.2.2≤d.vis.length/2;omega,by show d.vis.length/2≤_;omega,aD 1,o1.1,o1.2,g1.1,g1.2.1⟩
      ·exact⟨by show h0.2.2≤d.vis.length/2;omega,by show d.vis.length/2≤_;omega,bx 1,O.1,O.2,g0.1,g0.2.1⟩
     unfold nL at h;split at h
     ·cases h
      unfold wj;split
      ·have a3:=tz 1
       have a2:(pQ (d.vis.length/2) h0 h1).sz=d.vis.length/2:=by unfold pQ;split<;>rfl
       exact⟨by show(lA 1).length≤_;rw[a2];omega,M.sz,M.cu,fun f a1=>(by cases a1),bx _,by show(0:Int)≤1∧(1:Int)≤4611686018427387903;omega⟩
      ·exact M
     ·cases h
   ·cases h
theorem KL {m:JM}(h:nQ m):nQ {m with br:=true}:=⟨h.en,h.sz,h.cu,h.ok,h.len,h.gen⟩
theorem Vg {m:JM}(h:nQ m)(d:DS)(f:dF):nQ (mw m d f).2.1:=by
 unfold mw;split
 ·exact h
 ·split
  ·exact h
  ·next hok=>
   split
   ·exact h
   ·next hn=>
    split
    ·exact h
    ·next hr=>
     split
     ·have O:f.ok=true:=by simpa using hok
      have a1:=(dF.ot O).n;have V:=h.en;refine⟨by show m.en+(lJ f).length≤m.sz;omega,h.sz,h.cu,fun g M=>?_,?_,h.gen⟩
      ·rcases cn.1 M with M|M
       ·exact h.ok g M
       ·rw[cK.1 M];exact O
      ·show(m.fs++[f]).length≤500
       rw[ae,List.length_singleton];have:f.n=((m.fs.length+1:Nat):Int):=Classical.not_not.1 hn;omega
     ·exact KL h
theorem PH {m:JM}(h:nQ m)(d:DS):nQ (nz m d).2.1:=by
 unfold nz;split
 ·exact h
 ·split
  ·exact h
  ·next hg=>
   split
   ·exact h
   ·next hz=>
    split
    ·have M:=h.gen
     refine⟨by show(cont (m.gen+1) (l5 m.fs)).length≤m.sz;omega,h.sz,by show 1-m.cu≤1;omega,AG h.ok,by show(l5 m.fs).length≤500;rw[xH];exact h.len,by show 0≤m.gen+1∧m.gen+1≤_;omega⟩
    ·exact KL h
theorem CE:∀(ops:List lC) (d:DS),(ln ops d).2.pend.length≤d.pend.length+ops.length
 |[],d=>aD _
 | o::r,d=>by
  have M:=ya o d;unfold ln;split
  ·have:=CE r (o.run d).2
   rw[aI];omega
  ·rw[aI];omega
theorem UC (i0 i1:List UInt8)(j:JM):(p9 i0 i1 j).length≤7:=by
 have:=EE j.gen j.cu j.en j.sz i0 i1;unfold p9;split
 ·rw[ae];show _+4≤7;omega
 ·omega
theorem EO (d:DS):(mn d).2.2.pend.length≤d.pend.length+7:=by
 have key:∀i0 i1 j,(nL i0 i1 j d).2.2.pend.length≤d.pend.length+7:=fun i0 i1 j=>by
  have M:=CE (p9 i0 i1 j) d;have O:=UC i0 i1 j;unfold nL;split
  ·show(ln _ d).2.pend.length≤_;omega
  ·show(ln _ d).2.pend.length≤_;omega
 unfold mn
 repeat' split
 all_goals first|exact key _ _ _|(show d.pend.length≤_;omega)
theorem Wp (m:JM)(d:DS)(f:dF):(mw m d f).2.2.pend.length≤d.pend.length+7:=by
 have M:=CE (l8 ((m.cu*m.sz+m.en:Nat):Int) (ba (lJ f))) d;have O:(l8 ((m.cu*m.sz+m.en:Nat):Int) (ba (lJ f))).length=4:=rfl;unfold mw
 repeat' split
 all_goals first|(show(ln _ d).2.pend.length≤_;omega)|(show d.pend.length≤_;omega)
theorem WG (m:JM)(d:DS):(nz m d).2.2.pend.length≤d.pend.length+7:=by
 have M:=CE (nF m) d;have O:(nF m).length=6:=rfl;unfold nz
 repeat' split
 all_goals first|(show(ln _ d).2.pend.length≤_;omega)|(show d.pend.length≤_;omega)
theorem Xk (d:DS)(n:Int):(d.cutAt n).2.pend=d.pend:=by
 unfold DS.cutAt
 repeat' split
 all_goals rfl
theorem Rd (d:DS):((mn d).2.1=none∧(mn d).1≠0)∨∃m,(mn d).2.1=some m∧(mn d).1=0:=by
 have key:∀i0 i1 j,((nL i0 i1 j d).2.1=none∧(nL i0 i1 j d).1≠0)∨∃m,(nL i0 i1 j d).2.1=some m∧(nL i0 i1 j d).1=0:=fun i0 i1 j=>by
  unfold nL;split
  ·exact .inr ⟨_,rfl,rfl⟩
  ·next h=>exact .inl ⟨rfl,h⟩
 unfold mn
 repeat' split
 all_goals first|exact key _ _ _|exact .inl ⟨rfl,fun e=>by simp at e⟩
theorem JQ {w0:aj}{p q:OA}{b3 b4:Nat}{a b:List dF}(a2:pP (kY w0) p a)(a3:pP (kY w0) q b)(c7:a.length=b.length)(hm:a.length≤9223372036854775807):
  ∀(g i:Nat) (v:Bool),g+i=a.length→v=decide (a.drop i=b.drop i)→Aa p a.length b3 q b.length b4 (i:Int) w0 (fun e O=>e=.returned (.bool v)∧Below w0.heap.size w0 O)
 |0,i,v,hg,M=>by
  apply IQ;rw[ax (by omega),ax (by omega)]at M;have M:v=true:=by simpa using M
  refine no (by omega) (kQ ?_);rw[M]
 | g+1,i,v,hg,M=>by
  apply IQ;have V:i<a.length:=by omega
  have a1:i<b.length:=by omega
  obtain⟨a5,o1,c1,e1,b5,b6,tp,tc,bp,bc,ap,ac,b7,b9⟩:=a2.get V;obtain⟨B2,c8,b1,f1,c2,c3,d0,c9,a9,a8,a7,a6,c4,c5⟩:=a3.get a1;rw[decide_eq_decide.2 (Iff.of_eq (drop_eq V a1))]at M;refine yes (by omega) ⟨a5,o1,e1,by omega,c1,a[i],tp,tc,bp,bc,ap,ac,.inr b5,⟨by rw[ai];exact b7,by rw[ai];exact b6⟩,
   B2,c8,f1,by omega,b1,b[i],d0,c9,a9,a8,a7,a6,.inr c2,⟨by rw[ai];exact c4,by rw[ai];exact c3⟩,_,lV.pw fun O a4=>Jd (b9.mono (lK a4)) (c5.mono (lK a4)),fun h=>?_,fun h=>kQ ?_⟩
  ·have h:=of_decide_eq_true h
   rintro _ rfl;rw[kS (by omega),show(i:Int)+1=((i+1:Nat):Int)by omega,←e1,←f1];exact JQ a2 a3 c7 hm g (i+1) v (by omega) (by rw[M];simp[h])
  ·have h:=of_decide_eq_false h
   rw[M,decide_eq_false (fun c6=>h c6.1)]
theorem VS {W:aj}{p q:OA}{M O:Nat}{a b:List dF}(V:pP (kY W) p a)(a2:pP (kY W) q b)(hm:a.length≤9223372036854775807):
  PW TP 37 ⟨[.slice p a.length M,.slice q b.length O]⟩ W (.bool (decide (a=b))):=by
 refine O3 p a.length M q b.length O (Mem.start [] W) ⟨fun h=>kQ ?_,fun h=>JQ V a2 (by omega) hm a.length 0 _ (by omega) (by simp)⟩;rw[decide_eq_false];intro a1;subst a1;exact h rfl
theorem Vo {W:aj}{K D:Nat}{m:JM}{p:OA}{c:Nat}(h:W.heap[K]?=some (kJ K D (m.js p c)).2)(M:m.en≤m.sz)(O:m.sz≤4194304):PW TP 38 ⟨[pt K 0]⟩ W (.int .i64 ((m.sz-m.en:Nat):Int)):=
 PW.ro (x:=kJ K D (m.js p c)) (fun {R S w0 W} hm hf=>QY K D m.sz m.cu m.gen m.en p m.fs.length c m.br hm (by
  rintro _ rfl;rw[kS (by omega),show(m.sz:Int)-(m.en:Int)=((m.sz-m.en:Nat):Int)by omega];exact hf)) h
abbrev wH (WB D:Nat)(j:OA)(RD:Nat)(k:OA):Nat×Obj:=(WB,.cells #[.pointer (SO D),.pointer j,.pointer (SO RD),.pointer k] 67)
def WR (lk:Lk)(D RD:Nat)(j k:OA)(o:Option JM)(d:DS)(F:aX):Prop:=
 ∃Ld Lr,F.Perm (Ld++Lr)∧match o with
  |none=>j=none∧k=none∧DM D d Ld∧mQ RD d Lr
  |some m=>∃J K,j=some ⟨J,0,none⟩∧k=some ⟨K,0,none⟩∧JD J D m d Ld∧KD lk K RD m d Lr
theorem KD.rr {lk:Lk}{K D:Nat}{m:JM}{d:DS}{L:aX}(h:KD lk K D m d L):mQ D d L:=by
 obtain⟨F,p,c,T,M,O,V⟩:=h;exact O.less (X:=kJ K D (m.js p c)::T) (M.trans (K4 _ _ _))
theorem KD.mono {lk M:Lk}{K D:Nat}{m:JM}{d:DS}{L:aX}(h:KD lk K D m d L)(a2:∀b c,lk b c→M b c):KD M K D m d L:=by
 obtain⟨F,p,c,T,O,V,a1⟩:=h;exact⟨F,p,c,T,O,V,a1.mono a2⟩
section wr
variable {lk:Lk}{WB D RD:Nat}{j k:Option Addr}{o:Option JM}{d:DS}{F:aX}
theorem WR.parts (h:WR lk D RD j k o d F):∃Fd O M,F.Perm ((Fd++O)++M)∧mV D d Fd∧mQ RD d M:=by
 obtain⟨a6,M,a3,a4⟩:=h;cases o with
 |none=>
  obtain⟨-,-,⟨Fd,O,V,a1⟩,a2⟩:=a4;exact⟨Fd,O,M,a3.trans (V.append_right M),a1,a2⟩
 |some m=>
  obtain⟨J,K,-,-,V,a1⟩:=a4;obtain⟨Fd,O,a2,a5⟩:=V.dm;exact⟨Fd,O,M,a3.trans (a2.append_right M),a5,a1.rr⟩
theorem WR.Hd (h:WR lk D RD j k o d F):∃Fd Fr T,F.Perm (Fd++(Fr++T))∧mV D d Fd∧mQ RD d Fr∧∀O V d' F',F'.Perm (O++(V++T))→mV D d' O→mQ RD d' V→WR lk D RD j k o d' F':=by
 obtain⟨b9,b4,b1,b3⟩:=h;cases o with
 |none=>
  obtain⟨rfl,rfl,⟨Fd,a4,a5,a6⟩,a7⟩:=b3;refine⟨Fd,b4,a4,?_,a6,a7,fun O V d' F' hp a8 a9=>⟨O++a4,V,?_,rfl,rfl,⟨O,a4,ah _,a8⟩,a9⟩⟩
  ·exact lR fun c w g1 a1 a2 M=>by
    have:=M _ _ b1;have:=M _ _ a5;simp only[g1,a1,a2]at*;omega
  ·exact lR fun c w g1 a1 a2 M=>by
    have:=M _ _ hp;simp only[g1,a1,a2]at*;omega
 |some m=>
  obtain⟨J,K,rfl,rfl,⟨Fd,p,c,T,a5,a6,a7⟩,Fr,p',c',a3,b5,b6,b7⟩:=b3;refine⟨Fd,Fr,jH J D (m.js p c)::kJ K RD (m.js p' c')::(T++a3),?_,a6,b6,fun O V d' F' hp a8 a9=>⟨jH J D (m.js p c)::(O++T),kJ K RD (m.js p' c')::(V++a3),?_,J,K,rfl,rfl,⟨O,p,c,T,ah _,a8,a7⟩,V,p',c',a3,ah _,a9,b7⟩⟩
  ·exact lR fun c w g1 a1 a2 M=>by
    have:=M _ _ b1;have:=M _ _ a5;have:=M _ _ b5;simp only[g1,a1,a2]at*;omega
  ·exact lR fun c w g1 a1 a2 M=>by
    have:=M _ _ hp;simp only[g1,a1,a2]at*;omega
theorem tB {L0 L:aX}{S:List Nat}{w0 W:aj}(O:sK lk S w0)(hm:Mem L S w0 W)(V:∀x∈L0,x∈L):sK lk (L0.map (·.1)) W:=fun b c M=>pH hm V b c (O b c M)
section perms
variable (x y z:Nat×Obj)(A F T X N L Z G:aX)
theorem YI (h:F.Perm ((G++T)++L)):(G++(x::(T++L))).Perm (x::F):=lR fun c w M O V a1=>by
 have:=a1 _ _ h;simp only[M,O,V]at this ⊢;omega
theorem Lw:(G++(x::(T++L))).Perm (x::(L++(G++T))):=perm_a
theorem BJ:(L++(x::G)).Perm (x::(L++G)):=cI
end perms
theorem FA (h:WR lk D RD j k o d F)(hp:d.pend.length<900000)(b3:lk 0 mH):
  m0 TP 32 ⟨[pt WB 0]⟩ (wH WB D j RD k::F) (sK lk ((wH WB D j RD k::F).map (·.1)))
   (fun v L'=>v=.bool true∧∃a7 k' F',L'=wH WB D a7 RD k'::F'∧WR lk D RD a7 k' (mn d).2.1 (mn d).2.2 F'):=by
 obtain⟨Fd,M,V,a3,a8,a9⟩:=h.parts;intro W b5 b7;generalize (wH WB D j RD k::F).map (·.1)=S at*;refine VO WB D j RD k F b5 ?_;refine eA.nX (L0:=Fd) (L1:=wH WB D j RD k::(M++V)) (HO a8 hp) (fun c4 b4=>?_) ?_ ?_
 ·have:=tB (L0:=Fd) b7 b4 (fun x b9=>ag _ (a3.mem_iff.2 (ay _ (ay _ b9)))) 0 mH b3
  exact this
 ·exact YI _ _ _ _ _ a3
 intro v L' a5;have a6:=Pl a9 hp;have a4:=Rd d;generalize mn d=r at*;obtain⟨e,c3,d'⟩:=r;cases c3 with
 | none=>
  obtain⟨rfl,F',X,k1,c2⟩:=a5;have b6:e≠0:=by
   rcases a4 with h|⟨m,h,_⟩
   ·exact h.2
   ·cases h
  refine⟨_,Lw _ _ _ _,none,e,_,rfl,rfl,eA.lF (L0:=V) (L1:=wH WB D j RD k::(L'++M)) a6 (BJ _ _ _) ?_⟩;rintro _ O ⟨rfl,a2⟩;refine⟨_,BJ _ _ _,none,e,_,rfl,rfl,fun _=>⟨fun _=>⟨fun _=>kR ⟨rfl,none,none,_,rfl,L'++M,O,aw,rfl,rfl,⟨F',X++M,?_,c2⟩,a2⟩,fun h=>absurd h (by decide)⟩,fun a1=>absurd a1 b6⟩,fun h=>absurd rfl h⟩;rw[←an];exact k1.append_right M
 | some m=>
  have a1:e=0:=by
   rcases a4 with h|⟨m,_,h⟩
   ·cases h.1
   ·exact h
  subst a1;obtain⟨J,rfl,b1⟩:=a5;refine⟨_,Lw _ _ _ _,some ⟨J,0,none⟩,0,_,rfl,rfl,eA.lF (L0:=V) (L1:=wH WB D j RD k::(L'++M)) a6 (BJ _ _ _) ?_⟩;rintro _ O ⟨K,rfl,a2⟩;refine⟨_,BJ _ _ _,some ⟨K,0,none⟩,0,_,rfl,rfl,fun _=>⟨fun h=>absurd rfl h,fun _=>⟨fun h=>(by cases h),fun _=>kR ⟨rfl,_,_,_,rfl,L'++M,O,aw,J,K,rfl,rfl,(b1.more M).perm aw,a2.mono fun b c h=>h.elim⟩⟩⟩,fun h=>absurd rfl h⟩
end wr
section perms
variable (x y z u:Nat×Obj)(A F T X N L Z G:aX)
theorem Cr (h:F.Perm (G++(L++T))):(G++(x::y::(L++T))).Perm (x::y::F):=lR fun c w M O V a1=>by
 have:=a1 _ _ h;simp only[M,O,V]at this ⊢;omega
theorem LM:(G++(x::y::(L++T))).Perm (x::y::(G++(L++T))):=perm_a
theorem J3:(L++(x::y::(G++T))).Perm (x::y::(G++(L++T))):=perm_a
theorem AA:(x::y::F).Perm (y::(x::F)):=dg _ _ _
theorem JA:((y::F)++[x]).Perm (x::y::F):=aw
theorem K0 (h:F.Perm (G++L)):(G++(x::y::L)).Perm (x::y::F):=lR fun c w M O V a1=>by
 have:=a1 _ _ h;simp only[M,O,V]at this ⊢;omega
theorem OY:(G++(x::y::L)).Perm (x::y::(G++L)):=perm_a
theorem ZA:(L++(x::y::G)).Perm (x::y::(G++L)):=perm_a
theorem Ib (h:F.Perm (G++L)):(G++(z::x::y::L)).Perm (z::x::y::F):=lR fun c w M O V a1=>by
 have:=a1 _ _ h;simp only[M,O,V]at this ⊢;omega
theorem Sp:(G++(z::x::y::L)).Perm (z::x::y::(G++L)):=perm_a
theorem WZ:(L++(z::x::y::G)).Perm (z::x::y::(G++L)):=perm_a
theorem Ue:(z::x::y::F).Perm (y::z::x::F):=lR fun c w M O V a1=>by simp only[M];omega
end perms
theorem Is {lk:Lk}{S:List Nat}{W:aj}{kp:OA}{ks:List Int}(h:lX lk kp ks)(a1:sK lk S W):ve S W kp ks:=fun hp=>by
 obtain⟨b,o,c,M,O,V⟩:=h hp;obtain⟨k1,a2⟩:=a1 b c O;exact⟨b,o,c,M,k1,a2,V⟩
section does
variable {lk:Lk}{WB D RD:Nat}{j k:Option Addr}{o:Option JM}{d:DS}{F:aX}{S:List Nat}{w0:World}
def Db (lk:Lk)(WB D RD:Nat)(d:DS)(v:aa)(L':aX):Prop:=
 v=.bool true∧∃j' k' o' d' F',L'.Perm (wH WB D j' RD k'::F')∧WR lk D RD j' k' o' d' F'∧(∀m,o'=some m→nQ m)∧d'.pend.length≤d.pend.length+7
theorem WR.more {X F':aX}(h:WR lk D RD j k o d F)(a5:F'.Perm (X++F)):WR lk D RD j k o d F':=by
 obtain⟨O,V,a4,M⟩:=h;refine⟨X++O,V,?_,?_⟩
 ·rw[an];exact a5.trans (a4.append_left X)
 ·cases o with
  |none=>exact⟨M.1,M.2.1,M.2.2.1.more X,M.2.2.2⟩
  |some m=>
   obtain⟨J,K,e1,a1,a2,a3⟩:=M;exact⟨J,K,e1,a1,a2.more X,a3⟩
theorem eA.LI {x:Nat×Obj}{K':aa→aX→Prop}(h:WR lk D RD j k o d F)(hp:d.pend.length<900000)(V:lk 0 mH)(a2:sK lk S w0)
  (O:∀M k' F',WR lk D RD M k' (mn d).2.1 (mn d).2.2 F'→K' (.bool true) (x::wH WB D M RD k'::F')):
  eA TP 32 ⟨[pt WB 0]⟩ (x::wH WB D j RD k::F) S w0 K':=by
 refine eA.nX (L0:=wH WB D j RD k::F) (L1:=[x]) (FA h hp V) (fun a5 a1=>tB a2 a1 fun y a4=>ag _ a4) (JA _ _ _) ?_;rintro _ _ ⟨rfl,M,k',F',rfl,a3⟩;exact⟨_,JA _ _ _,O M k' F' a3⟩
theorem Nn {O k':OA}{F':aX}{x:Nat×Obj}{M:DS}(V:mj M)(a2:M.pend.length≤d.pend.length)(a1:WR lk D RD O k' (mn M).2.1 (mn M).2.2 F'):
  Db lk WB D RD d (.bool true) (x::wH WB D O RD k'::F'):=
 ⟨rfl,O,k',(mn M).2.1,(mn M).2.2,x::F',AA _ _ _,a1.more (X:=[x]) (ah _),fun m hm=>EA V hm,by have:=EO M;omega⟩
theorem QW {x:sW}{c3 b9 b6 d2:OA}{c2 b7 b5 e9:Nat}(h:WR lk D RD j k o d F)(hm:∀m,o=some m→nQ m)(hp:d.pend.length<800000)(c9:lk 0 mH)(e6:lv lk x.f c3 c2 b9 b7 b6 b5)
  (e2:lX lk d2 x.lH)(d9:x.lH.length≤9223372036854775807)(hc:i64 x.call)(hn:i64 x.num):
  m0 TP 33 ⟨[pt WB 0,.agg ⟨.int .i64 x.call::(x.f.cells c3 c2 b9 b7 b6 b5++[.int .i64 x.num,.slice d2 x.lH.length e9])⟩]⟩ (wH WB D j RD k::F) (sK lk ((wH WB D j RD k::F).map (·.1))) (Db lk WB D RD d):=by
 obtain⟨Fd,Fr,T,c6,c7,d6,d7⟩:=h.Hd;intro W f5 a5;generalize (wH WB D j RD k::F).map (·.1)=S at*;have f2:mj d:=c7.1;have e5:∀(d':DS),d'.pend=d.pend→d'.pend.length≤d.pend.length+7:=fun d' e=>by rw[e];omega
 refine YS WB x c3 c2 b9 b7 b6 b5 d2 e9 D j RD k F f5 fun B=>?_
 refine eA.pure (uW x.call 9 hc (by decide)) ⟨_,rfl,rfl,fun _=>?_,fun _=>⟨fun _=>?_,fun _=>⟨fun _=>?_,fun _=>⟨fun c8=>?_,fun c8=>?_⟩⟩⟩⟩
 ·
  refine eA.pure (uW x.num 9 hn (by decide)) ⟨_,rfl,rfl,?_⟩;have f4:=eC (qv x.num) (show 9>0 by decide);have e3:=uW x.num 9 hn (by decide);generalize qv x.num%9=q at f4 e3 ⊢;have d5:ab.wrap (1+(q:Int))=1+(q:Int):=kS (by omega);rw[d5];refine eA.lF (L0:=Fd) (L1:=_::wH WB D j RD k::(Fr++T)) (Qi c7 (n:=1+(q:Int)) (by omega)) (Cr _ _ _ _ _ _ c6) ?_;rintro _ a7 ⟨rfl,b4⟩;refine⟨_,LM _ _ _ _ _,_,_,rfl,rfl,eA.pure e3 ⟨_,rfl,rfl,?_⟩⟩;rw[d5];refine eA.lF (L0:=Fr) (L1:=_::wH WB D j RD k::(a7++T)) (SG d6 (n:=1+(q:Int)) (by omega)) (Cr _ _ _ _ _ _ (fg _ _ _)) ?_;rintro _ c4 ⟨rfl,d0⟩;refine⟨_,J3 _ _ _ _ _,_,_,rfl,rfl,kR ⟨by rw[decide_eq_true rfl],j,k,o,_,_,AA _ _ _,(d7 a7 c4 _ _ (ah _) b4 d0).more (X:=[_]) (ah _),hm,e5 _ (Xk _ _)⟩⟩
 ·
  refine eA.nX (L0:=Fd) (L1:=_::wH WB D j RD k::(Fr++T)) (MC c7 (by omega) d9 x.num) (fun O M=>Is e2 (tB a5 M fun y a3=>ag _ (ag _ (c6.mem_iff.2 (ay _ a3))))) (Cr _ _ _ _ _ _ c6) ?_;rintro _ a7 ⟨rfl,b4⟩;refine⟨_,LM _ _ _ _ _,_,_,rfl,rfl,?_⟩;refine eA.nX (L0:=Fr) (L1:=_::wH WB D j RD k::(a7++T)) (IL d6 (by omega) d9 x.num) (fun O M=>Is e2 (tB a5 M fun y a3=>by simp[a3])) (Cr _ _ _ _ _ _ (fg _ _ _)) ?_;rintro _ c4 ⟨rfl,d0⟩;refine⟨_,J3 _ _ _ _ _,_,rfl,rfl,?_⟩;have b1:=d7 a7 c4 _ _ (ah _) b4 d0;exact eA.LI b1 (by show 0<900000;decide) c9 a5 fun f6 k' F' b1=>⟨_,_,_,_,rfl,rfl,kR (Nn b4.1 (bx _) b1)⟩
 ·exact eA.LI h (by omega) c9 a5 fun f6 k' F' b1=>⟨_,_,_,_,rfl,rfl,kR (Nn f2 (aD _) b1)⟩
 ·
  cases o with
  |some m=>
   obtain⟨a8,a2,-,J,K,rfl,-⟩:=h;cases c8
  |none=>
   have f3:j=none:=by obtain⟨a8,a2,-,h,-⟩:=h;exact h
   subst f3;exact eA.pure UX ⟨_,_,rfl,rfl,fun _=>eA.pure RR ⟨_,_,rfl,rfl,kR ⟨rfl,none,k,none,d,_,AA _ _ _,h.more (X:=[_]) (ah _),hm,e5 _ rfl⟩⟩,fun h=>absurd rfl h⟩
 ·cases o with
  |none=>
   obtain⟨a8,a2,-,rfl,-⟩:=h;cases c8
  | some m=>
   have a4:=hm m rfl;obtain⟨a8,a2,b3,J,K,rfl,rfl,e7,d1⟩:=h;have sub:∀{O:aj} {A:aX} {L:aX},Mem L S W O→(∀y∈A,y∈L)→xL lk (A.map (·.1)) O:=fun M e4=>⟨tB a5 M e4 0 mH c9,tB a5 M e4⟩
   refine eA.pure (uW x.call 9 hc (by decide)) ⟨_,rfl,rfl,fun _=>?_,fun _=>?_⟩
   ·refine eA.nX (L0:=a8) (L1:=_::wH WB D _ RD _::a2) (Ks e7 a4 (by omega)) (fun O M=>⟨(sub M fun y a3=>ag _ (ag _ (b3.mem_iff.2 (ay _ a3)))).1,fun b c h=>h.elim⟩) (K0 _ _ _ _ _ b3) ?_
    rintro _ a1 ⟨rfl,g1⟩;refine⟨_,OY _ _ _ _,_,_,rfl,rfl,?_⟩;refine eA.nX (L0:=a2) (L1:=_::wH WB D _ RD _::a1) (Un d1 a4 (by omega)) (fun O M=>(sub M fun y a3=>by simp[a3]).2) (K0 _ _ _ _ _ aw) ?_;rintro _ a9 ⟨rfl,c5⟩;refine⟨_,ZA _ _ _ _,_,_,rfl,rfl,kR ⟨by rw[decide_eq_true rfl],_,_,some (nz m d).2.1,(nz m d).2.2,_,AA _ _ _,WR.more (F:=a1++a9) (X:=[_]) ⟨a1,a9,ah _,J,K,rfl,rfl,g1,c5⟩ (ah _),fun f7 M=>?_,WG m d⟩⟩;rw[←bY M];exact PH a4 d
   ·have go:∀{f:dF} {tp bp ap:OA} {tc bc ac:Nat} (V:Nat) (y:Nat×Obj),lv lk f tp tc bp bc ap ac→
      eA TP 16 #[pt J 0,.agg ⟨f.cells tp tc bp bc ap ac⟩] (fH V (f.cells tp tc bp bc ap ac)::y::wH WB D (SO J) RD (SO K)::F) S W (fun v L=>∃(r1:Int) (d4:aX),v=.int .i64 r1∧L=fH V (f.cells tp tc bp bc ap ac)::y::wH WB D (SO J) RD (SO K)::d4∧
       eA TP 76 #[pt K 0,.agg ⟨f.cells tp tc bp bc ap ac⟩] (fH V (f.cells tp tc bp bc ap ac)::y::wH WB D (SO J) RD (SO K)::d4) S W (fun v L=>∃(e8:Int) (d3:aX),v=.int .i64 e8∧L=fH V (f.cells tp tc bp bc ap ac)::y::wH WB D (SO J) RD (SO K)::d3∧
        Fin (fun e O=>∃v L',e=.returned v∧Mem L' S W O∧Db lk WB D RD d v L') (fH V (f.cells tp tc bp bc ap ac)::y::wH WB D (SO J) RD (SO K)::d3) S W (.bool (decide (r1=e8))))):=by
     intro f tp bp ap tc bc ac V y d8;refine eA.nX (L0:=a8) (L1:=_::y::wH WB D _ RD _::a2) (Hf e7 a4 (by omega) d8) (fun O M=>sub M fun z a6=>by simp[b3.mem_iff,a6]) (Ib _ _ _ _ _ _ b3) ?_;rintro _ a1 ⟨rfl,g1⟩;refine⟨_,Sp _ _ _ _ _,_,_,rfl,rfl,?_⟩;refine eA.nX (L0:=a2) (L1:=_::y::wH WB D _ RD _::a1) (RM d1 a4 (by omega) d8) (fun O M=>(sub M fun z a6=>by simp[a6]).2) (Ib _ _ _ _ _ _ aw) ?_;rintro _ a9 ⟨rfl,c5⟩;refine⟨_,WZ _ _ _ _ _,_,_,rfl,rfl,kR ⟨by rw[decide_eq_true rfl],_,_,some (mw m d f).2.1,(mw m d f).2.2,_,Ue _ _ _ _,WR.more (F:=a1++a9) (X:=[_,_]) ⟨a1,a9,ah _,J,K,rfl,rfl,g1,c5⟩ (ah _),fun f7 M=>?_,Wp m d f⟩⟩;rw[←bY M];exact Vg a4 d f
    refine eA.pure (QG e6.cb) ⟨u0 x.f,c3,c2,b9,b7,b6,b5,rfl,rfl,fun V=>?_⟩;have a6:=Zc e6;refine eA.pure (uW x.call 9 hc (by decide)) ⟨_,rfl,rfl,fun _=>?_,fun _=>go V _ a6⟩;obtain⟨f8,p,c,f9,k1,g2,g3⟩:=d1;exact⟨K,rfl,_,p,m.fs.length,c,⟨_,_,ag _ (ag _ (ag _ (b3.mem_iff.2 (ak _ (k1.mem_iff.2 au)))))⟩,rfl,go (f:={u0 x.f with n:=ab.wrap ((m.fs.length:Int)+1)}) V _ (Ta a6 _)⟩
end does
noncomputable def Ap (s:Int)(q t:BA)(j:OA)(i h:Nat)(c d:Int)(a:Nat)(p:Bool)(e o:OA)(f:Int)(ok:Bool)(g:Int)(k l m n:OA)(b:aX):Cut:=⟨TP,[],7,180,(KC jY 130900),[(3,.slice j i h),(4,IV c),(5,.int .u8 d),(13,.bool p),(14,.pointer e),(16,.pointer o),(18,PP a),(19,IV f),(20,.bool ok),(21,IV g)],((a,.cells #[.pointer k,.pointer l,.pointer m,.pointer n] 67)::b)⟩
noncomputable def Wf (n:Int)(j o:BA)(m:OA)(l k:Nat)(h i:Int)(a:Nat)(g:Bool)(c f d e:OA)(b:aX):Cut:=⟨TP,[],7,180,(KC jY 1023),[(13,.bool g),(14,.pointer c),(16,.pointer f),(18,PP a)],((a,.cells #[.pointer d,.pointer none,.pointer e,.pointer none] 67)::b)⟩
noncomputable def xC (q:Int)(m s:BA)(p:OA)(o n:Nat)(c d:Int)(a:Nat)(l:Bool)(e k:OA)(f:Int)(g h i j:OA)(b:aX):Cut:=⟨TP,[],7,180,(KC jY 16363),[(4,IV c),(5,.int .u8 d),(13,.bool l),(14,.pointer e),(16,.pointer k),(18,PP a),(19,IV f)],((a,.cells #[.pointer g,.pointer h,.pointer i,.pointer j] 67)::b)⟩
noncomputable def Ei (p:Int)(l q:BA)(o:OA)(n m:Nat)(j k:Int)(a:Nat)(i:Bool)(c h d e f g:OA)(b:aX):Cut:=⟨TP,[],7,180,(KC jY 1023),[(13,.bool i),(14,.pointer c),(16,.pointer h),(18,PP a)],((a,.cells #[.pointer d,.pointer e,.pointer f,.pointer g] 67)::b)⟩
abbrev kAqq (x0 x1 x2 x3 x4):=((x0,.cells #[.pointer x1,.pointer x2,.pointer x3,.pointer x4] 67):Nat×Obj)
theorem Kl (s:Int)(n u:BA)(i:OA)(d h:Nat)(k l:Int)(b:Nat)(w:Bool)(m t:OA)(o:Int)(ok:Bool)(c:Int)(e p g q:OA)(j:aX)(H:VP [] w0 R (.hp ((kAqq b e p g q)::j) fun y=>.P 8 65 (c<(d:Int)) (.P 4 69 (c<10) (.B 3 71 ok (.r 8<|.x2 fun z x=>.iP i z x d h 26 c (x+((ad c)*26))<|.x5 fun cw (a:sW) m4_ftp m4_ftc m4_fbp=>.x5 fun D C A F E=>.Di y z (x+((ad c)*26)) 26 57 cw [IV a.call,IV a.f.n,IV a.f.time,IV a.f.kind,IV a.f.story,.string a.f.lang,IV a.f.rev,IV a.f.base,.string a.f.title,.string a.f.author,.slice m4_ftp a.f.topics.length m4_ftc,.slice m4_fbp a.f.blocks.length D,IV a.f.lab.unt,.slice C a.f.lab.after.length A,IV a.f.lab.appr,IV a.f.lab.den,IV a.f.editor,IV a.f.block,IV a.f.sentence,.string a.f.text,.string a.f.name,IV a.f.partner,IV a.f.cls,IV a.f.unt,IV a.num,.slice F a.lH.length E]<|.cl 0 33 [PP b,.agg #[IV a.call,IV a.f.n,IV a.f.time,IV a.f.kind,IV a.f.story,.string a.f.lang,IV a.f.rev,IV a.f.base,.string a.f.title,.string a.f.author,.slice m4_ftp a.f.topics.length m4_ftc,.slice m4_fbp a.f.blocks.length D,IV a.f.lab.unt,.slice C a.f.lab.after.length A,IV a.f.lab.appr,IV a.f.lab.den,IV a.f.editor,IV a.f.block,IV a.f.sentence,.string a.f.text,.string a.f.name,IV a.f.partner,IV a.f.cls,IV a.f.unt,IV a.num,.slice F a.lH.length E]] y<|.x4 fun r161 (G M:OA) F10=>.rt (.bool r161) ((kAqq b e G g M)::F10)<|.li 7 21 (ab.wrap (c+1)) fun N=>.cT 2 [0] 1 (Ap s n u i d h k l b w m t o r161 N e G g M F10))<|.cT 2 [0] 1 (xC s n u i d h k l b w m t o e p g q j))<|.cT 5 [0] 1 (xC s n u i d h k l b w m t o e p g q j))<|.cT 9 [0] 1 (xC s n u i d h k l b w m t o e p g q j))):Ap s n u i d h k l b w m t o ok c e p g q j w0 R:=VC.go ir _ H
theorem RJ (x:Int)(s A:BA)(w:OA)(u t:Nat)(g f:Int)(a:Nat)(C:Bool)(h i:OA)(l:Int)(b c d e:OA)(o:aX)(H:VP [] w0 R (.cl 3 34 [.pointer h,.slice none 0 0,IV (-1:Int)] ((kAqq a b c d e)::o)<|.x2 fun D p=>.rt (IV D) ((kAqq a b c d e)::p)<|.cl 4 35 [.pointer i,.slice none 0 0,IV (-1:Int)] ((kAqq a b c d e)::p)<|.ex fun j=>.rt (.tuple #[]) ((kAqq a b c d e)::j)<|.r 2<|.dD<|.nm [4,5,13,14,16,18,19]<|.ph 9 [0,1,2,3,4,5] [6,7,8] 1<|.qu [4]<|.ex fun y=>.qc 17 [IV g,IV (ab.wrap (2*l))] [(kAqq a b c d e)] (IV y)<|.qu [1]<|.dn<|.n2 1 (.cells #[.int .u8 f] 5) fun m=>.t1 m 5 5 1 f ((kAqq a b c d e)::j)<|.cl 22 [.pointer h,IV y,.string (⟨#[bg (ad f)]⟩:BA)] (((kAqq a b c d e)::j)++[(m,.cells #[.int .u8 f] 5)])<|.x2 fun E k=>.rt (IV E) ((kAqq a b c d e)::k)<|.dn<|.tl<|.r 1<|.dD<|.nm [4,5,13,14,16,18,19]<|.ph 9 [0,1,2,3,4,5] [6,7,8] 1<|.qu [4]<|.ex fun z=>.qc 17 [IV g,IV (ab.wrap (2*l))] [(kAqq a b c d e)] (IV z)<|.qu [1]<|.dn<|.n2 1 (.cells #[.int .u8 f] 5) fun n=>.t1 n 5 5 1 f ((kAqq a b c d e)::k)<|.cl 36 [.pointer i,IV z,.string (⟨#[bg (ad f)]⟩:BA)] (((kAqq a b c d e)::k)++[(n,.cells #[.int .u8 f] 5)])<|.x2 fun F q=>.rt (IV F) ((kAqq a b c d e)::q)<|.dn<|.tl<|.cT 1 [0] 1 (Ei x s A w u t g f a C h i b c d e q))):xC x s A w u t g f a C h i l b c d e o w0 R:=VC.go ir _ H
abbrev kAiq (x0 x1 x2 x3 x4 x5 x6 x7 x8 x9 x10 x11 x12 x13 x14 x15 x16 x17 x18 x19 x20 x21):=((x0,.cells #[.pointer x1,PP x2,.pointer x3,PP x4] 67)::(x2,.cells #[IV x5,.slice x6 x7 x8,IV x9,.pointer x1,IV x10,IV x11,.bool x12] 86)::(x4,.cells #[.pointer x3,IV x13,IV x14,IV x15,IV x16,.slice x17 x18 x19,.bool x20] 72)::x21:aX)
abbrev kEcq (x0 x1 x2 x3 x4 x5 x6 x7 x8 x9 x10 x11 x12 x13 x14 x15 x16 x17 x18 x19 x20 x21 x22 x23):=((x0,.cells #[.pointer x1,PP x2,.pointer x3,PP x4] 67)::(x2,.cells #[IV x5,.slice x6 x7 x8,IV x9,.pointer x1,IV x10,IV x11,.bool x12] 86)::(x4,.cells #[.pointer x3,IV x13,IV x14,IV x15,IV x16,.slice x17 x18 x19,.bool x20] 72)::(x21,.cells ⟨x22⟩ 5)::x23:aX)
theorem Wy (b4:Int)(a9 b5:BA)(b3:OA)(b1 b0:Nat)(a7 a8:Int)(e:Nat)(t:Bool)(F X a U b V:OA)(A:aX)(H:VP [] w0 R (.cl 3 32 [PP e] ((kAqq e a U b V)::A)<|.x4 fun r341 (x a6:OA) F22=>.rt (.bool r341) ((kAqq e a x b a6)::F22)<|.hp ((kAqq e a x b a6)::F22) fun w=>.B 7 119 r341 (.ru [3,200]<|.pe true 29 86 x<|.B 2 125 (!x.isNone) (.r 2<|.x5 fun c d n m l=>.x5 fun k j s i h=>.x5 fun q o f p g=>.x4 fun hl1 hc1 hbr1 (C:aX)=>.rp w (kAiq e a c b d n m l k j s i h q o f p g hl1 hc1 hbr1 C)<|.dD<|.nm [13,14,16,18]<|.ph 12 [0,1,2,3,5,6,7,8,9,10,11] [4] 3<|.qu [3,100,3,100,2,102]<|.dn<|.cl 15 [PP c] (kAiq e a c b d n m l k j s i h q o f p g hl1 hc1 hbr1 C)<|.x4 fun a0 Z Y u=>.rt (.slice a0 Z Y) (kAiq e a c b d n m l k j s i h q o f p g hl1 hc1 hbr1 u)<|.hp (kAiq e a c b d n m l k j s i h q o f p g hl1 hc1 hbr1 u) fun G=>.dn<|.tl<|.cl 0 37 [.slice a0 Z Y,.slice g hl1 hc1] G<|.ex fun a1=>.rt (.bool a1) G<|.r 2<|.dD<|.nm [13,14,16,18,23]<|.ph 33 [0,1,2,3,4,5,6,7,8,9,10,11,12,13,14,15,16,17,18,19,20,21,22,23,24,25,26,27,28,29,30,32] [31] 3<|.hp [(e,.cells #[.pointer a,PP c,.pointer b,PP d] 67),(c,.cells #[IV n,.slice m l k,IV j,.pointer a,IV s,IV i,.bool h] 86),(d,.cells #[.pointer b,IV q,IV o,IV f,IV p,.slice g hl1 hc1,.bool hbr1] 72)] fun y=>.qu [2]<|.zB 140 a1 (.qu [3,100]<|.ex fun a2=>.qc 23 [PP c] y (IV a2)<|.qu [3,100]<|.ex fun a3=>.qc 38 [PP d] y (IV a3)<|.qu [3]<|.zP 153 (a2=a3) (.qu [3,100]<|.ex fun a4=>.qc 26 [PP c] y (IV a4)<|.qu [3,100,2,102,3]<|.zP 168 (a4=f) (.qu [2]<|.dn<|.cl 21 [.pointer F] (kAiq e a c b d n m l k j s i h q o f p g hl1 hc1 hbr1 u)<|.x2 fun a5 D=>.rt (.string a5) (kAiq e a c b d n m l k j s i h q o f p g hl1 hc1 hbr1 D)<|.dn<|.tl<|.cl 0 39 [.pointer X] (kAiq e a c b d n m l k j s i h q o f p g hl1 hc1 hbr1 D)<|.x5 fun vb1 vn1 vc1 (z:List aa) F26=>.rt (.slice (SO vb1) vn1 vc1) (kEcq e a c b d n m l k j s i h q o f p g hl1 hc1 hbr1 vb1 z F26)<|.hp (kEcq e a c b d n m l k j s i h q o f p g hl1 hc1 hbr1 vb1 z F26) fun M=>.ex fun(E:List UInt8)=>.tG 3 vb1 5 0 vn1 vc1 z E<|.B 8 177 t (.re 4 (.bool (a5.toList==(⟨E.toArray⟩:BA).toList)) M)<|.re 4 (.bool false) M)<|.qu [2]<|.dn<|.st 0<|.hp (kAiq e a c b d n m l k j s i h q o f p g hl1 hc1 hbr1 u) fun N=>.dn<|.tl<|.B 10 177 t (.re 4 (.bool false) N)<|.re 4 (.bool false) N)<|.qu [17]<|.dn<|.st 0<|.hp (kAiq e a c b d n m l k j s i h q o f p g hl1 hc1 hbr1 u) fun O=>.dn<|.tl<|.B 10 177 t (.re 4 (.bool false) O)<|.re 4 (.bool false) O)<|.qu [30]<|.dn<|.st 0<|.hp (kAiq e a c b d n m l k j s i h q o f p g hl1 hc1 hbr1 u) fun Q=>.dn<|.tl<|.B 10 177 t (.re 4 (.bool false) Q)<|.re 4 (.bool false) Q)<|.B 6 177 t (.re 4 (.bool r341) w)<|.re 4 (.bool false) w)<|.B 13 177 t (.re 4 (.bool r341) w)<|.re 4 (.bool false) w)):Ei b4 a9 b5 b3 b1 b0 a7 a8 e t F X a U b V A w0 R:=VC.go ir _ H
abbrev kBeq (x0 x1 x2 x3):=((x0,.cells #[.pointer x1,.pointer none,.pointer x2,.pointer none] 67)::x3:aX)
theorem X6 (g:Int)(d e:BA)(n:OA)(j m:Nat)(k l:Int)(f:aX)(hm:Mem (f) [] w0 W)(H:VP [] w0 R (.cl 6 10 [] (f)<|.ex fun o=>.rt (.bool o) (f)<|.cl 5 12 [IV g] (f)<|.ex fun x=>.rt (IV x) (f)<|.cl 0 11 [IV x] (f)<|.x3 fun(a:OA) r41 (h:aX)=>.rt (kDgq a r41) (h)<|.cl 9 12 [IV g] (h)<|.ex fun y=>.rt (IV y) (h)<|.cl 0 31 [IV y] (h)<|.x3 fun(b:OA) r71 (p:aX)=>.rt (kDgq b r71) (p)<|.nf 11 (.cells #[.pointer a,.pointer none,.pointer b,.pointer none] 67) fun B=>.hp (kBeq B a b p) fun i=>.cl 5 12 [IV g] i<|.ex fun z=>.rt (IV z) i<|.li 2 19 (ab.wrap (z.tdiv 2)) fun c=>.r 8<|.ss d 0 (if c<(d.size:Int)then c else(d.size:Int))<|.ls 1 1 (d.extract 0 (ad (if c<(d.size:Int)then c else(d.size:Int)))) fun w=>.r 8<|.ss e 0 (if c<(e.size:Int)then c else(e.size:Int))<|.ls 1 2 (e.extract 0 (ad (if c<(e.size:Int)then c else(e.size:Int)))) fun A=>.P 8 58 (0<(j:Int)) (.cl 4 32 [PP B] i<|.x4 fun r91 (C D:OA) F3=>.rt (.bool r91) ((kAqq B a C b D)::F3)<|.cT 9 [0] 1 (Ap g d e n j m k l B o a b c r91 0 a C b D F3))<|.cl 5 22 [.pointer a,IV 0,.string w] i<|.x2 fun E q=>.rt (IV E) (kBeq B a b q)<|.cl 5 36 [.pointer b,IV 0,.string w] (kBeq B a b q)<|.x2 fun F s=>.rt (IV F) (kBeq B a b s)<|.cl 6 22 [.pointer a,IV c,.string A] (kBeq B a b s)<|.x2 fun G t=>.rt (IV G) (kBeq B a b t)<|.cl 5 36 [.pointer b,IV c,.string A] (kBeq B a b t)<|.x2 fun M u=>.rt (IV M) (kBeq B a b u)<|.cT 1 [0] 1 (Wf g d e n j m k l B o a b a b u))):aE TP 7 ⟨[IV g,.string d,.string e,.slice n j m,IV k,.int .u8 l]⟩ W R:=VC.cs ir hm _ H
theorem Vr {lk:Lk}{p:OA}{l:List sW}(h:pb lk 26 (za lk) p l){i:Nat}(hi:i<l.length):
  ∃b o c tp tc bp bc ap ac kp kc,p=some ⟨b,o,none⟩∧lk b c∧((c.drop (o+i*26)).take 26=.int .i64 (l[i]'(hi)).call::((l[i]'(hi)).f.cells tp tc bp bc ap ac++[.int .i64 (l[i]'(hi)).num,.slice kp (l[i]'(hi)).lH.length kc])∧o+i*26+26≤c.length)∧xT lk (l[i]'(hi)).f tp tc bp bc ap ac∧lX lk kp (l[i]'(hi)).lH∧(l[i]'(hi)).lH.length≤9223372036854775807∧i64 (l[i]'(hi)).call∧i64 (l[i]'(hi)).num:=by
 obtain⟨b,o,c,e,M,O⟩:=h (by omega);obtain⟨k1,V,tp,tc,bp,bc,ap,ac,kp,kc,a1,a2,a3,a4,a5⟩:=O i hi;exact⟨b,o,c,tp,tc,bp,bc,ap,ac,kp,kc,e,M,⟨a1,k1⟩,a2,a3,a4,V,a5⟩
theorem Cw {d:DS}(M:d.on=true)(hc:d.cut=0)(o:lC):(o.run d).2.on=true∧(o.run d).2.cut=0:=by
 cases o with
 |sync=>show(d.sync).2.on=true∧(d.sync).2.cut=0;rw[DS.sync,if_neg (by rw[M];decide)];exact⟨M,hc⟩
 |write off s=>
  show(d.write off s).2.on=true∧(d.write off s).2.cut=0;rw[DS.write,if_neg (by rw[M];decide)];split
  ·rw[DS.mT,if_pos (show(d.put off.toNat s).cut=0 from hc)];exact⟨M,hc⟩
  ·exact⟨M,hc⟩
theorem Dg:∀(ops:List lC) {d:DS},d.on=true→d.cut=0→(ln ops d).2.on=true
 |[],d,hon,_=>hon
 |o::r,d,hon,hc=>by
  have h:=Cw hon hc o;rw[ln];split
  ·exact Dg r h.1 h.2
  ·exact h.1
theorem Ry {d:DS}(M:d.on=true)(hc:d.cut=0):(mn d).2.2.on=true:=by
 have key:∀i0 i1 j,(nL i0 i1 j d).2.2.on=true:=fun i0 i1 j=>by
  unfold nL;split
  ·exact Dg _ M hc
  ·exact Dg _ M hc
 unfold mn
 repeat' split
 all_goals first|exact key _ _ _|exact M
section perms
variable (x y z u:Nat×Obj)(A F T X N L Z G Y:aX)
theorem YM (h:F.Perm (A++L))(a1:A.Perm (y::(G++T)))(a2:L.Perm (z::(X++Y))):(x::y::z::(G++(T++(X++Y)))).Perm (x::F):=lR fun c w g1 O V M=>by
 have:=M _ _ h;have:=M _ _ a1;have:=M _ _ a2;simp only[g1,O,V]at*;omega
theorem Qx:((y::T)++(x::z::(G++(X++Y)))).Perm (x::y::z::(G++(T++(X++Y)))):=lR fun c w g1 M O V=>by simp only[g1,M,O,aY];omega
theorem Uo (h:L.Perm (N++(y::T))):(L++(x::z::(G++(X++Y)))).Perm (x::y::z::(G++(X++(N++(T++Y))))):=lR fun c w g1 M O V=>by
 have:=V _ _ h;simp only[g1,M,O,aY]at*;omega
theorem Jy (h:F.Perm (G++(L++T))):(G++(x::(L++T))).Perm (x::F):=lR fun c w M O V a1=>by
 have:=a1 _ _ h;simp only[M,O,V]at this ⊢;omega
theorem NH:(G++(x::(L++T))).Perm (x::(G++(L++T))):=cI
theorem GB:(L++(x::(G++T))).Perm (x::(G++(L++T))):=perm_a
theorem QZ:(G++(x::(L++(T++[y])))).Perm ((x::(G++(L++T)))++[y]):=perm_a
theorem QP:(L++(x::(G++(T++[y])))).Perm ((x::(G++(L++T)))++[y]):=perm_a
theorem XK:(G++(L++((T++[x])++[y]))).Perm ([x,y]++(G++(L++T))):=perm_a
theorem AX:(G++(x::L)).Perm (x::(G++L)):=cI
theorem AM:(L++(x::G)).Perm (x::(G++L)):=perm_a
theorem Ij:(G++(x::y::z::A)).Perm (x::y::z::(G++A)):=lR fun c w g1 M O V=>by simp only[g1,M,O];omega
theorem S8 (h:X.Perm L):(L++(x::y::z::(G++A))).Perm (x::y::z::(G++(X++A))):=lR fun c w g1 M O V=>by
 have:=V _ _ h;simp only[g1,M,O]at*;omega
theorem Zl (v s:Nat×Obj):((u::v::s::Y)++(x::y::z::A)).Perm (x::y::z::s::(u::v::(Y++A))):=lR fun c w g1 M O V=>by simp only[g1,M,O,aY];omega
end perms
section l4
variable {w0:World}{n atv cv:Int}{first second:ByteArray}{lp:Option Addr}{ll lc WB D RD:Nat}{j k:Option Addr}{o:Option JM}{d:DS}{F:aX}
theorem B0:sK (kY w0) [] w0:=fun b c h=>⟨bG,h⟩
theorem I4 (b4:lG w0 0=some mH)(h:WR (kY w0) D RD j k o d F)(b6:d.on=true)(a9:d.cut=0)(hp:d.pend.length<800000):
  Ei n first second lp ll lc atv cv WB true (SO D) (SO RD) (SO D) j (SO RD) k F w0 (RT w0):=by
 apply Wy;have b1:mj d:=by
  obtain⟨Fd,d7,a3,_,a8,_⟩:=h.parts;exact a8.1
 refine eA.pM (FA h (by omega) b4) (fun a1 M=>tB B0 M fun x V=>V) ?_;rintro _ _ ⟨rfl,e3,k',F',rfl,a5⟩;refine⟨_,_,_,_,rfl,rfl,tt rfl ?_⟩;have b5:∀m,(mn d).2.1=some m→nQ m:=fun m hm=>EA b1 hm
 have b7:=Ry b6 a9;have d9:=EO d;generalize (mn d).2.1=o' at*;generalize (mn d).2.2=d' at*;cases o' with
 |none=>
  obtain⟨a7,a3,-,rfl,rfl,-⟩:=a5;exact⟨fun h=>absurd h (by decide),fun _=>tt rfl (kQ rfl)⟩
 | some m=>
  have hm:=b5 m rfl;have d8:=hm.len;obtain⟨a7,a3,c6,J,K,rfl,rfl,⟨Fd,p,c,T,c7,c8,c9⟩,Fr,p',c',a2,d0,d1,d2⟩:=a5;refine⟨fun _=>?_,fun h=>by cases h⟩;refine⟨J,K,_,_,_,_,_,_,_,_,_,_,_,_,_,_,_,_,_,YM (wH WB D (SO J) RD (SO K)) (jH J D (m.js p c)) (kJ K RD (m.js p' c')) _ _ _ _ _ _ _ c6 c7 d0,?_⟩;refine eA.lF (L0:=jH J D (m.js p c)::T) (L1:=wH WB D (SO J) RD (SO K)::kJ K RD (m.js p' c')::(Fd++(Fr++a2))) (NZ ⟨p,c,T,rfl,c9⟩ (fun f b3=>BU (hm.ok f b3)) (by omega)) (Qx _ _ _ _ _ _ _) ?_;rintro _ L' ⟨p1,c1,N,rfl,r1,d3⟩;refine⟨_,Uo _ _ _ _ _ _ _ _ _ r1,p1,_,c1,_,rfl,rfl,?_⟩;refine eA.pw (fun a1 M=>VS (a:=m.fs) (b:=m.fs) (d3.zX.mono fun b c O=>?_) (d2.zX.mono fun b c O=>?_) (by omega)) ⟨_,rfl,rfl,?_⟩
  ·exact qt M (fun x V=>by simp[V]) b c (vq b c O)
  ·rcases O with O|O
   ·exact qt M (fun x V=>by simp[V]) b c O
   ·exact vo B0 M b c O
  rw[decide_eq_true rfl];have e2:=hm.sz;have a4:=hm.en;refine tt rfl ⟨_,m3.pw fun a1 M=>NX (m:=m) (M.here (jH J D (m.js p c)) (by simp)) a4 (by omega),_,m3.pw fun a1 M=>Vo (m:=m) (M.here (kJ K RD (m.js p' c')) (by simp)) a4 (by omega),yes rfl
   ⟨_,m3.pw fun a1 M=>GV (m:=m) (M.here (jH J D (m.js p c)) (by simp)),yes rfl ?_⟩⟩
  refine eA.lF (L0:=Fd) (L1:=_::_::_::(Fr++(N++(T++a2)))) (Uq c8 b7) (Ij _ _ _ _ _) ?_;rintro _ a6 ⟨rfl,e6⟩;refine⟨_,Ij _ _ _ _ _,_,_,rfl,rfl,?_⟩;obtain⟨b9,SB,e7,cs,e5,e4,G,k1,c2,c3,c4,c5⟩:=d1;refine eA.lF (L1:=_::_::_::(a6++(N++(T++a2)))) (ER b9 c2 c3 c4 c5 (by omega)) (S8 _ _ _ _ _ _ _ k1) ?_;rintro _ _ ⟨d5,d6,vs,rfl,rfl,e8,e9,d4⟩;refine⟨_,Zl _ _ _ _ _ _ _ _,d5,_,d6,vs,_,rfl,rfl,d'.vis,⟨?_,rfl⟩,tt rfl (kQ ?_)⟩
  ·rw[aU];exact d4
  ·congr 1
   exact(uZ _ _).2 rfl
theorem EK {M:Nat}(c6:lG w0 0=some mH)(c3:i64 atv)(a7:0≤cv∧cv<256)(d3:0<M)(d4:M≤3000000)(h:WR (kY w0) D RD j k o d F)(hp:d.pend.length<800000):
  xC n first second lp ll lc atv cv WB true (SO D) (SO RD) (M:Int) (SO D) j (SO RD) k F w0 (RT w0):=by
 apply RJ;obtain⟨Fd,Fr,T,b6,b7,b9,c2⟩:=h.Hd;have b3:∀{S W},ve S W none []:=fun hp=>absurd hp (by simp)
 refine eA.nX (L0:=Fd) (L1:=wH WB D j RD k::(Fr++T)) (MC b7 (by omega) (kp:=none) (kc:=0) (ks:=[]) (by decide) (-1)) (fun b4 c7=>b3) (Jy _ _ _ _ _ b6) ?_;rintro _ a4 ⟨rfl,c4⟩;refine⟨_,NH _ _ _ _,_,_,rfl,rfl,?_⟩;refine eA.nX (L0:=Fr) (L1:=wH WB D j RD k::(a4++T)) (IL b9 (by omega) (kp:=none) (kc:=0) (ks:=[]) (by decide) (-1)) (fun b4 c7=>b3) (Jy _ _ _ _ _ (fg _ _ _)) ?_;rintro _ a5 ⟨rfl,c9⟩;refine⟨_,GB _ _ _ _,_,rfl,rfl,?_⟩;have a3:=uW atv (2*M) c3 (by omega);have c8:=eC (qv atv) (show 2*M>0 by omega);have b5:ab.wrap (2*(M:Int))=((2*M:Nat):Int):=by rw[kS (by omega)];omega
 generalize qv atv%(2*M)=q at a3 c8;rw[b5];have V:(d.om [] (-1)).on=true∧(d.om [] (-1)).cut=0∧(d.om [] (-1)).pend=[]:=⟨rfl,rfl,rfl⟩;have b1:=Cw V.1 V.2.1 (.write (q:Int) (ba [bg cv.toNat]));have a8:=ya (.write (q:Int) (ba [bg cv.toNat])) (d.om [] (-1));rw[V.2.2]at a8;have a9:(d.om [] (-1)).pend.length<1000000:=by rw[V.2.2];decide
 generalize d.om [] (-1)=d1 at*;refine⟨_,m3.of a3,fun O=>⟨a7,?_⟩⟩;refine eA.lF (L0:=a4) (L1:=wH WB D j RD k::(a5++(T++[(O,.cells #[.int .u8 cv] 5)]))) (Aj c4 a9 (off:=(q:Int)) (s:=ba [bg cv.toNat])) (QZ _ _ _ _ _) ?_;rintro _ a2 ⟨rfl,c5⟩;refine⟨_,NH _ _ _ _,_,_,rfl,rfl,_,m3.of a3,fun a1=>⟨a7,?_⟩⟩;refine eA.lF (L0:=a5) (L1:=wH WB D j RD k::(a2++((T++[(O,.cells #[.int .u8 cv] 5)])++[(a1,.cells #[.int .u8 cv] 5)]))) (Ar c9 a9 (off:=(q:Int)) (s:=ba [bg cv.toNat])) (QP _ _ _ _ _) ?_;rintro _ a6 ⟨rfl,d0⟩;refine⟨_,GB _ _ _ _,_,_,rfl,rfl,?_⟩;have d2:WR (kY w0) D RD j k o (d1.write (q:Int) (ba [bg cv.toNat])).2 (a2++(a6++((T++[(O,.cells #[.int .u8 cv] 5)])++[(a1,.cells #[.int .u8 cv] 5)]))):=
  (c2 a2 a6 _ _ (ah _) c5 d0).more (X:=[(O,.cells #[.int .u8 cv] 5),(a1,.cells #[.int .u8 cv] 5)]) (XK _ _ _ _ _)
 exact I4 c6 d2 b1.1 b1.2 (by
  have:(d1.write (q:Int) (ba [bg cv.toNat])).2.pend.length≤0+1:=a8;omega)
theorem Ji {a3:Nat}{l:List sW}(M:lG w0 0=some mH)(O:i64 atv)(V:0≤cv∧cv<256)(a1:0<a3)(a2:a3≤3000000)(a5:pb (kY w0) 26 (za (kY w0)) lp l):
  ∀(g i:Nat) (j k:OA) (o:Option JM) (d:DS) (F:aX),g+i=10→WR (kY w0) D RD j k o d F→(∀m,o=some m→nQ m)→d.pend.length≤7+7*i→
   Ap n first second lp l.length lc atv cv WB true (SO D) (SO RD) (a3:Int) true (i:Int) (SO D) j (SO RD) k F w0 (RT w0)
 |0,i,j,k,o,d,F,hgi,hw,hm,hp=>by
  apply Kl;exact⟨fun _=>no (by omega) (EK M O V a1 a2 hw (by omega)),fun _=>EK M O V a1 a2 hw (by omega)⟩
 |g+1,i,j,k,o,d,F,hgi,hw,hm,hp=>by
  apply Kl;refine⟨fun hi=>yes (by omega) (tt rfl ?_),fun _=>EK M O V a1 a2 hw (by omega)⟩;have hi:i<l.length:=by omega
  obtain⟨b,c3,cs,tp,tc,bp,bc,ap,ac,kp,kc,a7,b4,a6,b5,b6,b7,b9,c2⟩:=Vr a5 hi;refine⟨b,c3,a7,by omega,cs,l[i],tp,tc,bp,bc,ap,ac,kp,kc,.inr b4,⟨by rw[ai];exact a6.1,by rw[ai];exact a6.2⟩,?_⟩;refine eA.nX (L1:=[]) (QW (x:=l[i]) hw hm (by omega) M b5.at b6 b7 b9 c2) (fun c4 a4=>tB B0 a4 fun x b1=>b1) (by rw[aL]) ?_;rintro _ L' ⟨rfl,b3,k',o',d',F',a8,a9,a4,c5⟩;refine⟨_,by rw[aL];exact a8,_,_,_,_,rfl,rfl,?_⟩;rintro _ rfl;rw[kS (by omega),show(i:Int)+1=((i+1:Nat):Int)by omega];exact Ji M O V a1 a2 a5 g (i+1) b3 k' o' d' F' (by omega) a9 a4 (by omega)
theorem UJ {l:List sW}(hn:i64 n)(c8:i64 atv)(d3:0≤cv∧cv<256)(a2:lG w0 0=some mH)(c5:pb (kY w0) 26 (za (kY w0)) lp l):
  PW TP 7 ⟨[.int .i64 n,.string first,.string second,.slice lp l.length lc,.int .i64 atv,.int .u8 cv]⟩ w0 (.bool true):=by
 obtain⟨e4,b2⟩:=OU n;have e5:oi n≤2000000:=by
  have:=eC (qv n) (show 1500>0 by decide);unfold oi;omega
 refine X6 n first second lp l.length lc atv cv [] (Mem.start [] w0) (eA.VT a2 ⟨_,rfl,rfl,eA.pure (FY n hn) ⟨_,rfl,rfl,eA.EG [] (Hb (N:=oi n) rfl (by omega) b2) ?_⟩⟩)
 rintro _ M ⟨D,rfl,a5⟩;refine⟨_,_,_,rfl,rfl,eA.pure (FY n hn) ⟨_,rfl,rfl,?_⟩⟩;refine eA.lF (L0:=[]) (L1:=[]++M) (Wo (N:=oi n) rfl (by omega) b2) (ah _) ?_;rintro _ a1 ⟨O,rfl,b4⟩;refine⟨_,aw,_,_,_,rfl,rfl,fun B=>eA.pure (FY n hn) ⟨_,rfl,rfl,?_⟩⟩;rintro _ rfl;have c3:ab.wrap ((oi n:Int).tdiv 2)=((oi n/2:Nat):Int):=by
  rw[show(oi n:Int).tdiv 2=((oi n/2:Nat):Int)from rfl,kS (by omega)]
 rw[c3];have d4:0<oi n/2:=by omega
 have d5:oi n/2≤3000000:=by omega
 have V:(DS.new (oi n)).on=true∧(DS.new (oi n)).cut=0∧(DS.new (oi n)).pend=[]:=⟨rfl,rfl,rfl⟩;have d7:WR (kY w0) D O none none none (DS.new (oi n)) (M++a1):=⟨M,a1,ah _,rfl,rfl,⟨M,[],by rw[aL],a5⟩,b4⟩;generalize DS.new (oi n)=d0 at*;generalize oi n/2=c4 at*;refine⟨⟨by omega,by split<;>omega,by split<;>omega⟩,?_⟩;rintro a3-;refine⟨⟨by omega,by split<;>omega,by split<;>omega⟩,?_⟩;rintro b5-;refine⟨fun _=>?_,fun _=>?_⟩
 ·have b1:d0.pend.length<900000:=by rw[V.2.2];decide
  refine eA.pM (FA d7 b1 a2) (fun e3 d6=>tB B0 d6 fun x d9=>d9) ?_;rintro _ _ ⟨rfl,e2,k',F',rfl,d8⟩;have b3:=EO d0;rw[V.2.2]at b3;exact⟨_,_,_,_,rfl,rfl,Ji a2 c8 d3 d4 d5 c5 10 0 e2 k' _ _ F' rfl d8 (fun m hm=>EA a5.1 hm) b3⟩
 ·have b9:∀(d:DS) (off:Int) (s:BA),d.on=true→d.cut=0→(d.write off s).2.on=true∧(d.write off s).2.cut=0∧(d.write off s).2.pend.length≤d.pend.length+1:=fun d off s a8 a9=>
   ⟨(Cw a8 a9 (.write off s)).1,(Cw a8 a9 (.write off s)).2,ya (.write off s) d⟩
  have b1:d0.pend.length=0:=by rw[V.2.2];rfl
  have b6:=b9 d0 0 a3 V.1 V.2.1;have b7:=b9 (d0.write 0 a3).2 (c4:Int) b5 b6.1 b6.2.1;refine eA.lF (L0:=M) (L1:=wH B D none O none::a1) (Aj a5 (by omega)) (AX _ _ _) ?_;rintro _ a6 ⟨rfl,c6⟩;refine⟨_,AX _ _ _,_,_,rfl,rfl,?_⟩;refine eA.lF (L0:=a1) (L1:=wH B D none O none::a6) (Ar b4 (by omega)) (AM _ _ _) ?_;rintro _ a7 ⟨rfl,c9⟩;refine⟨_,AM _ _ _,_,_,rfl,rfl,?_⟩;generalize (d0.write 0 a3).2=d1 at*;refine eA.lF (L0:=a6) (L1:=wH B D none O none::a7) (Aj c6 (by omega)) (AX _ _ _) ?_;rintro _ a4 ⟨rfl,c7⟩;refine⟨_,AX _ _ _,_,_,rfl,rfl,?_⟩;refine eA.lF (L0:=a7) (L1:=wH B D none O none::a4) (Ar c9 (by omega)) (AM _ _ _) ?_;rintro _ c2 ⟨rfl,d2⟩;refine⟨_,AM _ _ _,_,_,rfl,rfl,?_⟩;exact I4 (n:=n) (first:=a3) (second:=b5) (lp:=lp) (ll:=l.length) (lc:=lc) (atv:=atv) (cv:=cv) (j:=none) (k:=none) (o:=none) a2 ⟨a4,c2,ah _,rfl,rfl,⟨a4,[],by rw[aL],c7⟩,d2⟩ b7.1 b7.2.1 (by omega)
end l4
end Go.Eng
