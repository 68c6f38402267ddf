/- A part. -/
import Derived.Test.YtfobdgoklnhebaaGreatDoorAnyF
set_option linter.unusedVariables false
set_option linter.unusedSimpArgs false
set_option maxRecDepth 100000
open Array renaming eq_empty_of_size_eq_zero→eO
open Bool renaming true_and→aH,and_eq_true→av,noConfusion→de,eq_iff_iff→fL,and_true→iC
open ByteArray renaming ext→gV
open Go renaming Calls→aE,Value→aa,World→aj
open Go.IntKind renaming i64→ab
open Go.Obj renaming cells→bu
open Go.Op renaming bytesLess→jy
open Go.Proofs.Tryz renaming f11→cz,func11→gZ,func35→gh,func80→hM,f35→jC,func197→jc,func97→jz,f80→kM
open Go.Value renaming bool→dq,string→iH
open Int renaming reduceEq→aV,toNat→ad,toNat_natCast→ai,toNat_of_nonneg→dM
open List renaming replicate→aA,drop_eq_getElem_cons→aG,length_cons→aI,take_of_length_le→aK,append_nil→aL,length_eq_zero_iff→aQ,nil_append→aT,drop_zero→aU,cons_append→aY,length_drop→aZ,length_append→ae,mem_cons_of_mem→ag,mem_append_right→ak,append_assoc→an,length_take→ao,getElem?_eq_getElem→ar,mem_cons_self→au,perm_append_comm→aw,drop_of_length_le→ax,getElem_mem→bH,getElem?_map→bP,foldl_cons→bS,mem_cons→bT,getElem?_take_of_lt→bh,perm_middle→cI,drop_drop→cV,length_replicate→dL,take_zero→dN,drop_left→fB,getElem_take→fO,length_singleton→fP,take_left'→fk,drop_succ_cons→fq,mem_of_mem_take→ft,take_succ_eq_append_getElem→gE,take_left→gN,drop_take→gu,take_take→gv
open List.Perm renaming refl→ah,swap→dg,cons→eS
open List.cons renaming injEq→bM
open Nat renaming le_refl→aD,zero_add→az,le_trans→bC,mul_le_mul_right→bI,zero_le→bx,add_mul→cU,min_eq_left→dj,mul_le_mul_left→eo,mul_one→ez,add_zero→fC
open Option renaming map_some→bL,map_eq_some_iff→ep
open Option.some renaming injEq→al,inj→bY
open Prod.mk renaming injEq→af
open UInt8 renaming lt_iff_toNat_lt→eK
namespace Go.Eng
open Go Go.RowKit Go.Proofs Wire
def pR (l:List UInt8)(n:Nat):Option (List dF×Nat):=tr l.length l n
def mf:List UInt8→Option (Int×List dF×Nat)
 |[]=>some (0,[],0)
 |b::r=>if b=0 then some (0,[],0)else(match me ml (b::r)with
  |none=>none
  |some (g,k)=>if g<1 then none else(pR ((b::r).drop k) 1).map fun q=>(g,q.1,k+q.2))
theorem zJ {b:UInt8}{r:List UInt8}{n:Nat}(O:b≠0){t:BA}{k:Nat}(M:me mC (b::r)=some (t,k)):
  pR (b::r) n=if sC t n then(pR ((b::r).drop k) (n+1)).map (fun q=>((l6 (bb t)).1::q.1,k+q.2))else none:=by
 unfold pR;rw[aI,tr,if_neg O,M];simp only;have a1:=Cm M;have V:((b::r).drop k).length≤r.length:=by rw[aZ,aI];omega
 rw[Vk r.length _ _ V]
theorem NN {b:UInt8}{r:List UInt8}{n:Nat}(M:b≠0)(O:me mC (b::r)=none):pR (b::r) n=none:=by
 unfold pR;rw[aI,tr,if_neg M,O]
theorem Eo {r:List UInt8}{n:Nat}:pR (0::r) n=some ([],0):=by
 unfold pR;rw[aI,tr,if_pos rfl]
theorem DD {n:Nat}:pR [] n=some ([],0):=rfl
def pA (s:List UInt8)(a0:Nat)(l:List dF)(a:Nat):Prop:=a0≤a∧pR (s.drop a0) 1=(pR (s.drop a) (l.length+1)).map fun q=>(l++q.1,a-a0+q.2)
theorem pA.start (s:List UInt8)(a:Nat):pA s a [] a:=⟨aD _,by
 simp only[List.length_nil,az,aT,Nat.sub_self];cases pR (s.drop a) 1<;>simp⟩
theorem xZ {s:List UInt8}{a:Nat}(h:a<s.length):∃r,s.drop a=s[a]::r:=⟨_,aG h⟩
theorem pA.step {s:List UInt8}{a0 a:Nat}{l:List dF}(h:pA s a0 l a)(V:a<s.length)(a1:s[a]≠0){t:BA}{k:Nat}(M:me mC (s.drop a)=some (t,k))(a2:sC t (l.length+1)):pA s a0 (l++[(l6 (bb t)).1]) (a+k):=by
 obtain⟨a3,O⟩:=h;refine⟨by omega,?_⟩;obtain⟨r,e⟩:=xZ V;rw[O];rw[e]at M ⊢;rw[zJ a1 M,if_pos a2,←e,cV,ae,fP];cases pR (s.drop (a+k)) (l.length+1+1)with
 |none=>rfl
 |some q=>simp;omega
theorem pA.bad {s:List UInt8}{a0 a:Nat}{l:List dF}(h:pA s a0 l a)(O:a<s.length)(V:s[a]≠0){t:BA}{k:Nat}(M:me mC (s.drop a)=some (t,k))(a1:¬sC t (l.length+1)):pR (s.drop a0) 1=none:=by
 obtain⟨r,e⟩:=xZ O;rw[h.2];rw[e]at M ⊢;rw[zJ V M,if_neg a1];rfl
theorem pA.ra {s:List UInt8}{a0 a:Nat}{l:List dF}(h:pA s a0 l a)(O:a<s.length)(V:s[a]≠0)(M:me mC (s.drop a)=none):pR (s.drop a0) 1=none:=by
 obtain⟨r,e⟩:=xZ O;rw[h.2];rw[e]at M ⊢;rw[NN V M];rfl
theorem pA.stop {s:List UInt8}{a0 a:Nat}{l:List dF}(h:pA s a0 l a)(M:s.length≤a∨∃O:a<s.length,s[a]=0):pR (s.drop a0) 1=some (l,a-a0):=by
 rw[h.2];rcases M with M|⟨O,hb⟩
 ·rw[ax M,DD];simp
 ·obtain⟨r,e⟩:=xZ O
  rw[e,hb,Eo];simp
abbrev hZ (B:Nat):Nat×Obj:=hH B 0 none 0 0 0
abbrev bF (B:Nat):Nat×Obj:=(B,.cells #[.bool false] 4)
abbrev kA (ka:Nat)(k:Int):Nat×Obj:=(ka,.cells #[.int .i64 k] 3)
noncomputable abbrev Dn (l:Nat)(st:LoopState)(o:Option Code)(t:Array aa)(D:Nat):Nat×Obj:=(l,ma st o 45 t (sub (Eng.body Tryz.f45) [1,1,1,1,1,0,1,0]) D)
abbrev E8 (D:Nat):Nat×Obj:=(D,.deferred (some []))
section par
variable (s:ByteArray)(B B1 B2 kb:Nat)(g:Int)(a0 D lp:Nat)(t:Array Value)
noncomputable abbrev NV (st:LoopState)(o:Option Code)(p:OA)(n c:Nat)(en:Int)(T:aX):aX:=
 hZ B::bF B1::hH B2 g p n c en::E8 D::Dn lp st o t D::T
def D8 (l:List dF)(a:Nat)(F:aX):Prop:=
 ∃p c T,F.Perm (NV B B1 B2 g D lp t .ready none p l.length c (a:Int) T)∧lj mI l p c T∧pA (bb s) a0 l a∧l.length≤500∧a≤(bb s).length
def Ig (F:aX):Prop:=
 ∃p n c en T,F.Perm (NV B B1 B2 g D lp t .done (some .ret) p n c en T)∧pR ((bb s).drop a0) 1=none
end par
section perms
variable (x y z v w' q r:Nat×Obj)(A F T X Z N:aX)
theorem q9 (hp:F.Perm (x::y::z::v::w'::T)):(x::y::z::q::v::w'::T).Perm (q::F):=lR fun c w M O V a1=>by
 have:=a1 _ _ hp;simp only[M,O,V]at this ⊢;omega
theorem Ev:(r::x::y::z::q::v::w'::T).Perm (q::x::y::z::v::w'::(r::T)):=perm_a
theorem W9 (r':Nat×Obj):(r'::r::x::y::z::q::v::w'::(F++T)).Perm (F++(T++[r',r,x,y,z,q,v,w'])):=perm_a
theorem Ze (r':Nat×Obj):(N++[r',r,x,y,z,q,v,w']).Perm (r::x::y::z::q::v::w'::(r'::N)):=perm_a
theorem Su:(q::r::[x,y,z,v,w']).Perm [x,y,z,r,q,v,w']:=perm_a
end perms
theorem Cp {α:Type}{rd:List UInt8→Option (α×Nat)}{l:List UInt8}{v:α}{k:Nat}(h:me rd l=some (v,k)):∃r,l=1::r:=by
 cases l with
 |nil=>cases h
 |cons b r=>
  rw[me]at h;split at h
  ·next hb=>exact⟨r,by rw[hb]⟩
  ·cases h
theorem U1 {l:List UInt8}{v:BA}{k:Nat}(h:mC l=some (v,k)):v.size≤65536:=by
 rw[mC,ep]at h;obtain⟨⟨t,k'⟩,O,M⟩:=h;simp only[af]at M;obtain⟨rfl,_⟩:=M;have:=(zt O).1;show t.toArray.size≤65536;simpa using this
theorem Y8 {l:List UInt8}{v:BA}{k:Nat}(h:me mC l=some (v,k)):v.size≤65536:=by
 obtain⟨r,rfl⟩:=Cp h;rw[me,if_pos rfl]at h;split at h
 ·cases h
 ·next v' k' hv=>
  split at h
  ·cases h
  ·split at h
   ·simp only[al,af]at h
    obtain⟨rfl,_⟩:=h;exact U1 hv
   ·cases h
theorem YN {W:aj}{M n c:Nat}{gen en:Int}{p:OA}(h:W.heap[M]?=some (hH M gen p n c en).2)(hn:n≤1000000):PW TP 53 ⟨[pt M 0]⟩ W (.int .i64 ((n+1:Nat):Int)):=by
 refine PW.ro (x:=hH M gen p n c en) (fun hm O=>V1 M gen p n c en [] hm ?_) h;rintro _ rfl;rw[kS (by omega),show(n:Int)+1=((n+1:Nat):Int)by omega];exact O
section round
variable {s:ByteArray}{B B1 B2 kb:Nat}{g:Int}{a0 D lp:Nat}{tt:Array Value}{S:List Nat}{w0:World}
def NS (s:BA)(B B1 B2:Nat)(g:Int)(a0 D lp:Nat)(tt:Array aa)(l:List dF)(a:Nat)(t:BA)(k:Nat)(v:aa)(F':aX):Prop:=
 (v=.bool true∧sC t (l.length+1)∧D8 s B B1 B2 g a0 D lp tt (l++[(l6 (bb t)).1]) (a+k) F')∨(v=.bool false∧¬sC t (l.length+1)∧Ig s B B1 B2 g a0 D lp tt F')
theorem ZH (c4:s.size<4611686018427387904)(a9:mF 73 [(0,.string s),(2,.pointer (SO B)),(3,.pointer (SO B1)),(7,.pointer (SO B2))] tt){l:List dF}{a:Nat}{F:aX}{t:BA}{k:Nat}(V:a<(bb s).length)(a6:D8 s B B1 B2 g a0 D lp tt l a F)(O:me mC ((bb s).drop a)=some (t,k)):
  oD TP lp ⟨[.string t,.int .i64 ((a+k:Nat):Int)]⟩ (pY kb s::F) S w0 (fun v L'=>∃F',L'=pY kb s::F'∧NS s B B1 B2 g a0 D lp tt l a t k v F'):=by
 obtain⟨p,c,T,hp,a8,a3,c2,c3⟩:=a6;have a1:(bb s)[a]≠0:=by
  obtain⟨r,e⟩:=Cp O;have:=aG V;rw[e]at this;simp only[bM]at this;rw[←this.1];decide
 have b3:a+k≤(bb s).length:=by
  have:=Mv W4 O;rw[aZ]at this;omega
 refine oD.perm (q9 _ _ _ _ _ (pY kb s) _ _ hp) ?_;refine oD.nd (K:=fun v L'=>∃F',L'.Perm (pY kb s::F')∧NS s B B1 B2 g a0 D lp tt l a t k v F') ?_ fun v L' ⟨F',h1,h2⟩=>⟨pY kb s::F',h1.symm,F',rfl,h2⟩
 refine WO s B B1 B2 kb g p l.length c (a:Int) T t _ D lp tt a9 ?_;have c5:=Y8 O;refine eA.XO [_,_,_,_,_,_] (Td (s:=t) (by omega)) ?_;rintro _ F' ⟨tp,tc,bp,bc,ap,ac,rfl,b1⟩;refine⟨_,tp,tc,bp,bc,ap,ac,_,_,rfl,rfl,fun B3=>⟨fun a4=>?_,fun a2=>?_⟩⟩
 ·exact⟨_,Ev _ _ _ _ _ _ _ _,.inr ⟨rfl,fun M=>a4 M.1,p,l.length,c,(a:Int),_,ah _,a3.bad V a1 O fun M=>a4 M.1⟩⟩
 ·refine⟨((l.length+1:Nat):Int),lV.pw fun b9 b4=>YN (b4.here (hH B2 g p l.length c (a:Int)) (by simp)) (by omega),fun hn=>?_,fun hn a5=>?_⟩
  ·exact⟨_,Ev _ _ _ _ _ _ _ _,.inr ⟨rfl,fun M=>hn M.2,p,l.length,c,(a:Int),_,ah _,a3.bad V a1 O fun M=>hn M.2⟩⟩
  ·refine(lj.push (Y:=[_,_,_,_,_,_,_,_]) (f:=(l6 (bb t)).1) a8 (b1.mono yL) rfl (by omega) (W9 _ _ _ _ _ _ _ _ _ _)).nd ?_
   rintro _ b7 ⟨p',c',N,rfl,b6,a7,_,_⟩;refine⟨_,b6.trans (Ze _ _ _ _ _ _ _ _ _),p',c',_,rfl,rfl,_,Ev _ _ _ _ _ _ _ _,.inl ⟨rfl,⟨a2,hn⟩,p',c',[(B3,.cells (oQ (l6 (bb t)).1 tp tc bp bc ap ac) 38),(a5,.cells (oQ (l6 (bb t)).1 tp tc bp bc ap ac) 38)]++N,?_,a7.more [_,_],a3.step V a1 O ⟨a2,hn⟩,?_,b3⟩⟩
   ·rw[ae,fP];exact ah _
   ·have b5:(l6 (bb t)).1.ok=true:=by
     rcases Jb (bb t)with h|h
     ·exact h.2
     ·exact absurd a2 h.2
    have:=(dF.ot b5).n;rw[ae,fP];omega
end round
def sX (s:List UInt8)(v:aa)(F:aX):Prop:=
 match mf s with
 |none=>v=.tuple #[.agg #[.int .i64 0,.slice none 0 0,.int .i64 0],.bool false]
 |some (g,fs,e)=>∃p c,v=.tuple #[.agg #[.int .i64 g,.slice p fs.length c,.int .i64 (e:Int)],.bool true]∧lj mI fs p c F
theorem Hc {s:BA}(b5:s.size<4611686018427387904)(b6:0<s.size):m0 TP 45 ⟨[.string s]⟩ [] (fun W=>lG W 0=some mH) (sX (bb s)):=by
 intro W hm b9;have b1:0<(bb s).length:=b6;obtain⟨r,e⟩:=xZ b1;rw[aU]at e;have e':bb s=(bb s)[0]::r:=e;refine Y7 s hm fun B a2=>⟨by omega,fun a1=>?_,fun a1=>?_⟩
 ·have a8:(bb s)[0]=0:=(rC b1).1 a1
  refine kR ?_;have:mf (bb s)=some (0,[],0):=by rw[e',a8,mf,if_pos rfl]
  rw[sX,this];exact⟨none,0,rfl,lj.oz⟩
 ·have a8:(bb s)[0]≠0:=fun h=>a1 ((rC b1).2 h)
  refine eA.tZ (Rr b5 b6) (by simp) b9 ?_;have c7:(bb s).drop 0=bb s:=aU;rw[c7];have O:mf (bb s)=match me ml (bb s)with|none=>none|some (g,k)=>if g<1 then none else(pR ((bb s).drop k) 1).map fun q=>(g,q.1,k+q.2):=by
   conv=>lhs;rw[e',mf,if_neg a8,←e']
  cases hf:me ml (bb s)with
  |none=>
   rw[hf]at O;refine⟨0,0,false,rfl,rfl,fun h=>de h,fun _=>kR ?_⟩;rw[sX,O]
  | some q=>
   obtain⟨g,k⟩:=q;rw[hf]at O;simp only at O;refine⟨g,((0+k:Nat):Int),true,rfl,rfl,fun _=>⟨fun a9=>kR ?_,fun a9 B2=>?_⟩,fun h=>de h⟩
   ·rw[sX,O,if_pos a9]
   ·rw [if_neg a9]at O
    refine eA.lF (L0:=[]) (L1:=[hZ B,bF a2,hH B2 g none 0 0 ((0+k:Nat):Int)]) (K:=fun v L'=>∃M V,v=.func (.func 120) ⟨[]⟩ ⟨[pt V 0,pt M 0]⟩∧L'=[pY M s,kA V ((0+k:Nat):Int)]) (fun c3 b3=>Tw s _ b3 fun M V=>kR ⟨M,V,rfl,rfl⟩) (ah _) ?_;rintro _ _ ⟨M,V,rfl,rfl⟩;refine⟨_,aw,M,V,rfl,rfl,fun D lp t c6=>?_⟩;intro c3 b3;have d0:(kA V ((0+k:Nat):Int)::pY M s::[hZ B,bF a2,hH B2 g none 0 0 ((0+k:Nat):Int),E8 D,Dn lp .ready none t D]).Perm [hZ B,bF a2,hH B2 g none 0 0 ((0+k:Nat):Int),pY M s,kA V ((0+k:Nat):Int),E8 D,Dn lp .ready none t D]:=Su _ _ _ _ _ _ _;have d2:=Mv (fun l v k h=>(pk h).2.1) hf;refine WJ lp V M _ s _ (b3.perm d0) (J8 b5 (by simp) b9 (I:=D8 s B a2 B2 g (0+k) D lp t) (J:=Ig s B a2 B2 g (0+k) D lp t) (fun l a F t' k' a7 a6 c8=>ZH b5 c6 a7 a6 c8) (fun l a F a6 a5=>?_) (fun F c5=>?_) s.size (0+k) [] _ (by omega) ⟨none,0,[],ah _,lj.oz,pA.start _ _,by simp,by omega⟩)
    ·obtain⟨p,c,T,hp,b7,a3,d1,d3⟩:=a6
     have d4:((bb s).drop k).length=(bb s).length-k:=aZ;intro c4 b4;refine⟨_,_,rfl,b4.perm (q9 _ _ _ _ _ (pY M s) _ _ hp),.inl ⟨p,l.length,c,(a:Int),T,rfl,fun a7=>?_,fun a7=>?_⟩⟩
     ·have a4:a<(bb s).length:=by rw[lB];omega
      refine⟨by omega,fun a1=>kR ?_,fun a1=>kR ?_⟩
      ·rcases a5 with a5|⟨_,a5|⟨h1,h2⟩⟩
       ·omega
       ·exact absurd ((rC a4).2 a5) a1
       ·have:=a3.ra a4 h1 h2
        rw[az]at this;rw[sX,O,this];rfl
      ·have:=a3.stop (.inr ⟨a4,(rC a4).1 a1⟩)
       rw[az]at this;have c9:=a3.1;rw[sX,O,this];simp only[bL];exact⟨p,c,by rw[show k+(a-k)=a by omega],b7.more [_,_,_,_,_,_]⟩
     ·have:=a3.stop (.inl (by rw[lB];omega))
      rw[az]at this;have c9:=a3.1;refine kR ?_;rw[sX,O,this];simp only[bL];exact⟨p,c,by rw[show k+(a-k)=a by omega],b7.more [_,_,_,_,_,_]⟩
    ·obtain⟨p,n,c,en,T,hp,c2⟩:=c5
     rw[az]at c2;intro c4 b4;refine⟨_,_,rfl,b4.perm (q9 _ _ _ _ _ (pY M s) _ _ hp),.inr ⟨p,n,c,en,T,rfl,kR ?_⟩⟩;rw[sX,O,c2];rfl
variable {P:Program}{R:Ending→World→Prop}{S:List Nat}{w0 W:World}{lk:Lk}{tp bp ap:OA}{tc bc ac:Nat}{K K':Value→aX→Prop}{args:Array Value}{g:FuncId}
theorem LS (s:List UInt8):lU (n7 s:Int):=by
 have:=CW s;unfold lU nY;omega
theorem TV {g:Int}(h:lU g)(r:List UInt8):me ml (lA g++r)=some (g,(lA g).length):=by
 have e:lA g++r=1::(Wire.enc g++(Wire.enc (n7 (Wire.enc g):Int)++r)):=by rw[lA,mD];simp
 rw[e,me,if_pos rfl,v8 h];simp only[fB,v8 (LS _),gN,if_true];rw[lA,mD];simp;omega
theorem UY {t:List UInt8}(h:t.length≤65536)(r:List UInt8):me mC (mD (lL t)++r)=some (ba t,(mD (lL t)).length):=by
 have e:mD (lL t)++r=1::(lL t++(Wire.enc (n7 (lL t):Int)++r)):=by rw[mD];simp
 have M:mC (lL t++(Wire.enc (n7 (lL t):Int)++r))=some (ba t,(lL t).length):=by rw[mC,I0 h];rfl
 rw[e,me,if_pos rfl,M];simp only[fB,v8 (LS _),gN,if_true];rw[mD];simp;omega
theorem QD {l:List UInt8}{g:Int}{k:Nat}(h:me ml l=some (g,k)):lU g∧k=(lA g).length∧l=lA g++l.drop k:=by
 obtain⟨r,rfl⟩:=Cp h;rw[me,if_pos rfl]at h;split at h
 ·cases h
 ·next v k1 hv=>
  split at h
  ·cases h
  ·next c k2 hc=>
   split at h
   ·next hcrc=>
    simp only[al,af]at h;obtain⟨rfl,rfl⟩:=h;obtain⟨O,a4,V,a5⟩:=pk hv;have a3:=zK hv;have M:=zK hc;obtain⟨a6,b2,a7,a1⟩:=pk hc;subst hcrc;rw[V]at M a1;have a2:(lA v).length=1+k1+k2:=by rw[lA,mD];simp;omega
    refine⟨O,a2.symm,?_⟩;have e:(1::r).drop (1+k1+k2)=(r.drop k1).drop k2:=by rw[cV,show 1+k1+k2=(k1+k2)+1 by omega,fq]
    rw[e,lA,mD];simp only[aY,an,bM,true_and];rw[←M,←a3]
   ·cases h
theorem RV {l:List UInt8}{t:BA}{k:Nat}(h:me mC l=some (t,k)):(bb t).length≤65536∧k=(mD (lL (bb t))).length∧l=mD (lL (bb t))++l.drop k:=by
 obtain⟨r,rfl⟩:=Cp h;rw[me,if_pos rfl]at h;split at h
 ·cases h
 ·next v k1 M=>
  split at h
  ·cases h
  ·next c k2 hc=>
   split at h
   ·next hcrc=>
    simp only[al,af]at h;obtain⟨rfl,rfl⟩:=h;rw[mC,ep]at M;obtain⟨⟨u,k'⟩,M,O⟩:=M;simp only[af]at O;obtain⟨rfl,rfl⟩:=O;have a4:bb (⟨u.toArray⟩:BA)=u:=mA u;rw[a4];obtain⟨a1,a7,a2,a8⟩:=zt M;have a6:=Ix M;have V:=zK hc;obtain⟨a9,b2,b1,a3⟩:=pk hc;subst hcrc;rw[a2]at V a3;have a5:(mD (lL u)).length=1+k'+k2:=by rw[mD];simp;omega
    refine⟨a1,a5.symm,?_⟩;have e:(1::r).drop (1+k'+k2)=(r.drop k').drop k2:=by rw[cV,show 1+k'+k2=(k'+k2)+1 by omega,fq]
    rw[e,mD];simp only[aY,an,bM,true_and];rw[←V,←a6]
   ·cases h
def oh:List dF→Nat→Prop
 |[],_=>True
 |f::r,n=>f.ok=true∧f.n=(n:Int)∧oh r (n+1)
theorem oh.snoc:∀{l:List dF} {n:Nat} {f:dF},oh l n→f.ok=true→f.n=((n+l.length:Nat):Int)→oh (l++[f]) n
 |[],n,f,_,h1,h2=>⟨h1,by simpa using h2,trivial⟩
 |a::l,n,f,h,h1,h2=>⟨h.1,h.2.1,oh.snoc h.2.2 h1 (by rw[h2];simp;omega)⟩
theorem oh.all:∀{l:List dF} {n:Nat},oh l n→∀f∈l,f.ok=true
 |[],_,_,f,hf=>by cases hf
 |a::l,n,h,f,hf=>by
  rcases bT.1 hf with rfl|hf
  ·exact h.1
  ·exact oh.all h.2.2 f hf
theorem oh.len:∀{l:List dF} {n:Nat},oh l n→n+l.length≤501∨l=[]
 |[],_,_=>.inr rfl
 |a::l,n,h=>by
  refine .inl ?_;have:=(dF.ot h.1).n;have hn:=h.2.1;rcases oh.len h.2.2 with h2|h2
  ·rw[aI];omega
  ·subst h2;simp;omega
theorem oh.red {t:List dF}:∀{l:List dF} {n:Nat},oh l n→oh (nN t l) n
 |[],_,_=>trivial
 | a::l,n,h=>⟨H6 h.1,by
   show(if q7 t a.story=true then nn a else a).n=_;split
   ·rw[Sa];exact h.2.1
   ·exact h.2.1,oh.red h.2.2⟩
theorem Lh (f:dF):∃r,lJ f=1::r:=⟨_,by rw[lJ,mD]⟩
theorem GG:∀(fs:List dF) (n:Nat) (t:List UInt8),oh fs n→Ends t→pR (flat fs++t) n=some (fs,(flat fs).length)
 |[],n,t,_,ht=>by
  rcases ht with rfl|⟨r,rfl⟩
  ·rfl
  ·exact Eo
 |f::r,n,t,h,ht=>by
  obtain⟨a1,a4,a5⟩:=h;have a8:=A5 a1;have e:flat (f::r)++t=lJ f++(flat r++t):=by simp
  obtain⟨q,a6⟩:=Lh f;have O:=UY (t:=mE f) (by omega) (flat r++t);have O:me mC (lJ f++(flat r++t))=some (ba (mE f),(lJ f).length):=O;have V:lJ f++(flat r++t)=1::(q++(flat r++t)):=by rw[a6];rfl
  rw[e];have a2:=O;rw[V]at a2;have a3:=zJ (n:=n) (show(1:UInt8)≠0 by decide) a2;have M:l6 (bb (ba (mE f)))=(f,0):=by rw[mA];exact Ou a1
  have a7:sC (ba (mE f)) n:=⟨by rw[M],by rw[M];exact a4⟩;rw[if_pos a7,←V,fB,GG r (n+1) t a5 ht,M]at a3;rw[a3];simp
theorem LV:∀(g:Nat) (l:List UInt8) (n:Nat) (fs:List dF) (m:Nat),l.length≤g→pR l n=some (fs,m)→oh fs n∧m=(flat fs).length∧∃t,l=flat fs++t∧Ends t
 |0,l,n,fs,m,hg,h=>by
  obtain rfl:l=[]:=aQ.1 (by omega);rw[DD]at h;simp only[al,af]at h;obtain⟨rfl,rfl⟩:=h;exact⟨trivial,rfl,[],rfl,.inl rfl⟩
 | g +1,l,n,fs,m,hg,h=>by
  cases l with
  |nil=>
   rw[DD]at h;simp only[al,af]at h;obtain⟨rfl,rfl⟩:=h;exact⟨trivial,rfl,[],rfl,.inl rfl⟩
  | cons b r=>
   by_cases hb:b=0
   ·subst hb
    rw[Eo]at h;simp only[al,af]at h;obtain⟨rfl,rfl⟩:=h;exact⟨trivial,rfl,0::r,rfl,.inr ⟨r,rfl⟩⟩
   ·cases hf:me mC (b::r)with
    |none=>rw[NN hb hf]at h;cases h
    | some q=>
     obtain⟨t,k⟩:=q;rw[zJ hb hf]at h;have a9:=Cm hf;obtain⟨i1,a1,a2⟩:=RV hf;split at h
     ·next ht=>
      rw[ep]at h;obtain⟨⟨a8,b1⟩,V,O⟩:=h;simp only[af]at O;obtain⟨rfl,rfl⟩:=O;obtain⟨a3,a4,t',a5,a6⟩:=LV g _ _ _ _ (by rw[aZ,aI];simp at hg;omega) V;obtain⟨o1,a7⟩:=XW (s:=bb t) (f:=(l6 (bb t)).1) (Prod.ext rfl ht.1);have M:lJ (l6 (bb t)).1=mD (lL (bb t)):=by rw[lJ,a7]
      refine⟨⟨o1,ht.2,a3⟩,?_,t',?_,a6⟩
      ·rw[a4,a1,←M];simp
      ·rw[a2,a5,←M];simp
     ·cases h
theorem Iw {g:Int}{fs:List dF}{t:List UInt8}(V:lU g)(a3:1≤g)(hn:oh fs 1)(a2:Ends t):mf (cont g fs++t)=some (g,fs,(cont g fs).length):=by
 have O:=TV V (flat fs++t);have e:cont g fs++t=lA g++(flat fs++t):=by rw[cont,an]
 obtain⟨q,a1⟩:∃q,lA g=1::q:=⟨_,by rw[lA,mD]⟩;have M:lA g++(flat fs++t)=1::(q++(flat fs++t)):=by rw[a1];rfl
 rw[e,M,mf,if_neg (by decide),←M,O];simp only;rw[if_neg (by omega),fB,GG fs 1 t hn a2];simp
theorem G8 {l:List UInt8}(h:Ends l):mf l=some (0,[],0):=by
 rcases h with rfl|⟨r,rfl⟩
 ·rfl
 ·rw[mf,if_pos rfl]
theorem C5 {l:List UInt8}{g:Int}{fs:List dF}{e:Nat}(h:mf l=some (g,fs,e)):(g=0∧fs=[]∧e=0∧Ends l)∨(1≤g∧lU g∧oh fs 1∧e=(cont g fs).length∧∃t,l=cont g fs++t∧Ends t):=by
 cases l with
 |nil=>
  rw[mf]at h;simp only[al,af]at h;obtain⟨rfl,rfl,rfl⟩:=h;exact .inl ⟨rfl,rfl,rfl,.inl rfl⟩
 | cons b r=>
  rw[mf]at h;split at h
  ·next hb=>
   simp only[al,af]at h;obtain⟨rfl,rfl,rfl⟩:=h;exact .inl ⟨rfl,rfl,rfl,.inr ⟨r,by rw[hb]⟩⟩
  ·split at h
   ·cases h
   ·next v k hf=>
    split at h
    ·cases h
    ·next hg=>
     rw[ep]at h;obtain⟨⟨a6,a7⟩,O,M⟩:=h;simp only[af]at M;obtain⟨rfl,rfl,rfl⟩:=M;obtain⟨i1,V,a1⟩:=QD hf;obtain⟨a2,a3,t',a4,a5⟩:=LV _ _ _ _ _ (aD _) O;refine .inr ⟨by omega,i1,a2,?_,t',?_,a5⟩
     ·rw[cont,ae,V,a3]
     ·rw[a1,a4,cont,an]
abbrev zK7aa:Array aa:= #[IV 0,.slice none 0 0,IV 0,IV 0,.slice none 0 0,IV 0]
abbrev yK7aa (d e:BA)(x2 x3 x4 x5 m:Int)(n b c f g h i j:Nat)(a k:OA)(l:aX):aX:=(n,.cells #[IV x2,.slice a b c,IV x3,PP f,IV x4,IV 1,.bool false] 86)::(g,.cells #[.string d,.string e] 87)::(h,.cells #[IV x5,.slice k i j,IV m,IV x2,.slice a b c,IV x3] 89)::l
abbrev yK7ab (d e:BA)(x2 x3 x4 x5 m:Int)(n b c f g h i j:Nat)(a k:OA)(l:aX):aX:=(n,.cells #[IV x2,.slice a b c,IV x3,PP f,IV x4,IV 0,.bool false] 86)::(g,.cells #[.string d,.string e] 87)::(h,.cells #[IV x2,.slice a b c,IV x3,IV x5,.slice k i j,IV m] 89)::l
noncomputable def vf (w a b c:Nat)(e u:Int)(n:Nat)(o:Int)(f h:BA)(g:Int)(k:OA)(j i:Nat)(l m:Int)(s:OA)(q p:Nat)(t:Int)(d:aX)(S:List Nat):Cut:=⟨TP,S,13,139,(KC Tryz.f13 4094),[(4,PP a),(5,PP b),(9,PP c),(14,IV e),(15,IV u)],((a,.cells #[IV 0,.slice none 0 0,IV 0,PP n,IV o,IV 0,.bool false] 86)::(b,.cells #[.string f,.string h] 87)::(c,.cells #[IV g,.slice k j i,IV l,IV m,.slice s q p,IV t] 89)::d)⟩
abbrev kBiq (x0 x1 x2 x3 x4 x5 x6 x7 x8 x9 x10):=((x0,.cells #[IV x1,.slice x2 x3 x4,IV x5,IV x6,.slice x7 x8 x9,IV x10] 89):Nat×Obj)
abbrev kCmq (x0):=(.tuple #[.pointer none,IV x0]:aa)
theorem QA (c2 a n o:Nat)(a5 b7:Int)(p:Nat)(q:Int)(d e:BA)(b:Int)(h:OA)(g f:Nat)(i c:Int)(l:OA)(k j:Nat)(m:Int)(y:aX)(H:VP S w0 R (.P 6 95 (a5<b7) (.ru [5,200,7,200,1,202,2,200,4,201]<|.cl 0 46 (kEwq a d e) (yK7aa d e c m q b i a k j p n o g f l h y)<|.x4 fun sp sl E Y=>.rt (.slice sp sl E) (yK7aa d e c m q b i a k j p n o g f l h Y)<|.hp (yK7aa d e c m q b i a k j p n o g f l h Y) fun s=>.ru [9,200]<|.P 2 116 (c=0) (.cl 3 48 [IV 1] s<|.x2 fun b0 b1=>.rt (kBcq b0 b1) s<|.cl 2 47 [.string b0,IV b1] s<|.ex fun u=>.rt (.string u) s<|.cl 7 49 [PP a,IV 0,.string u] s<|.x3 fun b9 b5 M=>.rt (.slice b9 4 b5) (yK7aa d e c m q b i a k j p n o g f l h M)<|.ex fun(c3:List aa)=>.aq 1 92 92 (.slice sp sl E) (.slice b9 4 b5) 4 c3 (yK7aa d e c m q b i a k j p n o g f l h M)<|.x3 fun ap (Z:Nat) F11=>.rt (.slice ap (sl+4) Z) (yK7aa d e c m q b i a k j p n o g f l h F11)<|.ru [9,200]<|.cl 6 50 [PP a,.slice ap (sl+4) Z] ((a,.cells #[IV 1,.slice none 0 0,IV (u.size:Int),PP p,IV q,IV 1,.bool false] 86)::(kAoq n d e)::(kBiq o b h g f i c l k j m)::F11)<|.x3 fun N z a1=>.rt (IV z) ((a,.cells #[IV 1,.slice none 0 0,IV (u.size:Int),PP p,IV q,IV 1,.bool a1] 86)::(kAoq n d e)::(kBiq o b h g f i c l k j m)::N)<|.hp ((a,.cells #[IV 1,.slice none 0 0,IV (u.size:Int),PP p,IV q,IV 1,.bool a1] 86)::(kAoq n d e)::(kBiq o b h g f i c l k j m)::N) fun a6=>.I 7 136 (z=0) (.re 7 (kCmq z) a6)<|.re 8 (.tuple #[PP a,IV 0]) a6)<|.cl 7 50 [PP a,.slice sp sl E] s<|.x3 fun O A a2=>.rt (IV A) ((a,.cells #[IV c,.slice l k j,IV m,PP p,IV q,IV 1,.bool a2] 86)::(kAoq n d e)::(kBiq o b h g f i c l k j m)::O)<|.hp ((a,.cells #[IV c,.slice l k j,IV m,PP p,IV q,IV 1,.bool a2] 86)::(kAoq n d e)::(kBiq o b h g f i c l k j m)::O) fun a7=>.I 7 136 (A=0) (.re 7 (kCmq A) a7)<|.re 8 (.tuple #[PP a,IV 0]) a7)<|.ru [8,200,1,202,2,200,4,201]<|.cl 0 46 (kEwq a d e) (yK7ab d e b i q c m a g f p n o k j h l y)<|.x4 fun G x F Q=>.rt (.slice G x F) (yK7ab d e b i q c m a g f p n o k j h l Q)<|.hp (yK7ab d e b i q c m a g f p n o k j h l Q) fun t=>.ru [9,200]<|.P 2 116 (b=0) (.cl 3 48 [IV 1] t<|.x2 fun b3 b4=>.rt (kBcq b3 b4) t<|.cl 2 47 [.string b3,IV b4] t<|.ex fun w=>.rt (.string w) t<|.cl 7 49 [PP a,IV 0,.string w] t<|.x3 fun c0 b6 U=>.rt (.slice c0 4 b6) (yK7ab d e b i q c m a g f p n o k j h l U)<|.ex fun(c4:List aa)=>.aq 1 92 92 (.slice G x F) (.slice c0 4 b6) 4 c4 (yK7ab d e b i q c m a g f p n o k j h l U)<|.x3 fun ap1 (a0:Nat) F16=>.rt (.slice ap1 (x+4) a0) (yK7ab d e b i q c m a g f p n o k j h l F16)<|.ru [9,200]<|.cl 6 50 [PP a,.slice ap1 (x+4) a0] ((a,.cells #[IV 1,.slice none 0 0,IV (w.size:Int),PP p,IV q,IV 0,.bool false] 86)::(kAoq n d e)::(kBiq o b h g f i c l k j m)::F16)<|.x3 fun V C a3=>.rt (IV C) ((a,.cells #[IV 1,.slice none 0 0,IV (w.size:Int),PP p,IV q,IV 0,.bool a3] 86)::(kAoq n d e)::(kBiq o b h g f i c l k j m)::V)<|.hp ((a,.cells #[IV 1,.slice none 0 0,IV (w.size:Int),PP p,IV q,IV 0,.bool a3] 86)::(kAoq n d e)::(kBiq o b h g f i c l k j m)::V) fun a8=>.I 7 136 (C=0) (.re 7 (kCmq C) a8)<|.re 8 (.tuple #[PP a,IV 0]) a8)<|.cl 7 50 [PP a,.slice G x F] t<|.x3 fun X D a4=>.rt (IV D) ((a,.cells #[IV b,.slice h g f,IV i,PP p,IV q,IV 0,.bool a4] 86)::(kAoq n d e)::(kBiq o b h g f i c l k j m)::X)<|.hp ((a,.cells #[IV b,.slice h g f,IV i,PP p,IV q,IV 0,.bool a4] 86)::(kAoq n d e)::(kBiq o b h g f i c l k j m)::X) fun a9=>.I 7 136 (D=0) (.re 7 (kCmq D) a9)<|.re 8 (.tuple #[PP a,IV 0]) a9)):vf c2 a n o a5 b7 p q d e b h g f i c l k j m y S w0 R:=VC.go Tryz.func13 _ H
abbrev kCkq:=(.tuple #[.pointer none,IV 242]:aa)
abbrev kEgq (x0 x1 x2 x3 x4 x5):=((x0,.cells #[IV x1,.slice x2 x3 x4,IV x5,IV 0,.slice none 0 0,IV 0] 89):Nat×Obj)
theorem T9 (a:Nat)(t:aX)(hm:Mem (t) S w0 W)(H:VP S w0 R (.cl 9 42 [PP a] (t)<|.x2 fun(l:aX) dn=>.rt (IV dn) (l)<|.P 2 21 (dn=0) (.re 6 (.tuple #[.pointer none,IV 1]) (l))<|.cl 6 42 [PP a] (l)<|.x2 fun(m:aX) dn1=>.rt (IV dn1) (m)<|.P 2 24 (dn1<64) (.re 6 (.tuple #[.pointer none,IV 240]) (m))<|.cl 6 42 [PP a] (m)<|.x2 fun(u:aX) dn2=>.rt (IV dn2) (u)<|.nf 2 (.cells #[IV 0,.slice none 0 0,IV 0,PP a,IV (ab.wrap (dn2.tdiv 2)),IV 0,.bool false] 86) fun B=>.nf 4 (.cells #[sZ,sZ] 87) fun c=>.r 23<|.dD<|.nm [0,4,5,6,31]<|.ph 9 [0,1,2,3,4,5,6,7] [8] 2<|.qu [3]<|.ex fun x=>.qc 44 [PP B,IV 0] [(c,.cells #[sZ,sZ] 87),(B,.cells #[IV 0,.slice none 0 0,IV 0,PP a,IV (ab.wrap (dn2.tdiv 2)),IV 0,.bool false] 86)] (IV x)<|.qu [3,101]<|.dn<|.cl 43 [PP a,IV x,IV (ab.wrap (dn2.tdiv 2))] ((c,.cells #[sZ,sZ] 87)::(B,.cells #[IV 0,.slice none 0 0,IV 0,PP a,IV (ab.wrap (dn2.tdiv 2)),IV 0,.bool false] 86)::u)<|.x3 fun n d re=>.rt (kBcq d re) ((c,.cells #[sZ,sZ] 87)::(B,.cells #[IV 0,.slice none 0 0,IV 0,PP a,IV (ab.wrap (dn2.tdiv 2)),IV 0,.bool false] 86)::n)<|.dn<|.nm [0,4,5,6,31,43]<|.ph 14 [9,10,11,12,13] [] 2<|.qu [5]<|.dn<|.dn<|.tl<|.I 7 47 (re=0) (.re 7 (kCmq re) ((c,.cells #[sZ,sZ] 87)::(B,.cells #[IV 0,.slice none 0 0,IV 0,PP a,IV (ab.wrap (dn2.tdiv 2)),IV 0,.bool false] 86)::n))<|.ru [6,200]<|.r 22<|.dD<|.nm [0,4,5,6,31]<|.ph 9 [0,1,2,3,4,5,6,7] [8] 2<|.qu [3]<|.ex fun y=>.qc 44 [PP B,IV 1] [(c,.cells #[.string d,sZ] 87),(B,.cells #[IV 0,.slice none 0 0,IV 0,PP a,IV (ab.wrap (dn2.tdiv 2)),IV 0,.bool false] 86)] (IV y)<|.qu [3,101]<|.dn<|.cl 43 [PP a,IV y,IV (ab.wrap (dn2.tdiv 2))] ((c,.cells #[.string d,sZ] 87)::(B,.cells #[IV 0,.slice none 0 0,IV 0,PP a,IV (ab.wrap (dn2.tdiv 2)),IV 0,.bool false] 86)::n)<|.x3 fun o h q=>.rt (kBcq h q) ((c,.cells #[.string d,sZ] 87)::(B,.cells #[IV 0,.slice none 0 0,IV 0,PP a,IV (ab.wrap (dn2.tdiv 2)),IV 0,.bool false] 86)::o)<|.dn<|.nm [0,4,5,6,31,43]<|.ph 14 [9,10,11,12,13] [] 2<|.qu [5]<|.dn<|.dn<|.tl<|.I 7 47 (q=0) (.re 7 (kCmq q) ((c,.cells #[.string d,sZ] 87)::(B,.cells #[IV 0,.slice none 0 0,IV 0,PP a,IV (ab.wrap (dn2.tdiv 2)),IV 0,.bool false] 86)::o))<|.ru [6,200]<|.nf 16 (.cells zK7aa 89) fun i=>.ru [4,201]<|.cl 23 45 [.string d] ((i,.cells zK7aa 89)::(kAoq c d h)::(B,.cells #[IV 0,.slice none 0 0,IV 0,PP a,IV (ab.wrap (dn2.tdiv 2)),IV 0,.bool false] 86)::o)<|.x5 fun b g f e pe=>.x2 fun ot p=>.rt (.tuple #[.agg #[IV b,.slice g f e,IV pe],.bool ot]) ((i,.cells zK7aa 89)::(kAoq c d h)::(B,.cells #[IV 0,.slice none 0 0,IV 0,PP a,IV (ab.wrap (dn2.tdiv 2)),IV 0,.bool false] 86)::p)<|.nf 3 (.cells kAkq 84) fun k=>.ru [200]<|.B 6 63 ot (.ru [6,200,1,201]<|.cl 26 45 [.string h] ((kAnq k b g f e pe)::(kEgq i b g f e pe)::(kAoq c d h)::(B,.cells #[IV 0,.slice none 0 0,IV 0,PP a,IV (ab.wrap (dn2.tdiv 2)),IV 0,.bool false] 86)::p)<|.x5 fun o0 q9 rM sb sS=>.x2 fun w j=>.rt (.tuple #[.agg #[IV o0,.slice q9 rM sb,IV sS],.bool w]) ((kAnq k b g f e pe)::(kEgq i b g f e pe)::(kAoq c d h)::(B,.cells #[IV 0,.slice none 0 0,IV 0,PP a,IV (ab.wrap (dn2.tdiv 2)),IV 0,.bool false] 86)::j)<|.nf 3 (.cells kAkq 84) fun s=>.ru [200]<|.B 6 63 w (.ru [6,200,1,202]<|.r 15<|.dr 8<|.qu [2,102,2,102,2]<|.dn<|.P 7 77 (0<b) (.P 4 81 (0<o0) (.I 6 87 ((ab.wrap (b-o0))=1) (.I 6 92 ((ab.wrap (o0-b))=1) (.re 6 kCkq ((kAnq s o0 q9 rM sb sS)::(kAnq k b g f e pe)::(kBiq i b g f e pe o0 q9 rM sb sS)::(kAoq c d h)::(B,.cells #[IV 0,.slice none 0 0,IV 0,PP a,IV (ab.wrap (dn2.tdiv 2)),IV 0,.bool false] 86)::j))<|.cT 3 [4,3,2] 5 (vf a B c i b o0 a (ab.wrap (dn2.tdiv 2)) d h b g f e pe o0 q9 rM sb sS j S))<|.cT 9 [4,3,2] 5 (vf a B c i b o0 a (ab.wrap (dn2.tdiv 2)) d h b g f e pe o0 q9 rM sb sS j S))<|.cT 15 [4,3,2] 5 (vf a B c i b o0 a (ab.wrap (dn2.tdiv 2)) d h b g f e pe o0 q9 rM sb sS j S))<|.cT 19 [4,3,2] 5 (vf a B c i b o0 a (ab.wrap (dn2.tdiv 2)) d h b g f e pe o0 q9 rM sb sS j S))<|.re 8 kCkq ((kAnq s o0 q9 rM sb sS)::(kAnq k b g f e pe)::(kEgq i b g f e pe)::(kAoq c d h)::(B,.cells #[IV 0,.slice none 0 0,IV 0,PP a,IV (ab.wrap (dn2.tdiv 2)),IV 0,.bool false] 86)::j))<|.re 8 kCkq ((kAnq k b g f e pe)::(i,.cells zK7aa 89)::(kAoq c d h)::(B,.cells #[IV 0,.slice none 0 0,IV 0,PP a,IV (ab.wrap (dn2.tdiv 2)),IV 0,.bool false] 86)::p))):aE TP 13 ⟨[PP a]⟩ W R:=VC.cs Tryz.func13 hm _ H
def ng (d:DS):List UInt8:=d.vis.take (d.vis.length/2)
def na (d:DS):List UInt8:=(d.vis.drop (d.vis.length/2)).take (d.vis.length/2)
def pQ (sz:Nat)(h0 h1:Int×List dF×Nat):JM:=if h0.1<h1.1 then⟨h1.1,h1.2.1,h1.2.2,sz,1,false⟩else⟨h0.1,h0.2.1,h0.2.2,sz,0,false⟩
def p9 (i0 i1:List UInt8)(j:JM):List lC:=if j.gen=0 then px j.gen j.cu j.en j.sz i0 i1++l8 0 (ba (lA 1))else px j.gen j.cu j.en j.sz i0 i1
def wj (j:JM):JM:=if j.gen=0 then⟨1,[],(lA 1).length,j.sz,j.cu,j.br⟩else j
def nL (i0 i1:List UInt8)(j:JM)(d:DS):Int×Option JM×DS:=
 if(ln (p9 i0 i1 j) d).1=0 then(0,some (wj j),(ln (p9 i0 i1 j) d).2)else((ln (p9 i0 i1 j) d).1,none,(ln (p9 i0 i1 j) d).2)
def mn (d:DS):Int×Option JM×DS:=
 if d.vis.length<64 then(240,none,d)else if d.on=false then(231,none,d)else
 match mf (ng d),mf (na d)with
 |some h0,some h1=>if 0<h0.1∧0<h1.1∧¬(h0.1-h1.1=1)∧¬(h1.1-h0.1=1)then(242,none,d)else nL (ng d) (na d) (pQ (d.vis.length/2) h0 h1) d
 |_,_=>(242,none,d)
def GR (D:Nat)(r:Int×Option JM×DS)(v:aa)(L':aX):Prop:=
 match r with
 |(e,none,d')=>v=.tuple #[.pointer none,.int .i64 e]∧∃F' X,L'.Perm (F'++X)∧mV D d' F'
 |(e,some m,d')=>∃JB,v=.tuple #[pt JB 0,.int .i64 0]∧JD JB D m d' L'
theorem Yd {JB D:Nat}{ops:List lC}{q:OA}{qc n:Nat}{N F:aX}{j:JS}{d:DS}(a2:nT JB D ops q qc N)(hn:ops.length=n)(a1:n≤1000)(O:mV D d F)(hp:d.pend.length<900000):
  lP TP 50 ⟨[pt JB 0,.slice q n qc]⟩ (jH JB D j::(F++N)) (EN JB D j N (ln ops d)):=by
 subst hn;obtain⟨a6,⟨rfl,rfl,rfl⟩|⟨Q,cs,a5,rfl,M,a7,V⟩⟩:=a2
 ·intro W hm
  refine IB JB none 0 0 j.gen j.fp j.fl j.fc j.en D j.sz j.cu j.br (F++N) hm ?_;apply CZ;exact no (by omega) (kR ⟨F,rfl,rfl,O⟩)
 ·refine DC (Bs:=Q) (vs:=cs) (sc:=qc) (M.mem_iff.2 au) (by omega) (fun i hi=>?_) a1 O hp
  obtain⟨v,k1,a4⟩:=V i hi;have:cs[i]'(by omega)=v:=by
   rw[ar (by omega)]at k1;exact bY k1
  rw[this];exact a4.mono fun x a3=>M.mem_iff.2 (ag _ a3)
theorem eA.nd {P:Program}{L:aX}{S:List Nat}{w0:aj}{g:FuncId}{args:Array aa}{K K':aa→aX→Prop}(h:eA P g args L S w0 K)(a1:∀v L',K v L'→∃M,L'.Perm M∧K' v M):eA P g args L S w0 K':=
 fun W hm=>(h W hm).mono fun _ _ ⟨v,L',h1,h2,h3⟩=>by
  obtain⟨M,O,V⟩:=a1 v L' h3;exact⟨v,M,h1,h2.perm O.symm,V⟩
section perms
variable (x y z q u:Nat×Obj)(A F T X Z N G Y L F8:aX)
theorem TG:((x::X)++(y::z::A)).Perm (x::y::z::(X++A)):=perm_a
theorem GH (hp:L.Perm (x::(N++(Y++(y::z::F8))))):L.Perm (x::y::z::(N++(Y++F8))):=lR fun c w M O V a1=>by
 have:=a1 _ _ hp;simp only[M,O,V]at this ⊢;omega
theorem T4 (hp:F8.Perm (F++T)):((x::(F++N))++(y::z::(Y++T))).Perm (x::y::z::(N++(Y++F8))):=lR fun c w M O V a1=>by
 have:=a1 _ _ hp;simp only[M,O,V]at this ⊢;omega
theorem YG:((x::(F++N))++(y::z::(Y++T))).Perm (x::y::z::(F++(N++(Y++T)))):=perm_a
theorem Tu:(x::y::z::(F++A)).Perm (F++(x::y::z::A)):=perm_a
theorem PX:(x::y::z::(F++(N++(Y++T)))).Perm (x::(F++((y::z::(N++Y))++T))):=perm_a
theorem Yr (hp:F8.Perm (F++T)):(x::y::z::(X++(N++(Y++F8)))).Perm (X++(N++(x::y::z::(Y++(F++T))))):=lR fun c w M O V a1=>by
 have:=a1 _ _ hp;simp only[M,O,V]at this ⊢;omega
theorem TO:(N++(x::y::z::(Y++(F++T)))).Perm (x::y::z::(N++(Y++(F++T)))):=perm_a
end perms
section xi
variable {JB D:Nat}{m:JM}{p:Option Addr}{c:Nat}{T F F8:aX}{S:List Nat}{w0:World}(y z:Nat×Obj)
abbrev zu (S:List Nat)(w0:aj)(D:Nat)(r:Int×Option JM×DS):Ending→aj→Prop:=fun e W'=>∃v L',e=.returned v∧Mem L' S w0 W'∧GR D r v L'
theorem Em {d : DS}{i0 i1:List UInt8}{M:JM}{ops:List lC}{q:OA}{qc n:Nat}{N Y:aX}(b1:wj M=m)(b5:p9 i0 i1 M=ops)(a5:F8.Perm (F++T))(a6:lj mI m.fs p c T)(b6:nT JB D ops q qc N)(hn:ops.length=n)(b4:n≤1000)(a9:mV D d F)(hp:d.pend.length<900000):
    eA TP 50 ⟨[pt JB 0,.slice q n qc]⟩ (jH JB D (m.js p c)::y::z::(N++(Y++F8))) S w0 (fun v L'=>∃(V:aX) (O:Int) (a1:Bool),v=(.int .i64 O)∧L'=(jH JB D {m.js p c with br:=a1}::y::z::V)∧
              ((¬(O=(0:Int)))→
                Fin (zu S w0 D (nL i0 i1 M d)) (jH JB D {m.js p c with br:=a1}::y::z::V) S w0 (.tuple #[.pointer none,.int .i64 O]))∧
               ((O=(0:Int))→
                Fin (zu S w0 D (nL i0 i1 M d)) (jH JB D {m.js p c with br:=a1}::y::z::V) S w0 (.tuple #[.pointer (SO JB),.int .i64 (0:Int)]))):=by
  refine eA.lF (L0:=jH JB D (m.js p c)::(F++N)) (L1:=y::z::(Y++T)) (Yd (j:=m.js p c) b6 hn b4 a9 hp) (T4 _ _ _ _ _ _ _ _ a5) ?_;rintro _ _ ⟨F',rfl,rfl,a3⟩;have a2:nL i0 i1 M d=if(ln ops d).1=0 then(0,some m,(ln ops d).2)else((ln ops d).1,none,(ln ops d).2):=by rw[nL,b5,b1]
  generalize ln ops d=r at*;have a7:jH JB D ((m.js p c).after r.1)=jH JB D {m.js p c with br:=((m.js p c).after r.1).br}:=by
    unfold JS.after;split<;>rfl
  rw[a7];refine⟨_,YG _ _ _ _ _ _ _,_,r.1,((m.js p c).after r.1).br,rfl,rfl,fun b3=>?_,fun a4=>?_⟩
  · rw[a2,if_neg b3]
    exact kR ⟨rfl,F',_,Tu _ _ _ _ _,a3⟩
  · rw[a2,if_pos a4]
    have a8:((m.js p c).after r.1).br=m.br:=by rw[JS.after,if_pos a4]
    rw[a8];exact kR ⟨JB,rfl,F',p,c,_,PX _ _ _ _ _ _ _,a3,a6.more _⟩
theorem u7 (k sz fr:Nat)(img:List UInt8):(mr k sz fr img).length≤1:=by
 unfold mr;split
 ·exact bx _
 ·exact aD 1
theorem EE (gen:Int)(cu en sz:Nat)(i0 i1:List UInt8):(px gen cu en sz i0 i1).length≤3:=by
 have M:=u7 0 sz en i0;have O:=u7 1 sz 0 i1;have V:=u7 0 sz 0 i0;have a1:=u7 1 sz en i1;have key:∀l:List lC,l.length≤2→(nu l).length≤3:=by
  intro l a2;unfold nu;split
  ·exact bx _
  ·rw[ae];simp;omega
 unfold px;apply key
 repeat' split
 all_goals rw[ae];omega
theorem Ui {L X:aX}{ops:List lC}{Bs:Nat}(hn:ops.length=4)(h:KH X JB D ops Bs)(a3:∀x∈X,x∈L):∃news:List aa,(∀W,Mem L S w0 W→Go.Src TP 1 92 (.slice (SO Bs) 4 4) 4 news W)∧∃a1:ops.length=news.length,∀i (hi:i<ops.length),qF X JB D ops[i] (news[i]'(by omega)):=by
 obtain⟨vs,t,fz,a2,a4,V⟩:=h;have a1:(vs.take 4).length=4:=by rw[ao];omega
 refine⟨vs.take 4,fun W hm=>Go.Src.ofSlice W (e':=53) (by kernel_rfl) ⟨Bs,0,none⟩ 4 4 (vs.take 4) a1 (fun j u M=>?_) (fun u M=>?_),by omega,fun i hi=>?_⟩
 ·rw[pN,az,cell_of_heap (hm.here _ (a3 _ a2))]
  rw[List.getElem?_take]at M;split at M
  ·exact M
  ·cases M
 ·obtain⟨i,hi,rfl⟩:=List.mem_iff_getElem.1 M
  have O:=V i (by omega);rw[fO]
  revert O
  generalize ops[i]'(by omega)=o;intro O;cases o with
  |sync=>rw[show vs[i]'(by omega)=_ from O];rfl
  |write off s=>obtain⟨a,b,c,e,_⟩:=O;rw[e];rfl
 ·rw[fO];exact V i hi
theorem RI {d:DS}{rs rs1:BA}{sz:Nat}{g0 g1:Int}{f0 f1:List dF}{e0 e1:Nat}{p0 p1:OA}{c0 c1:Nat}{B6 B7:Nat}(b7:lG w0 0=some mH)(b1:0∉S)(a7:sz≤2097152)(a4:rs.size≤2097152)(a5:rs1.size≤2097152)(b5:e0≤rs.size)(b6:e1≤rs1.size)(d4:0≤g0)
  (V:F8.Perm (F++T))(b3:lj mI f0 p0 c0 T)(b4:lj mI f1 p1 c1 T)(a1:mV D d F)(hp:d.pend.length<900000):
  vf D JB B6 B7 g0 g1 D (sz:Int) rs rs1 g0 p0 f0.length c0 (e0:Int) g1 p1 f1.length c1 (e1:Int) F8 S w0 (zu S w0 D (nL (bb rs) (bb rs1) (pQ sz (g0,f0,e0) (g1,f1,e1)) d)):=by
 apply QA;refine⟨fun a6=>?_,fun b9=>?_⟩
 ·have a2:pQ sz (g0,f0,e0) (g1,f1,e1)=⟨g1,f1,e1,sz,1,false⟩:=if_pos a6
  rw[a2];refine eA.nd (fun W hm=>PQ (JB:=JB) (D:=D) (p:=p1) (c:=c1) (gen:=g1) (fs:=f1) (en:=e1) (br:=false) a7 a4 a5 b6 hm) ?_;rintro _ L' ⟨q,qc,N,Y,rfl,a3,O⟩;have c2:=EE g1 1 e1 sz (bb rs) (bb rs1);refine⟨_,GH _ _ _ _ _ _ _ a3,q,_,qc,_,rfl,rfl,fun M=>absurd a6 (by omega),fun M=>?_⟩;exact Em (m:=⟨g1,f1,e1,sz,1,false⟩) (p:=p1) (c:=c1) _ _ (if_neg M) (if_neg M) V b4 O rfl (by omega) a1 hp
 ·have a2:pQ sz (g0,f0,e0) (g1,f1,e1)=⟨g0,f0,e0,sz,0,false⟩:=if_neg b9
  rw[a2];refine eA.nd (fun W hm=>YJ (JB:=JB) (D:=D) (p:=p0) (c:=c0) (gen:=g0) (fs:=f0) (en:=e0) (br:=false) a7 a4 a5 b5 hm) ?_;rintro _ L' ⟨q,qc,N,Y,rfl,a3,O⟩;have c2:=EE g0 0 e0 sz (bb rs) (bb rs1);refine⟨_,GH _ _ _ _ _ _ _ a3,q,_,qc,_,rfl,rfl,fun M=>?_,fun M=>?_⟩
  ·refine eA.pure (ze _) ⟨od 1,0,if_pos (mg (by omega)),rfl,?_⟩
   have d2:=lx 1;refine eA.tZ (Fk (by rw[vz];omega)) b1 b7 ⟨_,rfl,rfl,?_⟩;have a8:mD (bb (od 1))=lA 1:=by rw[ta];rfl
   rw[a8];have d3:=tz 1;have a9:(ba (lA 1)).size=(lA 1).length:=lY _;have d5:1≤(lA 1).length:=by rw[lA,mD];simp
   refine eA.lF (L0:=[jH JB D ((JM.mk g0 f0 e0 sz 0 false).js p0 c0)]) (L1:=(B6,_)::(B7,_)::(N++(Y++F8))) (Hw (j:=(JM.mk g0 f0 e0 sz 0 false).js p0 c0) (by omega) (by omega)) (ah _) ?_;rintro _ _ ⟨Bs,X,rfl,rfl,c7⟩;refine⟨_,TG _ _ _ _ _,some ⟨Bs,0,none⟩,4,_,rfl,rfl,?_⟩;obtain⟨news,n1,n2,c9⟩:=Ui (S:=S) (w0:=w0) (L:=(JB,.cells #[.int .i64 g0,.slice p0 f0.length c0,.int .i64 (e0:Int),.pointer (SO D),.int .i64 (sz:Int),.int .i64 (0:Int),.bool false] 86)::(B6,.cells #[.string rs,.string rs1] 87)::(B7,.cells #[.int .i64 g0,.slice p0 f0.length c0,.int .i64 (e0:Int),.int .i64 g1,.slice p1 f1.length c1,.int .i64 (e1:Int)] 89)::(X++(N++(Y++F8)))) rfl c7 (fun x c8=>by simp[c8]);refine⟨news,n1,?_⟩;have c4:4=news.length:=n2;refine(nT.push (os:=l8 0 (ba (lA 1))) (vs:=news) O rfl (by omega) n2 (by omega) (by omega) c9 (Yr _ _ _ _ _ _ _ _ _ V) c4).nd ?_;rintro _ d0 ⟨p',c',d1,rfl,c5,c6⟩;refine⟨_,c5.trans (TO _ _ _ _ _ _ _),p',c',_,rfl,rfl,?_⟩;have c3:(px g0 0 e0 sz (bb rs) (bb rs1)++l8 0 (ba (lA 1))).length=(px g0 0 e0 sz (bb rs) (bb rs1)).length+4:=by rw[ae];rfl
   rw[a9];exact Em (m:=⟨1,[],(lA 1).length,sz,0,false⟩) (p:=none) (c:=0) (F8:=F++T) _ _ (if_pos M) (if_pos M) (ah _) lj.oz c6 c3 (by omega) a1 hp
  ·exact Em (m:=⟨g0,f0,e0,sz,0,false⟩) (p:=p0) (c:=c0) _ _ (if_neg M) (if_neg M) V b3 O rfl (by omega) a1 hp
end xi
theorem eA.NL {P:Program}{S:List Nat}{g:FuncId}{args:Array aa}{w0:aj}{M:aj→Prop}{K K':aa→aX→Prop}(told:aX){T:aX}(h:m0 P g args [] M K)(a1:∀W,Mem (told++T) S w0 W→M W)
  (O:∀v F',K v F'→K' v (told++(F'++T))):eA P g args (told++T) S w0 K':=
 eA.nX (L0:=[]) (L1:=told++T) h a1 (ah _) fun v F' V=>⟨told++(F'++T),List.perm_append_comm_assoc _ _ _,O v F' V⟩
theorem vh {l:List UInt8}{g:Int}{fs:List dF}{e:Nat}(h:mf l=some (g,fs,e)):0≤g∧g≤4611686018427387903∧e≤l.length:=by
 rcases C5 h with⟨rfl,_,rfl,_⟩|⟨h1,h2,_,h4,t,h5,_⟩
 ·exact⟨by omega,by omega,bx _⟩
 ·unfold lU nY at h2
  refine⟨by omega,by omega,?_⟩;have:=congrArg List.length h5;rw[@ae _ (cont g fs) t]at this;omega
theorem WD {F M O:aX}:(O++(M++F)).Perm (F++(O++M)):=perm_a
section perms
variable (x y z u v:Nat×Obj)(F N0 N1:aX)
theorem Q3:(x::y::z::u::(N0++F)).Perm (F++(x::y::z::u::N0)):=perm_a
theorem LD:(x::y::z::u::v::(N1++(N0++F))).Perm (F++(x::y::z::u::v::(N1++N0))):=perm_a
end perms
theorem HO {D:Nat}{d:DS}{F:aX}(b9:mV D d F)(hp:d.pend.length<900000):m0 TP 13 ⟨[pt D 0]⟩ F (fun W=>0∉F.map (·.1)∧lG W 0=some mH) (GR D (mn d)):=by
 intro W hm ⟨hS,hg⟩;generalize F.map (·.1)=S at*;have c5:=b9.1;have f5:=c5.pos;have f4:=c5.le;refine T9 D F hm (eA.dT [] (A6 b9) fun c7 d1=>⟨c7,_,rfl,rfl,no (by omega) (eA.dT [] (A6 d1) fun b6 c2=>⟨b6,_,rfl,rfl,fun d7=>?_,fun d7=>?_⟩)⟩)
 ·have e:mn d=(240,none,d):=if_pos (by omega)
  rw[e];exact kR ⟨rfl,b6,[],by simp,c2⟩
 ·refine eA.dT [] (A6 c2) fun c8 d2=>⟨c8,_,rfl,rfl,fun B b5=>?_⟩
  have d8:ab.wrap (((d.vis.length:Nat):Int).tdiv 2)=((d.vis.length/2:Nat):Int):=by
   have e:((d.vis.length:Nat):Int).tdiv 2=((d.vis.length/2:Nat):Int):=rfl;rw[e,kS (by omega)]
  try dsimp only
  simp only[d8];have M:mn d=if d.on=false then(231,none,d)else
    match mf (ng d),mf (na d)with
    |some h0,some a2=>if 0<h0.1∧0<a2.1∧¬(h0.1-a2.1=1)∧¬(a2.1-h0.1=1)then(242,none,d)else nL (ng d) (na d) (pQ (d.vis.length/2) h0 a2) d
    |_,_=>(242,none,d):=if_neg (by omega)
  have d9:d.vis.length/2≤2097152:=by omega
  have f2:d.cut=d.cut:=rfl;refine⟨((0*(d.vis.length/2):Nat):Int),m3.pw fun a7 a3=>wV (k:=0) (m:=⟨0,[],0,d.vis.length/2,0,false⟩) (p:=none) (c:=0) (D:=D) (a3.here (jH B D _) (ag _ au)) (by decide) (by show d.vis.length/2≤4194304;omega),?_⟩;refine eA.dT [_,_] (FQ d2 (by omega)) fun b7 c3=>⟨b7,_,_,rfl,rfl,?_⟩
  cases hon:d.on with
  |false=>
   have a6:∀off n,d.read off n=(⟨#[]⟩,231):=fun off n=>if_pos hon
   rw[a6];refine⟨fun _=>?_,fun h=>absurd h (by decide)⟩;rw[M,if_pos hon];exact kR ⟨rfl,b7,[_,_],aw (l₁:=[_,_]),c3⟩
  | true=>
   rw[if_neg (by rw[hon];decide)]at M;have a6:∀k:Nat,k≤1→d.read ((k*(d.vis.length/2):Nat):Int) ((d.vis.length/2:Nat):Int)=(ba ((d.vis.drop (k*(d.vis.length/2))).take (d.vis.length/2)),0):=by
    intro k d3;have f3:k*(d.vis.length/2)≤1*(d.vis.length/2):=bI _ d3;rw[DS.read,if_neg (by rw[hon];decide),if_pos (by omega)];simp only[ai]
   have e0:(d.vis.drop (0*(d.vis.length/2))).take (d.vis.length/2)=ng d:=by rw[Nat.zero_mul,aU];rfl
   have e1:(d.vis.drop (1*(d.vis.length/2))).take (d.vis.length/2)=na d:=by rw[Nat.one_mul];rfl
   have e2:(ng d).length=d.vis.length/2:=by rw[ng,ao];omega
   have e3:(na d).length=d.vis.length/2:=by rw[na,ao,aZ];omega
   rw[a6 0 (by omega),e0];refine⟨fun h=>absurd rfl h,fun _=>⟨((1*(d.vis.length/2):Nat):Int),m3.pw fun a7 a3=>wV (k:=1) (m:=⟨0,[],0,d.vis.length/2,0,false⟩) (p:=none) (c:=0) (D:=D) (a3.here (jH B D _) (ag _ au)) (by decide) (by show d.vis.length/2≤4194304;omega),?_⟩⟩;refine eA.dT [_,_] (FQ c3 (by omega)) fun O c4=>⟨O,_,_,rfl,rfl,?_⟩
   rw[a6 1 (by omega),e1];refine⟨fun h=>absurd rfl h,fun _ B2=>?_⟩;have f6:(ba (ng d)).size=d.vis.length/2:=by rw[lY (ng d),e2]
   have f7:(ba (na d)).size=d.vis.length/2:=by rw[lY (na d),e3]
   have bad:∀{L:aX} {X:aX},mn d=(242,none,d)→L.Perm (O++X)→Fin (zu S W D (mn d)) L S W (.tuple #[.pointer none,.int .i64 (242:Int)]):=by
    intro L X a2 d0;rw[a2];exact kR ⟨rfl,O,X,d0,c4⟩
   refine eA.NL [_,_,_] (Hc (s:=ba (ng d)) (by omega) (by omega)) (fun a7 a3=>sh a3.kept hS hg) ?_;intro v V a4;rw[sX,mA]at a4;cases hh0:mf (ng d)with
   |none=>
    rw[hh0]at a4 M;simp only at a4 M;subst a4;refine⟨0,none,0,0,0,false,_,rfl,rfl,fun B3=>⟨fun h=>de h,fun _=>bad (X:=_::_::_::_::V) M (Q3 _ _ _ _ O V)⟩⟩
   | some h0=>
    obtain⟨g0,f0,b4⟩:=h0;rw[hh0]at a4 M;simp only at a4;obtain⟨p0,c0,rfl,d5⟩:=a4;obtain⟨c9,e6,e7⟩:=vh hh0;refine⟨g0,p0,f0.length,c0,(b4:Int),true,_,rfl,rfl,fun B3=>⟨fun _=>?_,fun h=>de h⟩⟩;refine eA.NL [_,_,_,_] (Hc (s:=ba (na d)) (by omega) (by omega)) (fun a7 a3=>sh a3.kept hS hg) ?_;intro v a1 a5;rw[sX,mA]at a5;cases hh1:mf (na d)with
    |none=>
     rw[hh1]at a5 M;simp only at a5 M;subst a5;exact⟨0,none,0,0,0,false,_,rfl,rfl,fun c6=>⟨fun h=>de h,fun _=>bad (X:=_::_::_::_::_::(a1++V)) M (LD _ _ _ _ _ O V a1)⟩⟩
    | some a2=>
     obtain⟨g1,f1,n1⟩:=a2;rw[hh1]at a5 M;simp only at a5 M;obtain⟨p1,c1,rfl,d6⟩:=a5;obtain⟨e8,e9,gf⟩:=vh hh1;refine⟨g1,p1,f1.length,c1,(n1:Int),true,_,rfl,rfl,fun c6=>⟨fun _=>?_,fun h=>de h⟩⟩;have e4:ab.wrap (g0-g1)=g0-g1:=kS (by omega);have e5:ab.wrap (g1-g0)=g1-g0:=kS (by omega);simp only[e4,e5];have go:¬(0<g0∧0<g1∧¬(g0-g1=1)∧¬(g1-g0=1))→vf D B b5 B2 g0 g1 D ((d.vis.length/2:Nat):Int) (ba (ng d)) (ba (na d)) g0 p0 f0.length c0 (b4:Int) g1 p1 f1.length c1 (n1:Int) (a1++(V++O)) S W (zu S W D (mn d)):=by
      intro d4;rw[M,if_neg d4];have:=RI (JB:=B) (D:=D) (F8:=a1++(V++O)) (F:=O) (T:=a1++V) (S:=S) (w0:=W) (d:=d) (rs:=ba (ng d)) (rs1:=ba (na d)) (sz:=d.vis.length/2) (g0:=g0) (g1:=g1) (f0:=f0) (f1:=f1) (e0:=b4) (e1:=n1) (p0:=p0) (p1:=p1) (c0:=c0) (c1:=c1) (B6:=b5) (B7:=B2) hg hS d9 (by omega) (by omega) (by omega) (by omega) c9 (WD (F:=O)) (d5.more a1) ((d6.more V).perm aw) c4 hp;rw[mA,mA]at this;exact this
     exact⟨fun a8=>⟨fun a9=>⟨fun b1=>⟨fun b3=>bad (X:=_::_::_::_::_::(a1++V)) (by rw[M,if_pos ⟨a8,a9,b1,b3⟩]) (LD _ _ _ _ _ O V a1),fun b3=>go fun h=>h.2.2.2 b3⟩,fun b1=>go fun h=>h.2.2.1 b1⟩,fun a9=>go fun h=>a9 h.2.1⟩,fun a8=>go fun h=>a8 h.1⟩
theorem o6.none {b x:List UInt8}(h:o6 [] b x):x=b:=by cases h;rfl
theorem o6.one {o:Nat}{s:BA}{b x:List UInt8}(h:o6 [(o,s)] b x):∃t,x=lu b o ((bb s).take t):=by
 cases h with
 |cons t h=>exact⟨t,h.none⟩
theorem Gq:∀(p:List (Nat×BA)) (b:List UInt8),o6 p b (oU p b)
 |[],b=>.nil b
 |(o,s)::r,b=>by
  refine .cons (bb s).length ?_;rw[List.take_length];exact Gq r _
section inv
variable {Z:Nat×ByteArray→Prop}{G:List UInt8→Prop}(hstep:∀b o s t,G b→Z (o,s)→G (lu b o ((bb s).take t)))
include hstep
theorem Ay {p:List (Nat×BA)}{b x:List UInt8}(h:o6 p b x):G b→(∀q∈p,Z q)→G x:=by
 induction h with
 |nil b=>exact fun h _=>h
 |cons t h ih=>exact fun O M=>ih (hstep _ _ _ _ O (M _ au)) fun q V=>M q (ag _ V)
theorem Gk:∀{ops:List lC} {b x:List UInt8} {p:List (Nat×BA)},pJ ops b p x→(∀o s,lC.write o s∈ops→Z (o.toNat,s))→G b→(∀q∈p,Z q)→G x
 |[],b,x,p,h,_,h1,h2=>Ay hstep h h1 h2
 | .sync::r,b,x,p,h,ho,h1,h2=>by
  rcases h with h|h
  ·exact Ay hstep h h1 h2
  ·exact Gk h (fun o s hm=>ho o s (ag _ hm)) (Ay hstep (Gq p b) h1 h2) fun q M=>by cases M
 | .write o s::r,b,x,p,h,ho,h1,h2=>by
  rcases h with h|h
  ·exact Ay hstep h h1 h2
  ·refine Gk h (fun o s hm=>ho o s (ag _ hm)) h1 fun q M=>?_
   rcases List.mem_append.1 M with M|M
   ·exact h2 q M
   ·simp only[List.mem_singleton]at M
    subst M;exact ho o s au
end inv
theorem AZ (b:UInt8)(r:List UInt8):bb (tH (ba (b::r)))=r:=by
 rw[tH,tA,mA];have:(ba (b::r)).size=r.length+1:=lY (b::r);rw[this];simp
theorem Bm (b:UInt8)(r:List UInt8):bb (tO (ba (b::r)))=[b]:=by
 rw[tO,tA,mA];simp
theorem Kc {A t s:List UInt8}{o:Nat}(h:o+s.length≤t.length):lu (A++t) (A.length+o) s=A++lu t o s:=by
 have:=xo (A:=A) (B:=t) (C:=[]) (s:=s) (o:=o) h;simpa using this
theorem H2 {k:Nat}{s:List UInt8}(h:1≤k):Ends (lu (zs k) 1 s):=by
 obtain⟨k,rfl⟩:∃m,k=m+1:=⟨k-1,by omega⟩;refine .inr ⟨s++(zs (k+1)).drop (1+s.length),?_⟩;unfold lu;rw[A1,dj (by omega)];rfl
theorem take_one (b:UInt8)(t:Nat):([b]:List UInt8).take t=[]∨([b]:List UInt8).take t=[b]:=by
 cases t with
 |zero=>exact .inl rfl
 |succ t=>exact .inr (by simp)
section safe
variable {H:List UInt8→List UInt8}{base sz:Nat}(hH:∀X o s,X.length=sz→o+s.length≤sz→lu (H X) (base+o) s=H (lu X o s))
include hH
theorem IG {A r':List UInt8}{k off:Nat}(a4:off=base+A.length)(a1:A.length+k=sz)(a5:r'.length+1≤k):
  (∀t,∃q,Ends q∧q.length=k∧lu (H (A++zs k)) (off+1) (r'.take t)=H (A++q))∧
  (∃q,Ends q∧q.length=k∧lu (H (A++zs k)) (off+1) r'=H (A++q)∧lu (H (A++q)) off [1]=H (A++(1::r')++zs (k-(r'.length+1)))):=by
 subst a4;have key:∀s:List UInt8,s.length+1≤k→lu (H (A++zs k)) (base+A.length+1) s=H (A++lu (zs k) 1 s)∧(lu (zs k) 1 s).length=k:=by
  intro s a6;have O:=nC k;have e:=hH (A++zs k) (A.length+1) s (by rw[ae,O];exact a1) (by omega);rw[Nat.add_assoc,e,Kc (by omega)];exact⟨rfl,by rw[qw (by omega),O]⟩
 refine⟨fun t=>?_,?_⟩
 ·have O:(r'.take t).length≤r'.length:=by rw[ao];exact Nat.min_le_right _ _
  obtain⟨e1,M⟩:=key (r'.take t) (by omega);exact⟨_,H2 (by omega),M,e1⟩
 ·obtain⟨e1,M⟩:=key r' a5
  refine⟨_,H2 (by omega),M,e1,?_⟩;have a2:=hH (A++lu (zs k) 1 r') A.length [1] (by rw[ae,M];exact a1) (by simp;omega);rw[a2];congr 1;have V:=Kc (A:=A) (t:=lu (zs k) 1 r') (s:=[1]) (o:=0) (by rw[M];simp;omega);rw[fC]at V;rw[V,an];congr 1;unfold lu;have a3:(zs k).take 1=[0]:=by
   rw[A1,dj (by omega)];rfl
  rw[a3,Nk];simp;congr 1;omega
theorem MJ {A r':List UInt8}{k off:Nat}{more:List lC}{x:List UInt8}(a4:off=base+A.length)(a3:A.length+k=sz)(a5:r'.length+1≤k)(h:pJ (l8 (off:Int) (ba (1::r'))++more) (H (A++zs k)) [] x):
  (∃q,Ends q∧q.length=k∧x=H (A++q))∨pJ more (H (A++(1::r')++zs (k-(r'.length+1)))) [] x:=by
 obtain⟨a9,M,O,V,b1,a1⟩:=IG hH a4 a3 a5;have a2:((off:Int)+1).toNat=off+1:=by omega
 simp only[l8,aY,aT,pJ,oU,a2,ai,AZ,Bm,b1,a1]at h;rcases h with h|h|h|h|h
 ·exact .inl ⟨zs k,tg k,nC k,h.none⟩
 ·obtain⟨t,e⟩:=h.one
  rw[AZ]at e;obtain⟨q,a6,a7,a8⟩:=a9 t;exact .inl ⟨q,a6,a7,e.trans a8⟩
 ·exact .inl ⟨M,O,V,h.none⟩
 ·obtain⟨t,e⟩:=h.one
  rw[Bm]at e;rcases take_one 1 t with e1|e1
  ·rw[e1,vA]at e;exact .inl ⟨M,O,V,e⟩
  ·rw[e1,a1]at e
   exact .inr (pJ.now (e▸ .nil _) more)
 ·exact .inr h
theorem FT {A r':List UInt8}{k off:Nat}{more:List lC}(V:off=base+A.length)(O:A.length+k=sz)(a1:r'.length+1≤k):
  qD (l8 (off:Int) (ba (1::r'))++more) (H (A++zs k)) []=qD more (H (A++(1::r')++zs (k-(r'.length+1)))) []:=by
 obtain⟨a5,a4,a6,a7,a2,a3⟩:=IG hH V O a1;have M:((off:Int)+1).toNat=off+1:=by omega
 simp only[l8,aY,aT,qD,oU,M,ai,AZ,Bm,a2,a3]
end safe
structure Gn (g:Int)(fs:List dF):Prop where
 one:1≤g
 ok:g≤4611686018427387903
 numb:oh fs 1
theorem Gn.lU {g:Int}{fs:List dF}(h:Gn g fs):lU g:=by have M:=h.one;have O:=h.ok;unfold Wire.lU nY;omega
def EJ (g:Int)(Y:List UInt8):Prop:=Ends Y∨∃fs' t,Gn (g-1) fs'∧Y=cont (g-1) fs'++t∧Ends t
def Gm (c sz:Nat)(R:List UInt8)(g:Int)(fs:List dF)(b:List UInt8):Prop:=
 ∃t Y,b=lay c (cont g fs++t) Y R∧(cont g fs).length+t.length=sz∧Y.length=sz∧Ends t∧EJ g Y
def Good (sz:Nat)(R:List UInt8)(g:Int)(fs:List dF)(b:List UInt8):Prop:=Gn g fs∧∃c,c≤1∧Gm c sz R g fs b
def ZW (c sz e:Nat)(q:Nat×BA):Prop:=(q.1=(1-c)*sz∧∃k,k≤sz∧bb q.2=zs k)∨(q.1=c*sz+e∧∃k,e+k≤sz∧bb q.2=zs k)
theorem Qp {c sz:Nat}{R:List UInt8}{g:Int}{fs:List dF}(hc:c≤1):∀(b:List UInt8) (o:Nat) (s:BA) (t:Nat),Gm c sz R g fs b→ZW c sz (cont g fs).length (o,s)→Gm c sz R g fs (lu b o ((bb s).take t)):=by
 rintro b o s n ⟨t,Y,rfl,O,M,a2,a3⟩ (⟨rfl,k,a5,a1⟩|⟨rfl,k,a5,a1⟩)
 ·rw[a1,A1]
  have V:(cont g fs++t).length=sz:=by rw[ae];exact O
  have:=HG (c:=c) (sz:=sz) (o:=0) (X:=cont g fs++t) (Y:=Y) (R:=R) (s:=zs (min n k)) hc V M (by rw[nC];omega);rw[fC]at this;rw[this];refine⟨t,lu Y 0 (zs (min n k)),rfl,O,by rw[qw (by rw[nC];omega)];exact M,a2,?_⟩;rcases Nat.eq_zero_or_pos (min n k)with h0|hp
  ·rw[h0]
   have:lu Y 0 (zs 0)=Y:=vA Y 0;rw[this];exact a3
  ·exact .inl (LW (by omega) hp)
 ·rw[a1,A1]
  have V:(cont g fs++t).length=sz:=by rw[ae];exact O
  have:=Bt (c:=c) (sz:=sz) (o:=(cont g fs).length) (X:=cont g fs++t) (Y:=Y) (R:=R) (s:=zs (min n k)) hc V M (by rw[nC];omega);rw[this];obtain⟨t',e1,a4,a6⟩:=YD (A:=cont g fs) (t:=t) (k:=min n k) (by omega) a2;rw[e1];exact⟨t',Y,rfl,by omega,M,a4,a3⟩
structure Clean (R:List UInt8)(m:JM)(d:DS):Prop where
 ok:mj d
 on:d.on=true
 pend:d.pend=[]
 dur:d.dur=d.vis
 vis:d.vis=lay m.cu (cont m.gen m.fs++zs (m.sz-m.en)) (zs m.sz) R
 rest:R.length≤1
 big:64≤d.vis.length
 en:m.en=(cont m.gen m.fs).length
 fit:m.en≤m.sz
 cu:m.cu≤1
 gn:Gn m.gen m.fs
 br:m.br=false
theorem Clean.len {R:List UInt8}{m:JM}{d:DS}(h:Clean R m d):d.vis.length=m.sz+m.sz+R.length:=by
 have M:=h.en;have O:=h.fit;rw[h.vis,Ma,nC,ae,nC];omega
theorem QO {fs:List dF}(h:oh fs 1):fs.length≤500:=by
 rcases h.len with h|h
 ·omega
 ·rw[h];exact bx _
theorem Clean.zr {R:List UInt8}{m:JM}{d:DS}(h:Clean R m d):nQ m:=
 ⟨h.fit,by have M:=h.len;have O:=h.ok.le;omega,h.cu,h.gn.numb.all,QO h.gn.numb,by have M:=h.gn.one;omega,h.gn.ok⟩
theorem Clean.sR {R:List UInt8}{m:JM}{d:DS}(h:Clean R m d):s9 d:=⟨h.ok,by rw[h.pend,h.dur];rfl⟩
def IF (sz:Nat)(R:List UInt8)(n:Nat)(d:DS)(P:Int→List dF→Prop):Prop:=mj d∧d.vis.length=n∧∀x,o6 d.pend d.dur x→∃g fs,P g fs∧Good sz R g fs x
theorem JR {R:List UInt8}{m:JM}{d:DS}{a:List lC}(h:Clean R m d)(a1:∀o∈a++[lC.sync],o.fits d.vis.length){b:List UInt8}(V:qD (a++[.sync]) d.vis []=(b,[])):
  let r:=ln (a++[.sync]) d
  (r.1=0∧mj r.2∧r.2.on=true∧r.2.pend=[]∧r.2.dur=r.2.vis∧r.2.vis=b∧r.2.vis.length=d.vis.length∧(d.cut=0→r.2.cut=0))∨
  (r.1=231∧mj r.2∧r.2.vis.length=d.vis.length∧(∀x,o6 r.2.pend r.2.dur x→pJ (a++[.sync]) d.vis [] x)∧d.cut≠0):=by
 intro r;have ro:=Am (a++[.sync]) d h.sR a1;rcases ro.err with e|e
 ·refine .inl ⟨e,ro.sR.ok,RZ e,?_,?_,?_,ro.len,fun hc=>(ro.pow h.on hc).2.2⟩
  all_goals
   have M:=ro.fin e;rw[h.pend,h.dur,V]at M;simp only[af]at M
  ·exact M.2
  ·have O:=ro.sR.vis
   rw[M.2]at O;exact O.symm
  ·have O:=ro.sR.vis
   rw[M.2]at O;exact O.trans M.1
 ·refine .inr ⟨e,ro.sR.ok,ro.len,fun x a2=>?_,fun hc=>?_⟩
  ·have:=ro.img x a2
   rwa[h.pend,h.dur]at this
  ·have:=(ro.pow h.on hc).1
   rw[e]at this;exact absurd this (by decide)
abbrev kEhq:=(.tuple #[.pointer none,IV 2]:aa)
theorem T1 (a:Int)(hm:Mem [] [] w0 W)
 (H:
 Br (a<1)
 (Fin R [] [] w0 kEhq)
 (Br ((4194304:Int)<a)
 (Fin R [] [] w0 kEhq)
 ((0≤a∧a≤a∧1*a≤281474976710656∧a≤9223372036854775807)∧
 ∀B:Nat,
 (0≤a∧a≤a∧1*a≤281474976710656∧a≤9223372036854775807)∧
 ∀b d:Nat,
 Fin R [(B,.cells ⟨(aA (ad a) (.int .u8 0))⟩ 5),(b,.cells ⟨(aA (ad a) (.int .u8 0))⟩ 5),(d,.cells #[.bool true,IV 0,.slice (SO B) (ad a) (ad a),.slice (SO b) (ad a) (ad a),.slice none 0 0] 82)] [] w0 (.tuple #[PP d,IV 0])))):
 aE TP 11 ⟨[IV a]⟩ W R:=by
 refine kO.cs 22 gZ hm (.ru 11 (.sP 7 H (fun H=>?_) fun H=>?_))
 ·refine .ru 10 (.rt gZ H)
 ·refine .ru 4 (.sP 10 H (fun H=>?_) fun H=>?_)
  ·refine .ru 6 (.rt gZ H)
  ·refine .ru 3 ?_
   have H0:=H;have hd0:∀B b d:Nat,pS TP 11 22 (m7 [.code (sub (Eng.body cz) [1,1,0])]) 0 #[true,true,true,true,true,true,true] (KC cz 15) [(4,PP d)] [(B,.cells ⟨(aA (ad a) (.int .u8 0))⟩ 5),(b,.cells ⟨(aA (ad a) (.int .u8 0))⟩ 5),(d,.cells #[.bool false,IV 0,.slice (SO B) (ad a) (ad a),.slice (SO b) (ad a) (ad a),.slice none 0 0] 82)] [] w0 (lN R):=by
    intro B b d c;have H:=(((H0.2 B).2 b) d);refine .nm (KR cz 14 []) [(4,PP d)] [(B,.cells ⟨(aA (ad a) (.int .u8 0))⟩ 5),(b,.cells ⟨(aA (ad a) (.int .u8 0))⟩ 5),(d,.cells #[.bool false,IV 0,.slice (SO B) (ad a) (ad a),.slice (SO b) (ad a) (ad a),.slice none 0 0] 82)] (.ru 6 (.il 41 [PP d] 8 Tryz.func41 (.ru 5 (.st 2 0 (.ru 2 (.st 2 1 (.ru 1 (.rk Tryz.func41 (.ru 7 (.rt gZ H))))))))))
   have hd1:∀B b d:Nat,pS TP 11 22 (m7 [.code (sub (Eng.body cz) [1,1,0])]) 1 #[true,true,true,true,true,true,false] (KC cz 15) [(16,PP d)] [(B,.cells ⟨(aA (ad a) (.int .u8 0))⟩ 5),(b,.cells ⟨(aA (ad a) (.int .u8 0))⟩ 5),(d,.cells #[.bool false,IV 0,.slice (SO B) (ad a) (ad a),.slice (SO b) (ad a) (ad a),.slice none 0 0] 82)] [] w0 (lN R):=by
    intro B b d;refine .step [6] (by kernel_rfl) ⟨fun c=>?_,trivial⟩
    ·have H:=(((H0.2 B).2 b) d)
     refine .ru 1 (.cut [0,1,2] (hd0 B b d c) (by kernel_rfl))
   have hd2:∀B b:Nat,pS TP 11 22 (m7 [.code (sub (Eng.body cz) [1,1,0])]) 2 #[true,true,true,true,true,false,false] (KC cz 15) [(15,.agg #[.bool false,IV 0,.slice (SO B) (ad a) (ad a),.slice (SO b) (ad a) (ad a),.slice none 0 0])] [(B,.cells ⟨(aA (ad a) (.int .u8 0))⟩ 5),(b,.cells ⟨(aA (ad a) (.int .u8 0))⟩ 5)] [] w0 (lN R):=by
    intro B b;refine .step [5] (by kernel_rfl) ⟨fun c=>?_,trivial⟩
    ·have H:=((H0.2 B).2 b)
     refine .nH (.cells #[.bool false,IV 0,.slice (SO B) (ad a) (ad a),.slice (SO b) (ad a) (ad a),.slice none 0 0] 82) H fun d H=>(.cut [0,1,2] (hd1 B b d c) (by kernel_rfl))
   have hd3:∀B b:Nat,pS TP 11 22 (m7 [.code (sub (Eng.body cz) [1,1,0])]) 3 #[true,true,true,true,false,false,false] (KC cz 15) [(12,.slice (SO B) (ad a) (ad a)),(14,.slice (SO b) (ad a) (ad a))] [(B,.cells ⟨(aA (ad a) (.int .u8 0))⟩ 5),(b,.cells ⟨(aA (ad a) (.int .u8 0))⟩ 5)] [] w0 (lN R):=by
    intro B b;refine .step [4] (by kernel_rfl) ⟨fun c=>?_,trivial⟩
    ·have H:=((H0.2 B).2 b)
     refine .ru 1 (.cut [0,1] (hd2 B b c) (by kernel_rfl))
   have hd4:∀B:Nat,pS TP 11 22 (m7 [.code (sub (Eng.body cz) [1,1,0])]) 4 #[true,true,true,false,false,false,false] (KC cz 15) [(12,.slice (SO B) (ad a) (ad a)),(13,IV a)] [(B,.cells ⟨(aA (ad a) (.int .u8 0))⟩ 5)] [] w0 (lN R):=by
    intro B;refine .step [3] (by kernel_rfl) ⟨fun c=>?_,trivial⟩
    ·have H:=(H0.2 B)
     refine .make (E:=5) (kl:=.i64) (kc:=.i64) (n:=a) (m:=a) (z:=.int .u8 0) (bytes:=1) (by kernel_rfl) H.1 (fun b=>?_)
     replace H:=H.2 b
     exact .cut [0,1] (hd3 B b c) (by kernel_rfl)
   have hd5:∀b:Nat,pS TP 11 22 (m7 [.code (sub (Eng.body cz) [1,1,0])]) 4 #[true,false,true,true,false,false,false] (KC cz 15) [(11,IV a),(14,.slice (SO b) (ad a) (ad a))] [(b,.cells ⟨(aA (ad a) (.int .u8 0))⟩ 5)] [] w0 (lN R):=by
    intro b;refine .step [1] (by kernel_rfl) ⟨fun c=>?_,trivial⟩
    ·have H:=H0
     refine .make (E:=5) (kl:=.i64) (kc:=.i64) (n:=a) (m:=a) (z:=.int .u8 0) (bytes:=1) (by kernel_rfl) H.1 (fun B=>?_)
     replace H:=H.2 B
     exact .cut [1,0] (hd3 B b c) (by kernel_rfl)
   have hd6:∀B:Nat,pS TP 11 22 (m7 [.code (sub (Eng.body cz) [1,1,0])]) 5 #[true,true,false,false,false,false,false] (KC cz 15) [(0,IV a),(12,.slice (SO B) (ad a) (ad a))] [(B,.cells ⟨(aA (ad a) (.int .u8 0))⟩ 5)] [] w0 (lN R):=by
    intro B;refine .step [2] (by kernel_rfl) ⟨fun c=>?_,trivial⟩
    ·have H:=H0
     refine .ru 1 (.cut [0] (hd4 B c) (by kernel_rfl))
   have hd7:pS TP 11 22 (m7 [.code (sub (Eng.body cz) [1,1,0])]) 5 #[true,false,true,false,false,false,false] (KC cz 15) [(11,IV a),(13,IV a)] [] [] w0 (lN R):=by
    refine .step [1,3] (by kernel_rfl) ⟨fun c=>?_,fun c=>?_,trivial⟩
    ·have H:=H0
     refine .make (E:=5) (kl:=.i64) (kc:=.i64) (n:=a) (m:=a) (z:=.int .u8 0) (bytes:=1) (by kernel_rfl) H.1 (fun B=>?_)
     replace H:=H.2 B
     exact .cut [0] (hd4 B c) (by kernel_rfl)
    ·have H:=(H0.2 0)
     refine .make (E:=5) (kl:=.i64) (kc:=.i64) (n:=a) (m:=a) (z:=.int .u8 0) (bytes:=1) (by kernel_rfl) H.1 (fun b=>?_)
     replace H:=H.2 b
     exact .cut [0] (hd5 b c) (by kernel_rfl)
   have hd8:∀b:Nat,pS TP 11 22 (m7 [.code (sub (Eng.body cz) [1,1,0])]) 5 #[false,false,true,true,false,false,false] (KC cz 15) [(0,IV a),(14,.slice (SO b) (ad a) (ad a))] [(b,.cells ⟨(aA (ad a) (.int .u8 0))⟩ 5)] [] w0 (lN R):=by
    intro b;refine .step [0] (by kernel_rfl) ⟨fun c=>?_,trivial⟩
    ·have H:=H0
     refine .ru 1 (.cut [0] (hd5 b c) (by kernel_rfl))
   have hd9:pS TP 11 22 (m7 [.code (sub (Eng.body cz) [1,1,0])]) 6 #[true,false,false,false,false,false,false] (KC cz 15) [(0,IV a),(11,IV a)] [] [] w0 (lN R):=by
    refine .step [1,2] (by kernel_rfl) ⟨fun c=>?_,fun c=>?_,trivial⟩
    ·have H:=H0
     refine .make (E:=5) (kl:=.i64) (kc:=.i64) (n:=a) (m:=a) (z:=.int .u8 0) (bytes:=1) (by kernel_rfl) H.1 (fun B=>?_)
     replace H:=H.2 B
     exact .cut [0] (hd6 B c) (by kernel_rfl)
    ·have H:=H0
     refine .ru 1 (.cut [] (hd7  c) (by kernel_rfl))
   have hd10:pS TP 11 22 (m7 [.code (sub (Eng.body cz) [1,1,0])]) 6 #[false,false,true,false,false,false,false] (KC cz 15) [(0,IV a),(13,IV a)] [] [] w0 (lN R):=by
    refine .step [0,3] (by kernel_rfl) ⟨fun c=>?_,fun c=>?_,trivial⟩
    ·have H:=H0
     refine .ru 1 (.cut [] (hd7  c) (by kernel_rfl))
    ·have H:=(H0.2 0)
     refine .make (E:=5) (kl:=.i64) (kc:=.i64) (n:=a) (m:=a) (z:=.int .u8 0) (bytes:=1) (by kernel_rfl) H.1 (fun b=>?_)
     replace H:=H.2 b
     exact .cut [0] (hd8 b c) (by kernel_rfl)
   have hd11:pS TP 11 22 (m7 [.code (sub (Eng.body cz) [1,1,0])]) 7 #[false,false,false,false,false,false,false] (KC cz 15) [(0,IV a)] [] [] w0 (lN R):=by
    refine .step [0,2] (by kernel_rfl) ⟨fun c=>?_,fun c=>?_,trivial⟩
    ·have H:=H0
     refine .ru 1 (.cut [] (hd9  c) (by kernel_rfl))
    ·have H:=H0
     refine .ru 1 (.cut [] (hd10  c) (by kernel_rfl))
   exact .cut [] (.Yv (k:=(KC cz 14)) (by kernel_rfl) hd11) (by kernel_rfl)
def DS.new (n:Nat):DS:={on:=true,cut:=0,dur:=aA n 0,vis:=aA n 0,pend:=[]}
theorem LX (n:Nat):(aA n (.int .u8 0):List aa)=kU (aA n 0):=by simp[kU]
theorem Hb {n:Int}{N:Nat}(O:n=N)(V:1≤N)(a1:N≤4194304):lP TP 11 ⟨[.int .i64 n]⟩ [] (fun v L'=>∃D,v=.tuple #[DP D,.int .i64 0]∧mV D (DS.new N) L'):=by
 subst O;intro W hm;refine T1 _ hm ?_;refine no (by omega) (no (by omega) ⟨by omega,fun B=>⟨by omega,fun M B2=>?_⟩⟩);rw[ai,LX];refine DK.tj [2,0,1] rfl ⟨B2,rfl,⟨rfl,?_,?_,?_,?_⟩,B,M,.inl ⟨rfl,?_⟩⟩
 ·simp[DS.new];omega
 ·simp[DS.new];omega
 ·simp[DS.new]
 ·intro p hp;cases hp
 ·simp only[DS.new,dL];rfl
noncomputable def Ak (a c b:Nat)(f:Int)(g:BA)(e:Int)(d:List aa)(S:List Nat):Cut:=⟨TP,S,79,21,(KC Tryz.f79 12),[(0,.slice (SO a) c b),(1,IV f),(2,.string g),(6,IV e)],[(a,.cells ⟨d⟩ 5)]⟩
theorem Gv (d g f:Nat)(b:Int)(c:BA)(a:Int)(e:List aa)(H:VP S w0 R (.P 8 10 (a<(c.size:Int)) (.r 11<|.ix c a<|.iL d 0 g f 1 (ab.wrap (b+a)) (ad (ab.wrap (b+a)))<|.sr 0 d (ad (ab.wrap (b+a))) 5 (.int .u8 (k8 c a)) e<|.li 6 6 (ab.wrap (a+1)) fun h=>.ct 2 [0] (Ak d g f b c h ((e).set (ad (ab.wrap (b+a))) (.int .u8 (k8 c a))) S))<|.re 2 (.tuple #[]) [(d,.cells ⟨e⟩ 5)])):Ak d g f b c a e S w0 R:=VC.go Tryz.func79 _ H
theorem Xv (B b a:Nat)(off:Int)(c:BA)(cs:List aa)(hm:Mem [(B,.cells ⟨cs⟩ 5)] S w0 W)(H:VP S w0 R (.ct 6 [0] (Ak B b a off c 0 cs S))):aE TP 79 ⟨[.slice (SO B) b a,IV off,.string c]⟩ W R:=VC.cs Tryz.func79 hm _ H
noncomputable def zM (d:OA)(c b:Nat)(e a:Int):Cut:=⟨TP,[],78,18,(KC Tryz.f78 52),[(0,.slice d c b),(1,IV e),(5,IV a)],[]⟩
theorem Jz (d:OA)(b c:Nat)(f a:Int)(H:VP [] w0 R (.P 8 9 (a<(b:Int)) (.r 8<|.x2 fun g e=>.iP d g e b c 1 a (e+(ad a))<|.x2 fun i h=>.lW g (e+(ad a)) 3 i (IV h)<|.P 3 17 (h=f) (.re 5 (.bool true) [])<|.li 7 5 (ab.wrap (a+1)) fun j=>.ct 2 [] (zM d b c f j))<|.re 6 (.bool false) [])):zM d b c f a w0 R:=VC.go Tryz.func78 _ H
theorem Ul (c:OA)(b a:Nat)(d:Int)(hm:Mem [] [] w0 W)(H:VP [] w0 R (.ct 11 [] (zM c b a d 0))):aE TP 78 ⟨[.slice c b a,IV d]⟩ W R:=VC.cs Tryz.func78 hm _ H
theorem O1 (a:Int)(hm:Mem [] [] w0 W)(H:VP [] w0 R (.P 11 6 (a<1) (.re 10 kEhq [])<|.P 4 9 (4194304<a) (.re 6 kEhq [])<|.r 5<|.mk' false 5 .i64 .i64 a a (.int .u8 0) 1 fun B=>.np 1 (.cells #[.slice (SO B) (ad a) (ad a),.slice none 0 0,.bool false,IV 0] 122) fun b=>.re 3 (.tuple #[PP b,IV 0]) [(B,.cells ⟨(aA (ad a) (.int .u8 0))⟩ 5),(b,.cells #[.slice (SO B) (ad a) (ad a),.slice none 0 0,.bool false,IV 0] 122)])):aE TP 31 ⟨[IV a]⟩ W R:=VC.cs Tryz.func31 hm _ H
abbrev kAzq (x0 x1 x2 x3 x4 x5 x6 x7 x8 x9 x10):=((x0,.cells #[.slice (SO x1) x2 x3,.slice x4 x5 x6,.bool x7,IV x8] 122)::(x1,.cells ⟨x9⟩ 5)::x10:aX)
theorem UP (a:Nat)(n1:Int)(SB d h:Nat)(g:OA)(f e:Nat)(c:Bool)(k:Int)(i:List aa)(b:aX)(hm:Mem (kAzq a SB d h g f e c k i b) S w0 W)(H:VP S w0 R (.hp (kAzq a SB d h g f e c k i b) fun j=>.ru [10,200]<|.B 1 8 c (.re 5 (IV 231) j)<|.P 8 10 (n1<0) (.re 5 (IV 2) j)<|.ru [8,200,8,200]<|.re 5 (IV 0) ((a,.cells #[.slice (SO SB) d h,.slice g f e,.bool (decide (n1=0)),IV n1] 122)::(SB,.cells ⟨i⟩ 5)::b))):aE TP 74 ⟨[PP a,IV n1]⟩ W R:=VC.cs Tryz.func74 hm _ H
theorem UT (d:Nat)(off:Int)(j:BA)(SB b f:Nat)(i:OA)(c h:Nat)(e:Bool)(a:Int)(g:List aa)(m:aX)(hm:Mem (kAzq d SB b f i c h e a g m) S w0 W)(H:VP S w0 R (.hp (kAzq d SB b f i c h e a g m) fun l=>.ru [10,200]<|.B 1 10 e (.re 5 (IV 231) l)<|.P 8 13 (off<0) (.re 26 (IV 230) l)<|.ru [4,200]<|.P 4 22 ((b:Int)<off) (.re 17 (IV 230) l)<|.ru [5,200]<|.P 6 33 ((ab.wrap ((b:Int)-off))<(j.size:Int)) (.re 5 (IV 230) l)<|.ru [8,200]<|.r 3<|.ns true 1 (.cells #[IV off,.string j] 128) fun B=>.apd 0 B 128 128 2 120 120 (.slice i c h) 1 1 [IV off,.string j] ((B,.cells #[IV off,.string j] 128)::(d,.cells #[.slice (SO SB) b f,.slice i c h,.bool e,IV a] 122)::(SB,.cells ⟨g⟩ 5)::m)<|.x3 fun ap (k:Nat) F1=>.rt (.slice ap (c+1) k) (kAzq d SB b f i c h e a g F1)<|.ru [2,200,7,200]<|.P 2 50 (0<a) (.ru [6,200,3,200,6,200]<|.P 2 62 ((ab.wrap (a-1))=0) (.ru [5,200]<|.re 5 (IV 0) ((d,.cells #[.slice (SO SB) b f,.slice ap (c+1) k,.bool true,IV (ab.wrap (a-1))] 122)::(SB,.cells ⟨g⟩ 5)::F1))<|.re 6 (IV 0) ((d,.cells #[.slice (SO SB) b f,.slice ap (c+1) k,.bool e,IV (ab.wrap (a-1))] 122)::(SB,.cells ⟨g⟩ 5)::F1))<|.re 6 (IV 0) ((d,.cells #[.slice (SO SB) b f,.slice ap (c+1) k,.bool e,IV a] 122)::(SB,.cells ⟨g⟩ 5)::F1))):aE TP 36 ⟨[PP d,IV off,.string j]⟩ W R:=VC.cs Tryz.func36 hm _ H
abbrev yO2aa (a:Bool)(b:Int)(x2 x3:List aa)(x4 x5 f g h i c:Nat)(d:OA)(e:aX):aX:=(x4,.cells #[.slice (SO x5) f g,.slice d h i,.bool a,IV b] 122)::(x5,.cells ⟨x2⟩ 5)::(c,.cells ⟨x3⟩ 5)::e
noncomputable def As (p SB s t:Nat)(o:OA)(n m:Nat)(q:Bool)(i:Int)(u:List aa)(a c b f e:Nat)(h:Int)(k j:Nat)(l:Bool)(cs g:List aa)(d:aX)(S:List Nat):Cut:=⟨TP,S,39,39,(KC Tryz.f39 116),[(0,PP a),(3,.slice (SO b) f e),(4,IV h)],(yO2aa l i cs g a c k j n m b o d)⟩
theorem Lc (s SB z D:Nat)(e:OA)(b d:Nat)(w:Bool)(l:Int)(E:List aa)(f g c j i:Nat)(a:Int)(n m:Nat)(o:Bool)(cs u:List aa)(h:aX)(H:VP S w0 R (.hp (yO2aa o l cs u f g n m b d c e h) fun k=>.ru [7,200]<|.P 3 17 (a<(b:Int)) (.r 4<|.dr 17<|.qu [4,100,1]<|.x2 fun A p=>.iP e A p b d 2 a (p+((ad a)*2))<|.qu [1]<|.x2 fun F x=>.lT k A (p+((ad a)*2)) 3 F (IV x)<|.qu [3,100,1]<|.x2 fun C q=>.iP e C q b d 2 a (q+((ad a)*2))<|.qu [1]<|.x2 fun G y=>.lT k C ((q+((ad a)*2))+1) 9 G (.string y)<|.dn<|.cl 0 79 [.slice (SO c) j i,IV x,.string y] k<|.ex fun(t:List aa)=>.rt (.tuple #[]) (yO2aa o l cs t f g n m b d c e h)<|.li 6 4 (ab.wrap (a+1)) fun M=>.cT 2 [0,1,2] 3 (As s SB z D e b d w l E f g c j i M n m o cs t h S))<|.re 7 (.slice (SO c) j i) k)):As s SB z D e b d w l E f g c j i a n m o cs u h S w0 R:=VC.go Tryz.func39 _ H
theorem Zt (c SB a d:Nat)(j:OA)(i h:Nat)(e:Bool)(g:Int)(b:List aa)(f:aX)(hm:Mem (kAzq c SB a d j i h e g b f) S w0 W)(H:VP S w0 R (.r 6<|.ns true 0 (.cells #[] 5) fun B=>.ru [3,201]<|.aW true 0 B 0 0 ([]:List aa) 2 SB 0 a d 47 5 1 1 (((b).drop 0).take (a*1)) fun(k l:Nat) (r:List aa)=>.cT 9 [1,2,0] 3 (As c SB a d j i h e g b c SB k (0+a) l 0 a d e b ((([]:List aa)).take (0*1)++(((b).drop 0).take (a*1))++r) f S))):aE TP 39 ⟨[PP c]⟩ W R:=VC.cs Tryz.func39 hm _ H
theorem P0 (a SB e i:Nat)(h:OA)(g f:Nat)(b:Bool)(c:Int)(d:List aa)(j:aX)(hm:Mem (kAzq a SB e i h g f b c d j) S w0 W)(H:VP S w0 R (.hp (kAzq a SB e i h g f b c d j) fun k=>.ru [10,200]<|.B 1 6 b (.re 5 (IV 231) k)<|.cl 6 39 [PP a] k<|.x5 fun vb vn vc (l:List aa) F1=>.rt (.slice (SO vb) vn vc) (yO2aa b c d l a SB e i g f vb h F1)<|.ru [2,200,6,200]<|.re 5 (IV 0) ((a,.cells #[.slice (SO vb) vn vc,.slice none 0 0,.bool b,IV c] 122)::(SB,.cells ⟨d⟩ 5)::(vb,.cells ⟨l⟩ 5)::F1))):aE TP 158 ⟨[PP a]⟩ W R:=VC.cs Tryz.func158 hm _ H
theorem Yf (a:Nat)(off n1:Int)(SB c i:Nat)(h:OA)(g f:Nat)(d:Bool)(e:Int)(j:List aa)(l:aX)(hm:Mem (kAzq a SB c i h g f d e j l) S w0 W)(H:VP S w0 R (.hp (kAzq a SB c i h g f d e j l) fun b=>.ru [11,200]<|.B 1 11 d (.re 6 (.tuple #[sZ,IV 231]) b)<|.P 8 14 (off<0) (.re 30 (.tuple #[sZ,IV 230]) b)<|.P 4 18 (n1<0) (.re 26 (.tuple #[sZ,IV 230]) b)<|.ru [4,200]<|.P 4 27 ((c:Int)<off) (.re 17 (.tuple #[sZ,IV 230]) b)<|.ru [4,200]<|.P 6 37 ((ab.wrap ((c:Int)-off))<n1) (.re 6 (.tuple #[sZ,IV 230]) b)<|.cl 5 39 [PP a] b<|.x5 fun vb vn vc (k:List aa) F1=>.rt (.slice (SO vb) vn vc) (yO2aa d e j k a SB c i g f vb h F1)<|.r 4<|.sO vb 0 vn vc 1 ((ad (ab.wrap (off+n1)))-(ad off)) (vc-(ad off)) (some (IV off)) (some (IV (ab.wrap (off+n1)))) off (ab.wrap (off+n1)) fun(n:Nat)=>.ex fun(m:List UInt8)=>.tG 2 vb 5 n ((ad (ab.wrap (off+n1)))-(ad off)) (vc-(ad off)) k m<|.ls 1 6 (⟨m.toArray⟩) fun o=>.re 2 (kCjq o) (yO2aa d e j k a SB c i g f vb h F1))):aE TP 112 ⟨[PP a,IV off,IV n1]⟩ W R:=VC.cs Tryz.func112 hm _ H
abbrev yO3aa (a:Bool)(b:Int)(x2:List aa)(x3 x4 x5 d e f:Nat)(g:OA)(c:aX):aX:=(x3,.cells #[.slice (SO x4) x5 d,.slice g e f,.bool a,IV b] 122)::(x4,.cells ⟨x2⟩ 5)::c
noncomputable def yW (s SB u w:Nat)(p:OA)(o n:Nat)(t:Bool)(j:Int)(B a:Nat)(f:OA)(e d:Nat)(q:Int)(i:OA)(h g:Nat)(c:Int)(l k:Nat)(m:Bool)(cs:List aa)(b:aX)(S:List Nat):Cut:=⟨TP,S,35,81,(KC jC 52),[(0,PP B),(1,.slice f e d),(2,IV q),(6,.slice i h g),(7,IV c)],(yO3aa m j cs B a l k o n p b)⟩
noncomputable def MW (p SB s t:Nat)(n:OA)(m l:Nat)(q:Bool)(h:Int)(a b:Nat)(o:Int)(g:OA)(f e j i:Nat)(k:Bool)(d:List aa)(c:aX)(S:List Nat):Cut:=⟨TP,S,35,81,(KC jC 14),[(0,PP a),(2,IV o),(6,.slice g f e)],(yO3aa k h d a b j i m l n c)⟩
noncomputable def Ch (q SB t u:Nat)(o:OA)(n m:Nat)(s:Bool)(i:Int)(a b:Nat)(p:Int)(h:OA)(g f:Nat)(e:Int)(k j:Nat)(l:Bool)(d:List aa)(c:aX)(S:List Nat):Cut:=⟨TP,S,35,81,(KC jC 116),[(0,PP a),(2,IV p),(6,.slice h g f),(8,IV e)],(yO3aa l i d a b k j n m o c)⟩
noncomputable def vp (s SB u w:Nat)(o:OA)(n m:Nat)(t:Bool)(i:Int)(a b:Nat)(q:Int)(h:OA)(g f:Nat)(e:Int)(p:BA)(k j:Nat)(l:Bool)(d:List aa)(c:aX)(S:List Nat):Cut:=⟨TP,S,35,81,(KC jC 3731),[(0,PP a),(2,IV q),(6,.slice h g f),(8,IV e),(9,.string p)],(yO3aa l i d a b k j n m o c)⟩
theorem NP (l SB w x:Nat)(e:OA)(a d:Nat)(m:Bool)(f:Int)(B b:Nat)(p:OA)(o n:Nat)(y:Int)(s:OA)(j q:Nat)(c:Int)(h g:Nat)(i:Bool)(cs:List aa)(k:aX)(H:VP S w0 R (.hp (yO3aa i f cs B b h g a d e k) fun z=>.ru [7,200]<|.P 3 16 (c<(a:Int)) (.cl 8 78 [.slice p o n,IV c] z<|.ex fun F=>.rt (.bool F) z<|.B 1 21 F (.ru [6,200]<|.r 1<|.x2 fun E A=>.iP e E A a d 2 c (A+((ad c)*2))<|.x3 fun G t u=>.yN z E (A+((ad c)*2)) 2 128 G [IV t,.string u]<|.ns true 1 (.cells #[IV t,.string u] 128) fun C=>.apd 0 C 128 128 2 120 120 (.slice s j q) 1 1 [IV t,.string u] ((C,.cells #[IV t,.string u] 128)::(B,.cells #[.slice (SO b) h g,.slice e a d,.bool i,IV f] 122)::(b,.cells ⟨cs⟩ 5)::k)<|.x3 fun ap (D:Nat) F2=>.rt (.slice ap (j+1) D) (yO3aa i f cs B b h g a d e F2)<|.li 7 7 (ab.wrap (c+1)) fun M=>.cT 2 [0,1] 2 (yW l SB w x e a d m f B b p o n y ap (j+1) D M h g i cs F2 S))<|.li 7 7 (ab.wrap (c+1)) fun N=>.cT 2 [0,1] 2 (yW l SB w x e a d m f B b p o n y s j q N h g i cs k S))<|.cT 3 [0,1] 2 (MW l SB w x e a d m f B b y s j q h g i cs k S))):yW l SB w x e a d m f B b p o n y s j q c h g i cs k S w0 R:=VC.go gh _ H
theorem Oz (c SB n s:Nat)(q:OA)(p o:Nat)(f:Bool)(j:Int)(a b:Nat)(t:Int)(i:OA)(h g l k:Nat)(m:Bool)(e:List aa)(d:aX)(H:VP S w0 R (.cT 6 [0,1] 2 (Ch c SB n s q p o f j a b t i h g 0 l k m e d S))):MW c SB n s q p o f j a b t i h g l k m e d S w0 R:=VC.go gh _ H
theorem Hr (s SB u w:Nat)(q:OA)(p o:Nat)(t:Bool)(m:Int)(e c:Nat)(b:Int)(l:OA)(d k:Nat)(a:Int)(i h:Nat)(n:Bool)(g:List aa)(f:aX)(H:VP S w0 R (.P 8 35 (a<(d:Int)) (.r 8<|.x2 fun y x=>.iP l y x d k 2 a (x+((ad a)*2))<|.r 1<|.x2 fun z j=>.lT (yO3aa n m g e c i h p o q f) y ((x+((ad a)*2))+1) 9 z (.string j)<|.P 11 48 (a=(ab.wrap ((d:Int)-1))) (.P 4 52 (0≤b) (.P 6 57 (b<(j.size:Int)) (.r 4<|.ss j 0 b<|.ls 1 9 (j.extract 0 (ad b)) fun A=>.cT 1 [0,1] 2 (vp s SB u w q p o t m e c b l d k a A i h n g f S))<|.cT 2 [0,1] 2 (vp s SB u w q p o t m e c b l d k a j i h n g f S))<|.cT 8 [0,1] 2 (vp s SB u w q p o t m e c b l d k a j i h n g f S))<|.cT 12 [0,1] 2 (vp s SB u w q p o t m e c b l d k a j i h n g f S))<|.ru [7,200,6,200,5,200]<|.re 1 (.tuple #[]) ((e,.cells #[.slice (SO c) i h,.slice none 0 0,.bool false,IV 0] 122)::(c,.cells ⟨g⟩ 5)::f))):Ch s SB u w q p o t m e c b l d k a i h n g f S w0 R:=VC.go gh _ H
theorem PZ (p SB y A:Nat)(k:OA)(j i:Nat)(t:Bool)(g:Int)(e a:Nat)(C:Int)(n:OA)(m l:Nat)(b:Int)(z:BA)(d c:Nat)(h:Bool)(s:List aa)(f:aX)(H:VP S w0 R (.hp (yO3aa h g s e a d c j i k f) fun u=>.dr 10<|.qu [3,100,2]<|.x2 fun w o=>.iP n w o m l 2 b (o+((ad b)*2))<|.qu [1]<|.x2 fun D x=>.lT u w (o+((ad b)*2)) 3 D (IV x)<|.qu [1]<|.dn<|.cl 0 79 [.slice (SO a) d c,IV x,.string z] u<|.ex fun(q:List aa)=>.rt (.tuple #[]) (yO3aa h g q e a d c j i k f)<|.li 6 8 (ab.wrap (b+1)) fun E=>.cT 2 [0,1] 2 (Ch p SB y A k j i t g e a C n m l E d c h q f S))):vp p SB y A k j i t g e a C n m l b z d c h s f S w0 R:=VC.go gh _ H
theorem Ov (a:Nat)(h:OA)(g f:Nat)(n:Int)(SB c d:Nat)(l:OA)(k j:Nat)(b:Bool)(i:Int)(m:List aa)(e:aX)(hm:Mem (yO3aa b i m a SB c d k j l e) S w0 W)(H:VP S w0 R (.cT 11 [0,1] 2 (yW a SB c d l k j b i a SB h g f n none 0 0 0 c d b m e S))):aE TP 35 ⟨[PP a,.slice h g f,IV n]⟩ W R:=VC.cs gh hm _ H
def mb (E sz n:Nat)(lr:List aa)(p:OA)(c:Nat)(G:aX):Prop:=
 n≤c∧lr.length=n*sz∧((p=none∧c=0∧n=0)∨∃Q cs G0,p=some ⟨Q,0,none⟩∧G.Perm ((Q,.cells ⟨cs⟩ E)::G0)∧cs.length=c*sz∧cs.take (n*sz)=lr)
theorem mb.nil {E sz:Nat}{G:aX}:mb E sz 0 [] none 0 G:=⟨aD _,by simp,.inl ⟨rfl,rfl,rfl⟩⟩
theorem mb.perm {E sz n:Nat}{lr:List aa}{p:OA}{c:Nat}{G M:aX}(h:mb E sz n lr p c G)(hp:M.Perm G):mb E sz n lr p c M:=by
 obtain⟨O,V,a2|⟨Q,cs,a1,e,a3,a4⟩⟩:=h
 ·exact⟨O,V,.inl a2⟩
 ·exact⟨O,V,.inr ⟨Q,cs,a1,e,hp.trans a3,a4⟩⟩
theorem mb.more {E sz n:Nat}{lr:List aa}{p:OA}{c:Nat}{G:aX}(h:mb E sz n lr p c G)(X:aX):mb E sz n lr p c (X++G):=by
 obtain⟨M,O,a1|⟨Q,cs,V,e,a2,a3⟩⟩:=h
 ·exact⟨M,O,.inl a1⟩
 ·exact⟨M,O,.inr ⟨Q,cs,X++V,e,(a2.append_left X).trans cI,a3⟩⟩
theorem mb.get {E sz n:Nat}{lr:List aa}{p:OA}{c:Nat}{G:aX}(h:mb E sz n lr p c G){i:Nat}(hi:i<n):
  ∃Q cs,p=some ⟨Q,0,none⟩∧(∃t fz,(Q,bu ⟨cs⟩ t fz)∈G)∧(cs.drop (0+i*sz)).take sz=(lr.drop (i*sz)).take sz∧0+i*sz+sz≤cs.length:=by
 obtain⟨M,a2,⟨_,_,a3⟩|⟨Q,cs,a1,e,O,a4,V⟩⟩:=h
 ·omega
 ·have hm:i*sz+sz≤n*sz:=by have:=bI sz (show i+1≤n by omega);rw[cU,Nat.one_mul]at this;exact this
  have hc:n*sz≤c*sz:=bI sz M;refine⟨Q,cs,e,⟨E,(0,0),O.mem_iff.2 au⟩,?_,by omega⟩;rw[←V,gu,gv,dj (by omega),az]
theorem mb.push {E sz n:Nat}{lr news:List aa}{p:OA}{c:Nat}{G Y L:aX}{T m bytes:Nat}{z:aa}(h:mb E sz n lr p c G)(a3:Tryz.prog.underlying T=some (.slice E))(hi:nj TP E=some (some z,sz,bytes))(a7:z.cells.size=sz)
  (hm:0<m)(M:news.length=m*sz)(a4:n+m≤2000000∧bytes≤1000)(hp:L.Perm (G++Y)):
  mM TP sz T T (.slice p n c) m news L S w0 (fun v L'=>∃p' c' N,v=.slice p' (n+m) c'∧L'.Perm (N++Y)∧mb E sz (n+m) (lr++news) p' c' N):=by
 have b6:(n+m)*bytes≤2000000*1000:=Nat.mul_le_mul a4.1 a4.2;obtain⟨a8,a1,⟨rfl,rfl,rfl⟩|⟨Q,cs,O,rfl,a9,b1,b3⟩⟩:=h
 ·have b7:m*bytes≤(0+m)*bytes:=bI _ (by omega)
  refine(mM.nil a3 hi a7 hm ⟨by omega,by omega⟩).mono ?_;rintro _ _ ⟨B,cap,r,rfl,a2,V,rfl⟩;have a6:lr=[]:=aQ.1 (by omega);refine⟨some ⟨B,0,none⟩,cap,(B,.cells ⟨news++r⟩ E)::G,by rw[az],aw.trans (eS _ hp),by omega,by rw[a6,aT,M,az],.inr ⟨B,_,G,rfl,ah _,V,?_⟩⟩;rw[a6,az,fk M];rfl
 ·have b5:L.Perm ((Q,.cells ⟨cs⟩ E)::(O++Y)):=hp.trans (a9.append_right Y)
  refine(mM.row a3 hi a7 b5 ⟨a8,b1⟩ hm ⟨by omega,by omega⟩).mono ?_;rintro _ _ ⟨B,cap,r,rfl,a2,V,b4⟩;have a5:(cs.take (n*sz)++news++r).take ((n+m)*sz)=lr++news:=by
   rw[b3];exact fk (by rw[ae,a1,M,cU])
  rcases b4 with⟨rfl,rfl,rfl⟩|rfl
  ·exact⟨_,_,(B,.cells ⟨cs.take (n*sz)++news++r⟩ E)::O,rfl,ah _,a2,by rw[ae,a1,M,cU],.inr ⟨B,_,O,rfl,ah _,V,a5⟩⟩
  ·exact⟨_,_,(B,.cells ⟨cs.take (n*sz)++news++r⟩ E)::(Q,.cells ⟨cs⟩ E)::O,rfl,ah _,a2,by rw[ae,a1,M,cU],.inr ⟨B,_,_,rfl,ah _,V,a5⟩⟩
abbrev pE (D SB n sc:Nat)(pp:OA)(pl pc:Nat)(on:Bool)(cut:Nat):Nat×Obj:=(D,.cells #[.slice (SO SB) n sc,.slice pp pl pc,.bool (!on),.int .i64 (cut:Int)] 122)
def mQ (D:Nat)(d:DS)(F:aX):Prop:=s9 d∧∃SB sc cs pp pc G,F.Perm (pE D SB d.vis.length sc pp d.pend.length pc d.on d.cut::(SB,.cells ⟨cs⟩ 5)::G)∧d.vis.length≤sc∧cs.length=sc∧cs.take d.vis.length=kU d.dur∧mb 128 2 d.pend.length (mm d.pend) pp pc G
def uq (D:Nat)(v:aa)(d:DS):aa→aX→Prop:=fun u F=>u=v∧mQ D d F
theorem mQ.perm {D:Nat}{d:DS}{F F':aX}(h:mQ D d F)(hp:F'.Perm F):mQ D d F':=by
 obtain⟨M,SB,sc,cs,a2,a1,G,O,V⟩:=h;exact⟨M,SB,sc,cs,a2,a1,G,hp.trans O,V⟩
theorem mQ.more {D:Nat}{d:DS}{F:aX}(h:mQ D d F)(X:aX):mQ D d (X++F):=by
 obtain⟨V,SB,sc,cs,a7,a6,G,a1,a2,a3,a4,a5⟩:=h;refine⟨V,SB,sc,cs,a7,a6,X++G,?_,a2,a3,a4,a5.more X⟩;exact lR fun c w g1 M a8 O=>by
  have:=O _ _ a1;simp only[g1,M]at this ⊢;omega
theorem Wo {N:Nat}{n:Int}(hn:n=(N:Int))(V:0<N)(a1:N≤4194304):lP TP 31 ⟨[.int .i64 n]⟩ [] (fun v F=>∃D,v=.tuple #[.pointer (SO D),.int .i64 0]∧mQ D (DS.new N) F):=by
 subst hn;intro W hm;refine O1 N hm ⟨fun h=>absurd h (by omega),fun _=>⟨fun h=>absurd h (by omega),fun _=>⟨⟨by omega,by omega,by omega,by omega⟩,fun B O=>?_⟩⟩⟩;have M:(DS.new N).vis.length=N:=dL;refine DK.fin ⟨O,rfl,⟨⟨by simp[DS.new],by rw[M];exact V,by rw[M];exact a1,by simp[DS.new],fun p hp=>by cases hp⟩,rfl⟩,B,N,aA N (.int .u8 0),none,0,[],?_,by rw[M];exact aD _,dL,?_,mb.nil⟩
 ·rw[M,ai]
  exact dg _ _ _
 ·rw[M,aK (by rw[dL];exact aD _)];exact LX N
theorem SG {D:Nat}{d:DS}{F:aX}(h:mQ D d F){n:Int}(hn:n≤9223372036854775807):lP TP 74 ⟨[DP D,.int .i64 n]⟩ F (uq D (.int .i64 (d.cutAt n).1) (d.cutAt n).2):=by
 intro W hm;obtain⟨a2,SB,sc,cs,a1,V,G,b1,a3,a4,a5,a6⟩:=h;have O:=mj.cutAt a2.ok hn;have a9:=a2.vis;refine UP D n SB _ sc a1 _ V _ _ cs G (hm.perm b1.symm) ⟨fun a7=>?_,fun a7=>⟨fun a8=>?_,fun a8=>?_⟩⟩
 ·have M:d.on=false:=by simpa using a7
  rw[DS.cutAt,if_pos M];exact DK.fin ⟨rfl,a2,SB,sc,cs,a1,V,G,ah _,a3,a4,a5,a6⟩
 ·have M:¬d.on=false:=by simpa using a7
  rw[DS.cutAt,if_neg M,if_pos a8];exact DK.fin ⟨rfl,a2,SB,sc,cs,a1,V,G,ah _,a3,a4,a5,a6⟩
 ·have M:¬d.on=false:=by simpa using a7
  rw[DS.cutAt,if_neg M,if_neg a8]at O ⊢
  by_cases hz:n=0
  ·rw[if_pos hz]at O ⊢
   refine DK.fin ⟨rfl,⟨O,a9⟩,SB,sc,cs,a1,V,G,?_,a3,a4,a5,a6⟩;rw[hz];exact ah _
  ·rw[if_neg hz]at O ⊢
   refine DK.fin ⟨rfl,⟨O,a9⟩,SB,sc,cs,a1,V,G,?_,a3,a4,a5,a6⟩;have e1:decide (n=0)= !d.on:=by rw[decide_eq_false hz];simp at M;rw[M];rfl
   rw[e1,pE,dM (by omega)]
theorem s9.put {d:DS}(h:s9 d){o:Nat}{s:BA}(V:o+s.size≤d.vis.length):s9 (d.put o s).mT:=by
 refine⟨mj.mT (mj.put h.ok V),?_⟩;obtain⟨e1,M,O⟩:=wz (d.put o s);rw[e1,M,O];show lu d.vis o (bb s)=oU (d.pend++[(o,s)]) d.dur;rw[zx,←h.vis]
theorem Ar {D:Nat}{d:DS}{F:aX}(h:mQ D d F)(d2:d.pend.length<1000000){off:Int}{s:BA}:
  lP TP 36 ⟨[DP D,.int .i64 off,.string s]⟩ F (uq D (.int .i64 (d.write off s).1) (d.write off s).2):=by
 intro W hm;obtain⟨a1,SB,sc,cs,O,M,G,b7,a6,a7,a8,a9⟩:=h;have d1:=a1.ok.le;have d0:=a1.ok.cut;have same:mQ D d (pE D SB d.vis.length sc O d.pend.length M d.on d.cut::(SB,.cells ⟨cs⟩ 5)::G):=⟨a1,SB,sc,cs,O,M,G,ah _,a6,a7,a8,a9⟩;refine UT D off s SB _ sc O _ M _ _ cs G (hm.perm b7.symm) ⟨fun a2=>?_,fun a2=>?_⟩
 ·have V:d.on=false:=by simpa using a2
  rw[DS.write,if_pos V];exact DK.fin ⟨rfl,same⟩
 have V:¬d.on=false:=by simpa using a2
 have bad:¬(0≤off∧off+s.size≤d.vis.length)→uq D (.int .i64 (d.write off s).1) (d.write off s).2 (.int .i64 230) (pE D SB d.vis.length sc O d.pend.length M d.on d.cut::(SB,.cells ⟨cs⟩ 5)::G):=fun hn=>by
  rw[DS.write,if_neg V,if_neg hn];exact⟨rfl,same⟩
 refine⟨fun b9=>DK.fin (bad (by omega)),fun b9=>⟨fun c2=>DK.fin (bad (by omega)),fun c2=>?_⟩⟩;rw[kS (by omega)];refine⟨fun c3=>DK.fin (bad (by omega)),fun c3 B=>?_⟩;have b1:0≤off∧off+s.size≤d.vis.length:=by omega
 have c4:=a1.put (o:=off.toNat) (s:=s) (by omega);have c5:((off.toNat:Nat):Int)=off:=dM b1.1;rw[DS.write,if_neg V,if_pos b1];refine(a9.push (T:=120) (m:=1) (news:=[.int .i64 off,.string s]) (Y:=(B,.cells #[.int .i64 off,.string s] 128)::[pE D SB d.vis.length sc O d.pend.length M d.on d.cut,(SB,.cells ⟨cs⟩ 5)]) (bytes:=24) (z:=.agg #[.int .i64 0,.string ⟨#[]⟩]) (by kernel_rfl) (by kernel_rfl) rfl (by omega) rfl ⟨by omega,by omega⟩ aw).nd ?_;rintro _ c9 ⟨p',c',N,rfl,c7,c8⟩;refine⟨pE D SB d.vis.length sc O d.pend.length M d.on d.cut::(SB,.cells ⟨cs⟩ 5)::(N++[(B,.cells #[.int .i64 off,.string s] 128)]),?_,p',c',_,rfl,rfl,?_⟩
 ·exact lR fun c w g1 b4 b5 b6=>by
   have:=b6 _ _ c7;simp only[g1,b4,b5]at this ⊢;omega
 have a4:(lu d.vis off.toNat (bb s)).length=d.vis.length:=qw (by rw[lB];omega);have b3:(d.pend++[(off.toNat,s)]).length=d.pend.length+1:=by simp
 have c6:mm (d.pend++[(off.toNat,s)])=mm d.pend++[.int .i64 off,.string s]:=by rw[D6];simp[mm,c5]
 have a5:∀(on:Bool) (cut:Nat) (cv:Int),cv=(cut:Int)→(d.put off.toNat s).mT={d.put off.toNat s with on:=on,cut:=cut}→
   mQ D (d.put off.toNat s).mT ((D,.cells #[.slice (SO SB) d.vis.length sc,.slice p' (d.pend.length+1) c',.bool (!on),.int .i64 cv] 122)::(SB,.cells ⟨cs⟩ 5)::(N++[(B,.cells #[.int .i64 off,.string s] 128)])):=by
  rintro on cut _ rfl e;refine⟨c4,SB,sc,cs,p',c',N++[(B,.cells #[.int .i64 off,.string s] 128)],?_,?_,a7,?_,?_⟩
  ·rw[e]
   show List.Perm _ (pE D SB (lu d.vis off.toNat (bb s)).length sc p' (d.pend++[(off.toNat,s)]).length c' on cut::_);rw[a4,b3]
  ·rw[(wz _).1]
   show(lu d.vis off.toNat (bb s)).length≤sc;rw[a4];exact a6
  ·rw[(wz _).1,(wz _).2.1]
   show cs.take (lu d.vis off.toNat (bb s)).length=_;rw[a4];exact a8
  ·rw[(wz _).2.2]
   show mb _ 2 (d.pend++[(off.toNat,s)]).length (mm (d.pend++[(off.toNat,s)])) p' c' _;rw[b3,c6];exact(c8.more [_]).perm aw
 have d3:d.on=true:=by simpa using V
 refine⟨fun hc=>⟨fun a3=>?_,fun a3=>?_⟩,fun hc=>?_⟩
 ·rw[kS (by omega)]at a3 ⊢
  exact DK.fin ⟨rfl,a5 false 0 _ (by omega) (by rw[DS.mT,if_neg (by show¬d.cut=0;omega),if_pos (by show d.cut=1;omega)])⟩
 ·rw[kS (by omega)]at a3 ⊢
  exact DK.fin ⟨rfl,a5 d.on (d.cut-1) _ (by omega) (by rw[DS.mT,if_neg (by show¬d.cut=0;omega),if_neg (by show¬d.cut=1;omega)];rfl)⟩
 ·exact DK.fin ⟨rfl,a5 d.on d.cut _ rfl (by rw[DS.mT,if_pos (by show d.cut=0;omega)];rfl)⟩
theorem Kd {B n c o:Nat}{s:BA}{cs:List aa}(hc:o+s.size≤n)(hn:n≤cs.length)(a7:n≤100000000):
  lP TP 79 ⟨[.slice (SO B) n c,.int .i64 (o:Int),.string s]⟩ [(B,.cells ⟨cs⟩ 5)] (fun v L'=>v=.tuple #[]∧L'=[(B,.cells ⟨over cs o (kU (bb s))⟩ 5)]):=by
 intro W hm;refine Xv B n c o s cs hm ?_;have a8:=lB s;have go:∀(g i:Nat),g+i=s.size→Ak B n c o s (i:Int) (over cs o (kU ((bb s).take i))) [B] W (fun e a2=>∃v L',e=.returned v∧Mem L' [B] W a2∧v=.tuple #[]∧L'=[(B,.cells ⟨over cs o (kU (bb s))⟩ 5)]):=by
  intro g;induction g with
  |zero=>
   intro i hi;apply Gv;rw[aK (by omega)];exact no (by omega) (DK.fin ⟨rfl,rfl⟩)
  | succ g ih=>
   intro i hi;apply Gv;have a1:i<(bb s).length:=by omega
   have a6:(over cs o (kU ((bb s).take i))).length=cs.length:=wm (by rw[nV,ao];omega);have M:ab.wrap ((o:Int)+(i:Int))=((o+i:Nat):Int):=by rw[kS (by omega)];omega
   have a3:(over cs o (kU ((bb s).take i))).set (o+i) (.int .u8 (k8 s i))=over cs o (kU ((bb s).take (i+1))):=by
    have a4:kU ((bb s).take (i+1))=kU ((bb s).take i)++[.int .u8 (k8 s i)]:=by
     rw[gE a1,uM (s:=s) a1];simp[kU]
    have a5:(cs.take o++kU ((bb s).take i)).length=o+i:=by rw[ae,ao,nV,ao];omega
    have V:(kU ((bb s).take i)).length=i:=by rw[nV,ao];omega
    rw[a4];simp only[over];rw[V,ae,V,List.set_append_right _ _ (by omega),a5,Nat.sub_self,←an,an (cs.take o++kU ((bb s).take i))];congr 1;rw[aG (show o+i<cs.length by omega)];rfl
   refine yes (by omega) ⟨by omega,by rw[M];omega,by rw[M,ai];omega,?_⟩;rintro _ rfl;rw[M,ai,kS (by omega),show(i:Int)+1=((i+1:Nat):Int)by omega];rw[a3];exact ih (i+1) (by omega)
 have O:=go s.size 0 (by omega);have e0:over cs o (kU ((bb s).take 0))=cs:=by rw[dN];simp[over,kU]
 rw[e0]at O;exact O
theorem YX (a:BA)(hm:Mem [] [] w0 W)(H:VP [] w0 R (.sN 9 5 a (⟨#[]⟩:BA) (.cl 1 180 [.string a] []<|.ex fun b=>.rt (.bool b) []<|.re 3 (.bool b) [])<|.re 5 (.bool false) [])):aE TP 162 ⟨[.string a]⟩ W R:=VC.cs Tryz.func162 hm _ H
noncomputable def vG (b:BA)(a:Int):Cut:=⟨TP,[],166,29,(KC Tryz.f166 52),[(0,.string b),(3,IV a)],[]⟩
theorem HY (a:BA)(b:Int)(H:VP [] w0 R (.P 8 7 (b<(a.size:Int)) (.r 8<|.ix a b<|.I 2 14 ((k8 a b)=10) (.r 2<|.ix a b<|.P 2 19 ((k8 a b)<32) (.re 12 (.bool false) [])<|.r 2<|.ix a b<|.P 4 25 (126<(k8 a b)) (.re 5 (.bool false) [])<|.li 7 3 (ab.wrap (b+1)) fun c=>.ct 2 [] (vG a c))<|.li 19 3 (ab.wrap (b+1)) fun d=>.ct 2 [] (vG a d))<|.re 9 (.bool (decide ((a.size:Int)≤1000))) [])):vG a b w0 R:=VC.go Tryz.func166 _ H
theorem ZE (a:BA)(hm:Mem [] [] w0 W)(H:VP [] w0 R (.ct 11 [] (vG a 0))):aE TP 166 ⟨[.string a]⟩ W R:=VC.cs Tryz.func166 hm _ H
noncomputable def vL (d:OA)(c b:Nat)(a:Int):Cut:=⟨TP,[],163,37,(KC Tryz.f163 52),[(0,.slice d c b),(3,IV a)],[]⟩
theorem MP (d:OA)(b c:Nat)(a:Int)(H:VP [] w0 R (.P 8 8 (a<(b:Int)) (.r 8<|.x2 fun h e=>.iP d h e b c 1 a (e+(ad a))<|.x2 fun o k=>.lW h (e+(ad a)) 9 o (.string k)<|.cl 0 161 [.string k] []<|.ex fun n=>.rt (.bool n) []<|.r 3<|.dr 18<|.qu [1]<|.zB 16 n (.qu [5]<|.zP 21 (0<a) (.qu [3]<|.x2 fun i f=>.iP d i f b c 1 (ab.wrap (a-1)) (f+(ad (ab.wrap (a-1))))<|.x2 fun p l=>.lW i (f+(ad (ab.wrap (a-1)))) 9 p (.string l)<|.qu [2]<|.x2 fun j g=>.iP d j g b c 1 a (g+(ad a))<|.x2 fun q m=>.lW j (g+(ad a)) 9 q (.string m)<|.qu [3]<|.dn<|.B 1 33 (!(jy l.toList m.toList)) (.re 5 (.bool false) [])<|.li 7 3 (ab.wrap (a+1)) fun s=>.ct 2 [] (vL d b c s))<|.qu [12]<|.dn<|.li 8 3 (ab.wrap (a+1)) fun t=>.ct 2 [] (vL d b c t))<|.qu [17]<|.dn<|.re 6 (.bool false) [])<|.re 9 (.bool (decide ((b:Int)≤4))) [])):vL d b c a w0 R:=VC.go Tryz.func163 _ H
theorem Ww (c:OA)(b a:Nat)(hm:Mem [] [] w0 W)(H:VP [] w0 R (.ct 11 [] (vL c b a 0))):aE TP 163 ⟨[.slice c b a]⟩ W R:=VC.cs Tryz.func163 hm _ H
theorem YT (a:Int)(hm:Mem [] [] w0 W)(H:VP [] w0 R (.P 15 4 (a=1) (.re 5 (.string (⟨#[115,108,114,97,116,117,111,98,76]⟩)) [])<|.P 6 6 (a=2) (.re 5 (.string (⟨#[115,101]⟩)) [])<|.P 6 8 (a=3) (.re 5 (.string (⟨#[115,76]⟩)) [])<|.P 6 10 (a=4) (.re 5 (.string (⟨#[115,108,107,110,120]⟩)) [])<|.P 6 12 (a=5) (.re 5 (.string (⟨#[115,120]⟩)) [])<|.P 7 14 (a=6) (.re 7 (.string (⟨#[115]⟩)) [])<|.P 5 14 (a=10) (.re 5 (.string (⟨#[115]⟩)) [])<|.P 6 17 (a=7) (.re 5 (.string (⟨#[109,120]⟩)) [])<|.P 6 19 (a=8) (.re 5 (.string (⟨#[112,99,105]⟩)) [])<|.P 6 21 (a=9) (.re 5 (.string (⟨#[112,105]⟩)) [])<|.re 7 (sZ) [])):aE TP 96 ⟨[IV a]⟩ W R:=VC.cs Tryz.func96 hm _ H
theorem OP (a:Int)(hm:Mem [] [] w0 W)(H:VP [] w0 R (.cl 7 55 [IV a] []<|.x2 fun b c=>.rt (kBcq b c) []<|.re 11 (.string b) [])):aE TP 95 ⟨[IV a]⟩ W R:=VC.cs Tryz.func95 hm _ H
theorem ZQ (b:BA)(hm:Mem [] [] w0 W)(H:VP [] w0 R (.cl 7 58 [.string b] []<|.x2 fun a c=>.rt (kBcq a c) []<|.re 11 (.string a) [])):aE TP 127 ⟨[.string b]⟩ W R:=VC.cs Tryz.func127 hm _ H
abbrev zQ2aa (a:dF)(b x2 x3:Nat)(x4 x5 c:OA):Array aa:= #[IV a.n,IV a.time,IV a.kind,IV a.story,.string a.lang,IV a.rev,IV a.base,.string a.title,.string a.author,.slice x4 a.topics.length b,.slice x5 a.blocks.length x2,IV a.lab.unt,.slice c a.lab.after.length x3,IV a.lab.appr,IV a.lab.den,IV a.editor,IV a.block,IV a.sentence,.string a.text,.string a.name,IV a.partner,IV a.cls,IV a.unt]
abbrev zQ2ab:Array aa:= #[IV 0,IV 0,IV 0,IV 0,sZ,IV 0,IV 0,sZ,sZ,.slice none 0 0,.slice none 0 0,IV 0,.slice none 0 0,IV 0,IV 0,IV 0,IV 0,IV 0,sZ,sZ,IV 0,IV 0,IV 0]
theorem PF (b:dF)(i:OA)(h:Nat)(g:OA)(f:Nat)(e:OA)(d:Nat)(c:Int)(hm:Mem [] [] w0 W)(H:VP [] w0 R (.np 2 (.cells (zQ2aa b h f d i g e) 38) fun B=>.hp [(B,.cells (zQ2aa b h f d i g e) 38)] fun a=>.P 13 6 (c=115) (.ru [4,200]<|.P 2 11 (1≤b.story) (.ru [1,200]<|.re 4 (.bool (decide (b.story≤64))) a)<|.re 6 (.bool false) a)<|.P 6 16 (c=108) (.ru [4,200]<|.cl 0 161 [.string b.lang] a<|.ex fun j=>.rt (.bool j) a<|.re 2 (.bool j) a)<|.P 6 21 (c=114) (.ru [4,200]<|.P 2 26 (1≤b.rev) (.ru [1,200]<|.re 4 (.bool (decide (b.rev≤100))) a)<|.re 6 (.bool false) a)<|.P 6 31 (c=97) (.ru [4,200]<|.P 2 36 (0≤b.base) (.ru [1,200,1,200]<|.re 4 (.bool (decide (b.base<b.rev))) a)<|.re 8 (.bool false) a)<|.P 6 43 (c=116) (.ru [4,200]<|.cl 0 162 [.string b.title] a<|.ex fun k=>.rt (.bool k) a<|.re 2 (.bool k) a)<|.P 6 48 (c=117) (.ru [4,200]<|.cl 0 161 [.string b.author] a<|.ex fun l=>.rt (.bool l) a<|.re 2 (.bool l) a)<|.P 6 53 (c=111) (.ru [4,200]<|.cl 0 163 [.slice i b.topics.length h] a<|.ex fun m=>.rt (.bool m) a<|.re 2 (.bool m) a)<|.P 6 58 (c=98) (.ru [4,200]<|.cl 0 164 [.slice g b.blocks.length f] a<|.ex fun n=>.rt (.bool n) a<|.re 2 (.bool n) a)<|.P 6 63 (c=76) (.ru [4,200]<|.cl 0 165 [.agg (kBhq b e d)] a<|.ex fun o=>.rt (.bool o) a<|.re 2 (.bool o) a)<|.P 6 68 (c=101) (.ru [4,200]<|.P 2 73 (1≤b.editor) (.ru [1,200]<|.re 4 (.bool (decide (b.editor≤5))) a)<|.re 6 (.bool false) a)<|.P 6 78 (c=107) (.ru [4,200]<|.P 2 83 (1≤b.block) (.ru [1,200]<|.re 4 (.bool (decide (b.block≤1000))) a)<|.re 6 (.bool false) a)<|.P 6 88 (c=110) (.ru [4,200]<|.P 2 93 (0≤b.sentence) (.ru [1,200]<|.re 4 (.bool (decide (b.sentence<300))) a)<|.re 6 (.bool false) a)<|.P 6 98 (c=120) (.ru [5,200]<|.P 2 102 (b.kind=7) (.ru [4,200]<|.cl 0 166 [.string b.text] a<|.ex fun p=>.rt (.bool p) a<|.re 2 (.bool p) a)<|.ru [5,200]<|.cl 0 162 [.string b.text] a<|.ex fun q=>.rt (.bool q) a<|.re 2 (.bool q) a)<|.P 6 109 (c=109) (.ru [4,200]<|.cl 0 161 [.string b.name] a<|.ex fun s=>.rt (.bool s) a<|.re 2 (.bool s) a)<|.P 6 114 (c=112) (.ru [4,200]<|.P 2 119 (1≤b.partner) (.ru [1,200]<|.re 4 (.bool (decide (b.partner≤8))) a)<|.re 6 (.bool false) a)<|.P 6 124 (c=99) (.ru [4,200]<|.P 2 129 (0≤b.cls) (.ru [1,200]<|.re 4 (.bool (decide (b.cls<4))) a)<|.re 6 (.bool false) a)<|.ru [6,200]<|.P 2 137 (0≤b.unt) (.ru [1,200]<|.re 4 (.bool (decide (b.unt≤1000000000))) a)<|.re 6 (.bool false) a)):aE TP 125 ⟨[.agg (zQ2aa b h f d i g e),.int .u8 c]⟩ W R:=VC.cs Tryz.func125 hm _ H
noncomputable def oC (a b:Nat)(c:dF)(i:OA)(h:Nat)(g:OA)(f:Nat)(e:OA)(d:Nat):Cut:=⟨TP,[],126,57,(KC Tryz.f126 7),[(2,PP a),(4,PP b)],[(a,.cells (zQ2aa c h f d i g e) 38),(b,.cells zQ2ab 38)]⟩
theorem TK (h i:Nat)(a:dF)(g:OA)(f:Nat)(e:OA)(d:Nat)(c:OA)(b:Nat)(H:VP [] w0 R (.ru [2,200,201]<|.r 1<|.rc 1 0 (.agg (zQ2aa a f d b g e c)) [(h,.cells (zQ2aa a f d b g e c) 38),(i,.cells (zQ2aa a f d b g e c) 38)])):oC h i a g f e d c b w0 R:=VC.go Tryz.func126 _ H
theorem Pk (a:dF)(g:OA)(f:Nat)(e:OA)(d:Nat)(c:OA)(b:Nat)(i:Int)(hm:Mem [] [] w0 W)(H:VP [] w0 R (.np 2 (.cells (zQ2aa a f d b g e c) 38) fun B=>.np 0 (.cells zQ2ab 38) fun h=>.P 12 7 (i=115) (.ru [3,200]<|.ct 2 [0,1] (oC B h ({a with story:=0}:dF) g f e d c b))<|.P 6 10 (i=108) (.ru [3,200]<|.ct 2 [0,1] (oC B h ({a with lang:=⟨#[]⟩}:dF) g f e d c b))<|.P 6 13 (i=114) (.ru [3,200]<|.ct 2 [0,1] (oC B h ({a with rev:=0}:dF) g f e d c b))<|.P 6 16 (i=97) (.ru [3,200]<|.ct 2 [0,1] (oC B h ({a with base:=0}:dF) g f e d c b))<|.P 6 19 (i=116) (.ru [3,200]<|.ct 2 [0,1] (oC B h ({a with title:=⟨#[]⟩}:dF) g f e d c b))<|.P 6 22 (i=117) (.ru [3,200]<|.ct 2 [0,1] (oC B h ({a with author:=⟨#[]⟩}:dF) g f e d c b))<|.P 6 25 (i=111) (.ru [3,200]<|.ct 2 [0,1] (oC B h ({a with topics:=[]}:dF) none 0 e d c b))<|.P 6 28 (i=98) (.ru [3,200]<|.ct 2 [0,1] (oC B h ({a with blocks:=[]}:dF) g f none 0 c b))<|.P 6 31 (i=76) (.ru [4,200]<|.ct 2 [0,1] (oC B h ({a with lab.unt:=0,lab.after:=[],lab.appr:=0,lab.den:=0}:dF) g f e d none 0))<|.P 6 35 (i=101) (.ru [3,200]<|.ct 2 [0,1] (oC B h ({a with editor:=0}:dF) g f e d c b))<|.P 6 38 (i=107) (.ru [3,200]<|.ct 2 [0,1] (oC B h ({a with block:=0}:dF) g f e d c b))<|.P 6 41 (i=110) (.ru [3,200]<|.ct 2 [0,1] (oC B h ({a with sentence:=0}:dF) g f e d c b))<|.P 6 44 (i=120) (.ru [3,200]<|.ct 2 [0,1] (oC B h ({a with text:=⟨#[]⟩}:dF) g f e d c b))<|.P 6 47 (i=109) (.ru [3,200]<|.ct 2 [0,1] (oC B h ({a with name:=⟨#[]⟩}:dF) g f e d c b))<|.P 6 50 (i=112) (.ru [3,200]<|.ct 2 [0,1] (oC B h ({a with partner:=0}:dF) g f e d c b))<|.P 6 53 (i=99) (.ru [3,200]<|.ct 2 [0,1] (oC B h ({a with cls:=0}:dF) g f e d c b))<|.ru [3,200]<|.ct 2 [0,1] (oC B h ({a with unt:=0}:dF) g f e d c b))):aE TP 126 ⟨[.agg (zQ2aa a f d b g e c),.int .u8 i]⟩ W R:=VC.cs Tryz.func126 hm _ H
theorem O7 {s:BA}(h:¬s=⟨#[]⟩):s.size≠0:=fun e=>h (gV (eO e))
theorem HV (s:BA)(M:s.size≤9223372036854775807):l9 TP 162 ⟨[.string s]⟩ (.bool (mP s)):=fun W=>by
 refine YX s (Mem.start [] W) ⟨fun h=>eA.pure (Mh s M) ⟨_,rfl,rfl,lf ?_⟩,fun h=>lf ?_⟩
 ·rw[mP,decide_eq_true (p:=s.size≠0) (O7 h),aH]
 ·subst h;rfl
theorem M4 {s:BA}(V:s.size≤9223372036854775807):∀(g i:Nat),g+i=s.size→Fin R [] [] w0 (.bool (decide (s.size≤1000)&&scan s qV i))→vG s (i:Int) w0 R
 |0,i,hg,H=>by
  apply HY;refine no (by omega) (lD H ?_);rw[uj (by omega),iC];congr 1;exact decide_eq_decide.2 (by omega)
 | g+1,i,hg,H=>by
  apply HY;have hi:i<s.size:=by omega
  have next:qV (k8 s i)=true→∀x:Int,x=ab.wrap ((i:Int)+1)→vG s x w0 R:=by
   rintro hn _ rfl;rw[kS (by omega),show(i:Int)+1=((i+1:Nat):Int)by omega];rw[ua hi hn]at H;exact M4 V g (i+1) (by omega) H
  have stop:qV (k8 s i)=false→Fin R [] [] w0 (.bool false):=fun hn=>lD H (by rw[sq hi hn,Bool.and_false])
  refine yes (by omega) ⟨by omega,fun h=>⟨by omega,fun M=>stop (CP (by omega)),fun M=>⟨by omega,fun O=>stop (CP (by omega)),fun O=>next (FC (by omega))⟩⟩,fun h=>next (FC (by omega))⟩
theorem OC (s:BA)(M:s.size≤9223372036854775807):l9 TP 166 ⟨[.string s]⟩ (.bool (rI s)):=fun W=>
 ZE s (Mem.start [] W) (M4 M s.size 0 (by omega) (lf rfl))
theorem I8:∀(a b:List UInt8),(!Op.bytesLess a b)=(jy b a||(b==a))
 |[],[]=>rfl
 |[],_::_=>rfl
 |_::_,[]=>rfl
 | x::a,y::b=>by
  have ih:=I8 a b;simp only[jy]
  by_cases h1:x<y
  ·have M:¬y<x:=fun h=>absurd (eK.1 h) (by have:=eK.1 h1;omega)
   have O:¬y=x:=fun h=>M (h▸(h▸h1))
   simp[h1,M,O]
  ·by_cases M:y<x
   ·have O:¬x=y:=fun h=>h1 (h▸(h▸M))
    simp[h1,M,O]
   ·have e1:¬x.toNat<y.toNat:=fun h=>h1 (eK.2 h)
    have V:¬y.toNat<x.toNat:=fun h=>M (eK.2 h)
    have O:x=y:=UInt8.toNat_inj.1 (by omega);subst O;simp only[h1,decide_false,Bool.false_or,BEq.rfl,aH,ih,List.cons_beq_cons]
theorem H3 (a b:BA):zY a b= !Op.bytesLess b.toList a.toList:=(I8 b.toList a.toList).symm
theorem GD {w0:aj}{p:OA}{c:Nat}{R:Ending→aj→Prop}{l:List BA}(hp:nh (kY w0) p l)(a4:∀t∈l,t.size≤9223372036854775807)(hm:l.length≤9223372036854775807):
  ∀(g i:Nat),g+i=l.length→Fin R [] [] w0 (.bool (decide (l.length≤4)&&tW (rA l i) (l.drop i)))→vL p l.length c (i:Int) w0 R
 |0,i,hg,H=>by
  apply MP;refine no (by omega) (lD H ?_);rw[ax (by omega)];have e:tW (rA l i) []=true:=by cases i<;>rfl
  rw[e,iC];congr 1;exact decide_eq_decide.2 (by omega)
 | g+1,i,hg,H=>by
  apply MP;have hi:i<l.length:=by omega
  obtain⟨b,o,cc,e1,V,a1⟩:=hp.get hi;rw[aG hi,tW]at H;have next:mK l[i]=true→vj (rA l i) l[i]=true→vL p l.length c (ab.wrap ((i:Int)+1)) w0 R:=fun M a9=>by
   rw[M,a9,aH,aH]at H;rw[kS (by omega),show(i:Int)+1=((i+1:Nat):Int)by omega];refine GD hp a4 hm g (i+1) (by omega) (lD H ?_);rw[rA,ar hi]
  refine yes (by omega) ⟨b,o,e1,by omega,cc,l[i],V,by simpa using a1,eA.pure (ye _ (a4 _ (bH hi))) ⟨_,rfl,rfl,fun M=>⟨fun a8=>?_,fun a8=>?_⟩,fun M=>lD H (by rw[M];simp)⟩⟩
  ·obtain⟨k,rfl⟩:∃k,i=k+1:=⟨i-1,by omega⟩
   have a2:k<l.length:=by omega
   obtain⟨b2,b3,a5,f1,a6,a7⟩:=hp.get a2;have b1:ab.wrap (((k+1:Nat):Int)-1)=(k:Int):=by rw[kS (by omega)];omega
   have a3:rA l (k+1)=some l[k]:=by rw[rA,ar a2]
   try dsimp only
   rw[b1];refine⟨b2,b3,f1,by omega,a5,l[k],a6,by simpa using a7,b,o,e1,by omega,cc,l[k+1],V,by simpa using a1,fun O=>lD H ?_,fun O=>?_⟩
   ·rw[M,a3,vj,H3,O];simp
   ·rintro _ rfl;exact next M (by rw[a3,vj,H3,O];rfl)
  ·have:i=0:=by omega
   subst this;rintro _ rfl;exact next M rfl
theorem Yh {p:OA}{c:Nat}{l:List BA}(hp:nh (kY W) p l)(M:∀t∈l,t.size≤9223372036854775807)(hm:l.length≤9223372036854775807):
  PW TP 163 ⟨[.slice p l.length c]⟩ W (.bool (sJ l)):=
 Ww p l.length c (Mem.start [] W) (GD hp M hm l.length 0 (by omega) (kQ rfl))
theorem oV {n:Int}(h:lU n):l9 TP 95 ⟨[.int .i64 n]⟩ (.string (ba (Wire.enc n))):=fun W=>
 OP n (Mem.start [] W) (eA.pure (xn n) ⟨_,_,A3 h,rfl,lf rfl⟩)
theorem u9 {s:BA}(h:s.size≤65536):l9 TP 127 ⟨[.string s]⟩ (.string (s5 s)):=fun W=>
 ZQ s (Mem.start [] W) (eA.pure (E7 s) ⟨_,_,if_pos h,rfl,lf rfl⟩)
def zeroV:(t:rG)→t.T
 | .int=>(0:Int)| .str=>e0| .topics=>([]:List BA)| .blocks=>([]:List kT)| .label=>mi.zero
def dF.wo (f:dF)(x:k9):dF:=f.set x (zeroV x.ty)
def mz (c:Int):k9:=
 if c=115 then .story else if c=108 then .lang else if c=114 then .rev else if c=97 then .base else if c=116 then .title else if c=117 then .author else if c=111 then .topics else if c=98 then .blocks else if c=76 then .label
 else if c=101 then .editor else if c=107 then .block else if c=110 then .sentence else if c=120 then .text else if c=109 then .name else if c=112 then .partner else if c=99 then .cls else .unt
def yi (f:dF):k9→Bool
 | .story=>f.mX
 | .lang=>mK f.lang
 | .rev=>decide (1≤f.rev∧f.rev≤100)
 | .base=>decide (0≤f.base∧f.base≤f.rev-1)
 | .title=>mP f.title
 | .author=>mK f.author
 | .topics=>sJ f.topics
 | .blocks=>m9 f.blocks
 | .label=>f.lab.ok
 | .editor=>decide (1≤f.editor∧f.editor≤5)
 | .block=>decide (1≤f.block∧f.block≤1000)
 | .sentence=>decide (0≤f.sentence∧f.sentence≤299)
 | .text=>if f.kind=7 then rI f.text else mP f.text
 | .name=>mK f.name
 | .partner=>decide (1≤f.partner∧f.partner≤8)
 | .cls=>decide (0≤f.cls∧f.cls≤3)
 |_=>decide (0≤f.unt∧f.unt≤1000000000)
theorem ZJ (f:dF):f.lr=(decide (k6 f.kind≠[])&&(k6 f.kind).all (yi f)):=by
 by_cases hk:f.kind=1∨f.kind=2∨f.kind=3∨f.kind=4∨f.kind=5∨f.kind=6∨f.kind=7∨f.kind=8∨f.kind=9∨f.kind=10
 ·unfold dF.lr k6
  rcases hk with hk|hk|hk|hk|hk|hk|hk|hk|hk|hk<;>simp only[hk,reduceIte,aV,List.all_cons,List.all_nil,yi,dF.qd,dF.qy,dF.qo,iC,ne_eq,reduceCtorEq,not_false_eq_true,decide_true,aH]
  all_goals
   rw[fL];simp only[av,decide_eq_true_eq];omega
 ·have e:k6 f.kind=[]:=by unfold k6;simp only[not_or]at hk;obtain⟨M,V,a1,a2,a3,a4,a5,a6,a7,O⟩:=hk;simp only[M,V,a1,a2,a3,a4,a5,a6,a7,O,if_false]
  rw[e];unfold dF.lr;simp only[not_or]at hk;obtain⟨M,V,a1,a2,a3,a4,a5,a6,a7,O⟩:=hk;simp only[M,V,a1,a2,a3,a4,a5,a6,a7,O,if_false];rfl
theorem FF {y:k9}:∀(l:List k9) (g:dF),(l.foldl dF.wo g).get y=if y∈l then zeroV y.ty else g.get y
 |[],g=>rfl
 | x::l,g=>by
  rw[bS,FF l]
  by_cases h:y∈l
  ·rw[if_pos h,if_pos (ag _ h)]
  ·rw[if_neg h]
   by_cases e:x=y
   ·subst e;rw[if_pos au,dF.wo,dF.Ff]
   ·rw[if_neg (by simp only[bT,not_or];exact⟨fun q=>e q.symm,h⟩),dF.wo,dF.Bf _ e]
theorem D5 {f:dF}{y:k9}:∀(l:List k9) (g:dF),(l.foldl (fun g x=>g.set x (f.get x)) g).get y=if y∈l then f.get y else g.get y
 |[],g=>rfl
 | x::l,g=>by
  rw[bS,D5 l]
  by_cases h:y∈l
  ·rw[if_pos h,if_pos (ag _ h)]
  ·rw[if_neg h]
   by_cases e:x=y
   ·subst e;rw[if_pos au,dF.Ff]
   ·rw[if_neg (by simp only[bT,not_or];exact⟨fun q=>e q.symm,h⟩),dF.Bf _ e]
theorem Pz (f:dF):f=f.used↔(k6 f.kind).foldl dF.wo f=dF.bare f.n f.time f.kind:=by
 obtain⟨_,k1,V,a1⟩:=En f.kind;have O:∀y∈k6 f.kind,(dF.bare f.n f.time f.kind).get y=zeroV y.ty:=fun y M=>by
  cases y<;>first|rfl|contradiction
 constructor
 ·intro h
  apply dF.ext_get;intro y;rw[FF]
  by_cases M:y∈k6 f.kind
  ·rw[if_pos M,O y M]
  ·rw[if_neg M]
   have:=congrArg (fun g:dF=>g.get y) h;exact this.trans ((D5 _ _).trans (if_neg M))
 ·intro h
  apply dF.ext_get;intro y;rw[dF.used,D5]
  by_cases M:y∈k6 f.kind
  ·rw[if_pos M]
  ·rw[if_neg M,←h,FF,if_neg M]
theorem K6 (f:dF):f.ok=(decide (0≤f.n∧f.n≤500∧0≤f.time∧f.time≤1000000000)&&(decide (k6 f.kind≠[])&&((k6 f.kind).all (yi f)&&decide ((k6 f.kind).foldl dF.wo f=dF.bare f.n f.time f.kind)))):=by
 rw[dF.ok,ZJ,Bool.and_assoc,decide_eq_decide.2 (Pz f)]
def nM (k:Int):BA:=
 if k=1 then⟨#[115,108,114,97,116,117,111,98,76]⟩else if k=2 then⟨#[115,101]⟩else if k=3 then⟨#[115,76]⟩else if k=4 then⟨#[115,108,107,110,120]⟩else if k=5 then⟨#[115,120]⟩
 else if k=6 then⟨#[115]⟩else if k=10 then⟨#[115]⟩else if k=7 then⟨#[109,120]⟩else if k=8 then⟨#[112,99,105]⟩else if k=9 then⟨#[112,105]⟩else⟨#[]⟩
theorem LC (k:Int):(bb (nM k)).map (fun b=>mz (b.toNat:Int))=k6 k:=by
 unfold nM k6
 by_cases h1:k=1; · simp only[h1,if_true];rfl
 by_cases h2:k=2; · simp only[h2,aV,if_false,if_true];rfl
 by_cases h3:k=3; · simp only[h3,aV,if_false,if_true];rfl
 by_cases h4:k=4; · simp only[h4,aV,if_false,if_true];rfl
 by_cases h5:k=5; · simp only[h5,aV,if_false,if_true];rfl
 by_cases h6:k=6; · simp only[h6,aV,if_false,if_true];rfl
 by_cases h7:k=7; · simp only[h7,aV,if_false,if_true];rfl
 by_cases h8:k=8; · simp only[h8,aV,if_false,if_true];rfl
 by_cases h9:k=9; · simp only[h9,aV,if_false,if_true];rfl
 by_cases h10:k=10; · simp only[h10,aV,if_false,if_true];rfl
 simp only[h1,h2,h3,h4,h5,h6,h7,h8,h9,h10,if_false];rfl
theorem tm (k:Int):(nM k).size=(k6 k).length:=by rw[←LC,List.length_map,lB]
theorem DI {k:Int}{i:Nat}(h:i<(k6 k).length):mz (k8 (nM k) i)=(k6 k)[i]:=by
 have M:i<(bb (nM k)).length:=by rw[lB,tm];exact h
 have e:(k6 k)[i]?=some (mz ((bb (nM k))[i].toNat:Int)):=by rw[←LC,bP,ar M];rfl
 rw[ar h]at e;rw[bY e,k8];show mz ((((bb (nM k))[(i:Int).toNat]?).getD 0).toNat:Int)=_;rw[ai,ar M];rfl
theorem Dm (k:Int):l9 TP 96 ⟨[.int .i64 k]⟩ (.string (nM k)):=fun W=>by
 refine YT k (Mem.start [] W) ⟨fun h=>lf (by simp only[nM, *,aV,if_false,if_true]),fun k1=>⟨fun h=>lf (by simp only[nM, *,aV,if_false,if_true]),fun O=>⟨fun h=>lf (by simp only[nM, *,aV,if_false,if_true]),fun V=>⟨fun h=>lf (by simp only[nM, *,aV,if_false,if_true]),fun a1=>⟨fun h=>lf (by simp only[nM, *,aV,if_false,if_true]),fun a2=>⟨fun h=>lf (by simp only[nM, *,aV,if_false,if_true]),fun a3=>⟨fun h=>lf (by simp only[nM, *,aV,if_false,if_true]),fun a4=>⟨fun h=>lf (by simp only[nM, *,aV,if_false,if_true]),fun a5=>⟨fun h=>lf (by simp only[nM, *,aV,if_false,if_true]),fun a6=>⟨fun h=>lf (by simp only[nM, *,aV,if_false,if_true]),fun M=>lf (by simp only[nM, *,if_false])⟩⟩⟩⟩⟩⟩⟩⟩⟩⟩
section qflds
variable {W:World}{f:dF}{tp bp ap:Option Addr}{tc bc ac:Nat}{c:Int}
theorem XH (h:lv (kY W) f tp tc bp bc ap ac):PW TP 125 ⟨[.agg ⟨f.cells tp tc bp bc ap ac⟩,.int .u8 c]⟩ W (.bool (yi f (mz c))):=by
 obtain⟨⟨a2,a3,a4,V,a5⟩,⟨t1,a6⟩,a7,a1⟩:=h.fits;refine PF f tp tc bp bc ap ac c (Mem.start [] W) fun B=>?_
 have D:∀{p q:Prop} [Decidable p] [Decidable q] {b:Bool},b=decide q→(p↔q)→dq (decide p)=.bool b:=fun e i=>by rw[e,decide_eq_decide.2 i]
 have N:∀{q:Prop} [Decidable q] {b:Bool},b=decide q→¬q→dq false=.bool b:=fun e i=>by rw[e,decide_eq_false i]
 refine⟨fun k=>?_,fun k1=>⟨fun k=>?_,fun b7=>⟨fun k=>?_,fun b9=>⟨fun k=>?_,fun c2=>⟨fun k=>?_,fun c3=>⟨fun k=>?_,fun c4=>⟨fun k=>?_,fun c5=>⟨fun k=>?_,fun c6=>⟨fun k=>?_,fun c7=>⟨fun k=>?_,fun a8=>⟨fun k=>?_,fun a9=>⟨fun k=>?_,fun b1=>⟨fun k=>?_,fun b3=>⟨fun k=>?_,fun b4=>⟨fun k=>?_,fun b5=>⟨fun k=>?_,fun b6=>?_⟩⟩⟩⟩⟩⟩⟩⟩⟩⟩⟩⟩⟩⟩⟩⟩
 ·subst k;exact⟨fun g=>kQ (D (q:=1≤f.story∧f.story≤64) rfl (by omega)),fun g=>kQ (N (q:=1≤f.story∧f.story≤64) rfl (by omega))⟩
 ·subst k;exact eA.pure (ye _ a2) ⟨_,rfl,rfl,kQ rfl⟩
 ·subst k;exact⟨fun g=>kQ (D (q:=1≤f.rev∧f.rev≤100) rfl (by omega)),fun g=>kQ (N (q:=1≤f.rev∧f.rev≤100) rfl (by omega))⟩
 ·subst k;exact⟨fun g=>kQ (D (q:=0≤f.base∧f.base≤f.rev-1) rfl (by omega)),fun g=>kQ (N (q:=0≤f.base∧f.base≤f.rev-1) rfl (by omega))⟩
 ·subst k;exact eA.pure (HV _ a3) ⟨_,rfl,rfl,kQ rfl⟩
 ·subst k;exact eA.pure (ye _ a4) ⟨_,rfl,rfl,kQ rfl⟩
 ·subst k;exact eA.pw (fun O M=>Yh (h.tops.mono (lK M)) a6 t1) ⟨_,rfl,rfl,kQ rfl⟩
 ·subst k;exact eA.pw (fun O M=>Be (h.blks.mono (lK M))) ⟨_,rfl,rfl,kQ rfl⟩
 ·subst k;exact eA.pw (fun O M=>IT (h.ints.mono (lK M)) a1) ⟨_,rfl,rfl,kQ rfl⟩
 ·subst k;exact⟨fun g=>kQ (D (q:=1≤f.editor∧f.editor≤5) rfl (by omega)),fun g=>kQ (N (q:=1≤f.editor∧f.editor≤5) rfl (by omega))⟩
 ·subst k;exact⟨fun g=>kQ (D (q:=1≤f.block∧f.block≤1000) rfl (by omega)),fun g=>kQ (N (q:=1≤f.block∧f.block≤1000) rfl (by omega))⟩
 ·subst k;exact⟨fun g=>kQ (D (q:=0≤f.sentence∧f.sentence≤299) rfl (by omega)),fun g=>kQ (N (q:=0≤f.sentence∧f.sentence≤299) rfl (by omega))⟩
 ·subst k
  exact⟨fun g=>eA.pure (OC _ V) ⟨_,rfl,rfl,kQ (congrArg dq (if_pos g).symm)⟩,fun g=>eA.pure (HV _ V) ⟨_,rfl,rfl,kQ (congrArg dq (if_neg g).symm)⟩⟩
 ·subst k;exact eA.pure (ye _ a5) ⟨_,rfl,rfl,kQ rfl⟩
 ·subst k;exact⟨fun g=>kQ (D (q:=1≤f.partner∧f.partner≤8) rfl (by omega)),fun g=>kQ (N (q:=1≤f.partner∧f.partner≤8) rfl (by omega))⟩
 ·subst k;exact⟨fun g=>kQ (D (q:=0≤f.cls∧f.cls≤3) rfl (by omega)),fun g=>kQ (N (q:=0≤f.cls∧f.cls≤3) rfl (by omega))⟩
 ·have e:mz c=.unt:=by simp only[mz, *,if_false]
  rw[e];exact⟨fun g=>kQ (D (q:=0≤f.unt∧f.unt≤1000000000) rfl (by omega)),fun g=>kQ (N (q:=0≤f.unt∧f.unt≤1000000000) rfl (by omega))⟩
end qflds
def k9.Bv:k9→OA→OA| .topics,_=>none|_,p=>p
def k9.AU:k9→Nat→Nat| .topics,_=>0|_,c=>c
def k9.z6:k9→OA→OA| .blocks,_=>none|_,p=>p
def k9.AR:k9→Nat→Nat| .blocks,_=>0|_,c=>c
def k9.BR:k9→OA→OA| .label,_=>none|_,p=>p
def k9.A8:k9→Nat→Nat| .label,_=>0|_,c=>c
theorem lv.wo {lk:Lk}{f:dF}{tp bp ap:OA}{tc bc ac:Nat}(h:lv lk f tp tc bp bc ap ac)(x:k9):lv lk (f.wo x) (x.Bv tp) (x.AU tc) (x.z6 bp) (x.AR bc) (x.BR ap) (x.A8 ac):=by
 obtain⟨⟨V,a1,a2,a3,a4⟩,⟨t1,a5⟩,O,M⟩:=h.fits;have z:=ny;have a6:(0:Nat)≤9223372036854775807:=by omega
 cases x
 case topics=>exact⟨Cu,h.blks,h.ints,aD _,h.cb,h.ca,⟨V,a1,a2,a3,a4⟩,⟨a6,fun t a7=>by cases a7⟩,O,M⟩
 case blocks=>exact⟨h.tops,uN,h.ints,h.ct,aD _,h.ca,⟨V,a1,a2,a3,a4⟩,⟨t1,a5⟩,a6,M⟩
 case label=>exact⟨h.tops,h.blks,M7,h.ct,h.cb,aD _,⟨V,a1,a2,a3,a4⟩,⟨t1,a5⟩,O,a6⟩
 case lang=>exact⟨h.tops,h.blks,h.ints,h.ct,h.cb,h.ca,⟨z,a1,a2,a3,a4⟩,⟨t1,a5⟩,O,M⟩
 case title=>exact⟨h.tops,h.blks,h.ints,h.ct,h.cb,h.ca,⟨V,z,a2,a3,a4⟩,⟨t1,a5⟩,O,M⟩
 case author=>exact⟨h.tops,h.blks,h.ints,h.ct,h.cb,h.ca,⟨V,a1,z,a3,a4⟩,⟨t1,a5⟩,O,M⟩
 case text=>exact⟨h.tops,h.blks,h.ints,h.ct,h.cb,h.ca,⟨V,a1,a2,z,a4⟩,⟨t1,a5⟩,O,M⟩
 case name=>exact⟨h.tops,h.blks,h.ints,h.ct,h.cb,h.ca,⟨V,a1,a2,a3,z⟩,⟨t1,a5⟩,O,M⟩
 all_goals exact⟨h.tops,h.blks,h.ints,h.ct,h.cb,h.ca,h.fits⟩
theorem Yp {f:dF}{tp bp ap:OA}{tc bc ac:Nat}{c:Int}:l9 TP 126 ⟨[.agg ⟨f.cells tp tc bp bc ap ac⟩,.int .u8 c]⟩ (.agg ⟨(f.wo (mz c)).cells ((mz c).Bv tp) ((mz c).AU tc) ((mz c).z6 bp) ((mz c).AR bc) ((mz c).BR ap) ((mz c).A8 ac)⟩):=fun W=>by
 refine Pk f tp tc bp bc ap ac c (Mem.start [] W) fun B M=>?_
 have G:∀x:k9,mz c=x→oC B M (f.wo x) (x.Bv tp) (x.AU tc) (x.z6 bp) (x.AR bc) (x.BR ap) (x.A8 ac) W (fun e O=>e=.returned (.agg ⟨(f.wo (mz c)).cells ((mz c).Bv tp) ((mz c).AU tc) ((mz c).z6 bp) ((mz c).AR bc) ((mz c).BR ap) ((mz c).A8 ac)⟩)∧Below W.heap.size W O):=by
  rintro x rfl;apply TK;exact lf rfl
 refine⟨fun k=>G .story (by rw[k];rfl),fun k1=>⟨fun k=>G .lang (by rw[k];rfl),fun a7=>⟨fun k=>G .rev (by rw[k];rfl),fun a8=>⟨fun k=>G .base (by rw[k];rfl),fun a9=>⟨fun k=>G .title (by rw[k];rfl),fun b1=>⟨fun k=>G .author (by rw[k];rfl),fun b3=>⟨fun k=>G .topics (by rw[k];rfl),fun b4=>⟨fun k=>G .blocks (by rw[k];rfl),fun b5=>⟨fun k=>G .label (by rw[k];rfl),fun b6=>⟨fun k=>G .editor (by rw[k];rfl),fun V=>⟨fun k=>G .block (by rw[k];rfl),fun a1=>⟨fun k=>G .sentence (by rw[k];rfl),fun a2=>⟨fun k=>G .text (by rw[k];rfl),fun a3=>⟨fun k=>G .name (by rw[k];rfl),fun a4=>⟨fun k=>G .partner (by rw[k];rfl),fun a5=>⟨fun k=>G .cls (by rw[k];rfl),fun a6=>G .unt (by simp only[mz, *,if_false])⟩⟩⟩⟩⟩⟩⟩⟩⟩⟩⟩⟩⟩⟩⟩⟩
abbrev zQ3aa (a:dF)(b x2 x3:Nat)(x4 x5 c:OA):Array aa:= #[IV a.n,IV a.time,IV a.kind,IV a.story,.string a.lang,IV a.rev,IV a.base,.string a.title,.string a.author,.slice x4 a.topics.length b,.slice x5 a.blocks.length x2,IV a.lab.unt,.slice c a.lab.after.length x3,IV a.lab.appr,IV a.lab.den,IV a.editor,IV a.block,IV a.sentence,.string a.text,.string a.name,IV a.partner,IV a.cls,IV a.unt]
noncomputable def Bu (d:dF)(j:OA)(i:Nat)(h:OA)(g:Nat)(f:OA)(e:Nat)(k:dF)(q:OA)(p:Nat)(o:OA)(n:Nat)(m:OA)(l a b:Nat)(c:Int):Cut:=⟨TP,[],80,170,(KC kM 116),[(2,PP a),(3,PP b),(5,IV c)],[(a,.cells (zQ3aa d i g e j h f) 38),(b,.cells (zQ3aa k p n l q o m) 38)]⟩
noncomputable def qE (f:dF)(l:OA)(k:Nat)(j:OA)(i:Nat)(h:OA)(g:Nat)(m:dF)(t:OA)(s:Nat)(q:OA)(p:Nat)(o:OA)(n a b:Nat)(c e d:Bool):Cut:=⟨TP,[],80,170,(KC kM 127),[(2,PP a),(3,PP b),(6,.bool c),(7,.bool e),(8,.bool d)],[(a,.cells (zQ3aa f k i g l j h) 38),(b,.cells (zQ3aa m s p n t q o) 38)]⟩
noncomputable def rN (e:dF)(k:OA)(j:Nat)(i:OA)(h:Nat)(g:OA)(f:Nat)(l:dF)(s:OA)(q:Nat)(p:OA)(o:Nat)(n:OA)(m:Nat)(a c b d:Bool):Cut:=⟨TP,[],80,170,(KC kM 255),[(6,.bool a),(7,.bool c),(8,.bool b),(9,.bool d)],[]⟩
theorem JT (a:dF)(h:OA)(g:Nat)(f:OA)(e:Nat)(d:OA)(c:Nat)(b:dF)(o:OA)(m:Nat)(l:OA)(k:Nat)(j:OA)(i p q:Nat)(u:Int)(H:VP [] w0 R (.hp [(p,.cells (zQ3aa a g e c h f d) 38),(q,.cells (zQ3aa b m k i o l j) 38)] fun w=>.ru [5,200]<|.P 3 21 (u<(a.topics.length:Int)) (.r 5<|.dr 11<|.qu [1,100,1]<|.x2 fun C x=>.iP h C x a.topics.length g 1 u (x+(ad u))<|.x2 fun E z=>.lW C (x+(ad u)) 9 E (.string z)<|.qu [1,101,1]<|.x2 fun D y=>.iP o D y b.topics.length m 1 u (y+(ad u))<|.x2 fun F A=>.lW D (y+(ad u)) 9 F (.string A)<|.qu [1]<|.dn<|.sN 1 34 z A (.re 5 (.bool false) w)<|.li 7 5 (ab.wrap (u+1)) fun G=>.ct 2 [0,1] (Bu a h g f e d c b o m l k j i p q G))<|.ru [5,200,1,201]<|.cl 0 118 [.slice f a.blocks.length e,.slice l b.blocks.length k] w<|.ex fun s=>.rt (.bool s) w<|.ru [5,200,1,201]<|.cl 0 119 [.agg (kBhq a d c),.agg (kBhq b j i)] w<|.ex fun t=>.rt (.bool t) w<|.ru [5,200,1,201]<|.P 2 50 (a.n=b.n) (.ru [1,200,1,201]<|.P 3 57 (a.time=b.time) (.ru [1,200,1,201]<|.P 3 64 (a.kind=b.kind) (.ru [1,200,1,201]<|.P 3 71 (a.story=b.story) (.ru [1,200,1,201]<|.sE 3 78 a.lang b.lang (.ru [1,200,1,201]<|.P 3 85 (a.rev=b.rev) (.ru [1,200,1,201]<|.P 3 92 (a.base=b.base) (.ru [1,200,1,201]<|.sE 3 99 a.title b.title (.ru [1,200,1,201]<|.ct 4 [0,1] (qE a h g f e d c b o m l k j i p q s t (a.author.toList==b.author.toList)))<|.ct 8 [0,1] (qE a h g f e d c b o m l k j i p q s t false))<|.ct 15 [0,1] (qE a h g f e d c b o m l k j i p q s t false))<|.ct 22 [0,1] (qE a h g f e d c b o m l k j i p q s t false))<|.ct 29 [0,1] (qE a h g f e d c b o m l k j i p q s t false))<|.ct 36 [0,1] (qE a h g f e d c b o m l k j i p q s t false))<|.ct 43 [0,1] (qE a h g f e d c b o m l k j i p q s t false))<|.ct 50 [0,1] (qE a h g f e d c b o m l k j i p q s t false))<|.ct 57 [0,1] (qE a h g f e d c b o m l k j i p q s t false))):Bu a h g f e d c b o m l k j i p q u w0 R:=VC.go hM _ H
theorem UG (a:dF)(k:OA)(j:Nat)(i:OA)(h:Nat)(g:OA)(f:Nat)(b:dF)(q:OA)(p:Nat)(o:OA)(n:Nat)(m:OA)(l s t:Nat)(c e d:Bool)(H:VP [] w0 R (.ru [3,200,1,201]<|.P 2 111 (a.editor=b.editor) (.ru [1,200,1,201]<|.P 3 118 (a.block=b.block) (.ru [1,200,1,201]<|.P 3 125 (a.sentence=b.sentence) (.ru [1,200,1,201]<|.sE 3 132 a.text b.text (.ru [1,200,1,201]<|.sE 3 139 a.name b.name (.ru [1,200,1,201]<|.P 3 146 (a.partner=b.partner) (.ru [1,200,1,201]<|.P 3 153 (a.cls=b.cls) (.ru [1,200,1,201]<|.ct 4 [] (rN a k j i h g f b q p o n m l c e d (decide (a.unt=b.unt))))<|.ct 8 [] (rN a k j i h g f b q p o n m l c e d false))<|.ct 15 [] (rN a k j i h g f b q p o n m l c e d false))<|.ct 22 [] (rN a k j i h g f b q p o n m l c e d false))<|.ct 29 [] (rN a k j i h g f b q p o n m l c e d false))<|.ct 36 [] (rN a k j i h g f b q p o n m l c e d false))<|.ct 43 [] (rN a k j i h g f b q p o n m l c e d false))<|.ct 50 [] (rN a k j i h g f b q p o n m l c e d false))):qE a k j i h g f b q p o n m l s t c e d w0 R:=VC.go hM _ H
theorem Wh (e:dF)(k:OA)(j:Nat)(i:OA)(h:Nat)(g:OA)(f:Nat)(l:dF)(s:OA)(q:Nat)(p:OA)(o:Nat)(n:OA)(m:Nat)(a c b d:Bool)(H:VP [] w0 R (.B 4 161 a (.B 3 164 c (.B 3 167 b (.re 4 (.bool d) [])<|.re 4 (.bool false) [])<|.re 7 (.bool false) [])<|.re 10 (.bool false) [])):rN e k j i h g f l s q p o n m a c b d w0 R:=VC.go hM _ H
theorem T7 (a:dF)(h:OA)(g:Nat)(f:OA)(e:Nat)(d:OA)(c:Nat)(b:dF)(n:OA)(m:Nat)(l:OA)(k:Nat)(j:OA)(i:Nat)(hm:Mem [] [] w0 W)(H:VP [] w0 R (.np 2 (.cells (zQ3aa a g e c h f d) 38) fun B=>.np 0 (.cells (zQ3aa b m k i n l j) 38) fun o=>.ru [6,200,2,201]<|.I 3 16 ((a.topics.length:Int)=(b.topics.length:Int)) (.re 5 (.bool false) [(B,.cells (zQ3aa a g e c h f d) 38),(o,.cells (zQ3aa b m k i n l j) 38)])<|.ct 9 [0,1] (Bu a h g f e d c b n m l k j i B o 0))):aE TP 80 ⟨[.agg (zQ3aa a g e c h f d),.agg (zQ3aa b m k i n l j)]⟩ W R:=VC.cs hM hm _ H
noncomputable def AP (a b:Nat)(c:BA)(d:Int)(e:dF)(s:OA)(q:Nat)(p:OA)(o:Nat)(n:OA)(m:Nat)(f:dF)(l:OA)(k:Nat)(j:OA)(i:Nat)(h:OA)(g:Nat):Cut:=⟨TP,[],94,60,(KC Tryz.f94 500),[(1,PP a),(3,.string c),(4,PP b),(5,IV d)],[(a,.cells (zQ3aa e q o m s p n) 38),(b,.cells (zQ3aa f k i g l j h) 38)]⟩
theorem Hy (t u:Nat)(a:BA)(b:Int)(c:dF)(s:OA)(q:Nat)(p:OA)(o:Nat)(m:OA)(l:Nat)(e:dF)(k:OA)(j:Nat)(i:OA)(h:Nat)(g:OA)(f:Nat)(H:VP [] w0 R (.hp [(t,.cells (zQ3aa c q o l s p m) 38),(u,.cells (zQ3aa e j h f k i g) 38)] fun d=>.P 8 36 (b<(a.size:Int)) (.r 5<|.dr 6<|.qu [100,2]<|.ix a b<|.ex fun w=>.qc 125 [.agg (zQ3aa c q o l s p m),.int .u8 (k8 a b)] d (.bool w)<|.qu [1]<|.dn<|.B 5 44 w (.r 4<|.dr 5<|.qu [101,2]<|.ix a b<|.x5 fun(x:dF) r31tp r31tc r31bp r31bc=>.x2 fun z y=>.qc 126 [.agg (zQ3aa e j h f k i g),.int .u8 (k8 a b)] d (.agg (zQ3aa x r31tc r31bc y r31tp r31bp z))<|.dn<|.ru [201]<|.li 6 5 (ab.wrap (b+1)) fun C=>.ct 2 [0,1] (AP t u a C c s q p o m l x r31tp r31tc r31bp r31bc z y))<|.re 7 (.bool false) d)<|.ru [4,201,1,200,1,200,1,200]<|.cl 1 80 [.agg (zQ3aa e j h f k i g),.agg #[IV c.n,IV c.time,IV c.kind,IV 0,sZ,IV 0,IV 0,sZ,sZ,.slice none 0 0,.slice none 0 0,IV 0,.slice none 0 0,IV 0,IV 0,IV 0,IV 0,IV 0,sZ,sZ,IV 0,IV 0,IV 0]] d<|.ex fun A=>.rt (.bool A) d<|.re 2 (.bool A) d)):AP t u a b c s q p o m l e k j i h g f w0 R:=VC.go Tryz.func94 _ H
theorem Tr (a:dF)(h:OA)(g:Nat)(f:OA)(e:Nat)(d:OA)(c:Nat)(hm:Mem [] [] w0 W)(H:VP [] w0 R (.np 2 (.cells (zQ3aa a g e c h f d) 38) fun B=>.hp [(B,.cells (zQ3aa a g e c h f d) 38)] fun b=>.ru [5,200]<|.cl 0 96 [IV a.kind] b<|.ex fun i=>.rt (.string i) b<|.sE 8 12 i (⟨#[]⟩:BA) (.re 25 (.bool false) b)<|.ru [1,200]<|.P 3 17 (a.n<0) (.re 20 (.bool false) b)<|.ru [1,200]<|.P 3 22 (500<a.n) (.re 15 (.bool false) b)<|.ru [1,200]<|.P 3 27 (a.time<0) (.re 10 (.bool false) b)<|.ru [1,200]<|.P 3 31 (1000000000<a.time) (.re 5 (.bool false) b)<|.ru [4,200]<|.np 0 (.cells kAjq 38) fun j=>.ru [201]<|.ct 8 [0,1] (AP B j i 0 a h g f e d c a h g f e d c))):aE TP 94 ⟨[.agg (zQ3aa a g e c h f d)]⟩ W R:=VC.cs Tryz.func94 hm _ H
abbrev S1 (x y:dF):Prop:=x.n=y.n∧x.time=y.time∧x.kind=y.kind∧x.story=y.story∧x.lang=y.lang∧x.rev=y.rev∧x.base=y.base∧x.title=y.title∧x.author=y.author
abbrev S2 (x y:dF):Prop:=x.editor=y.editor∧x.block=y.block∧x.sentence=y.sentence∧x.text=y.text∧x.name=y.name∧x.partner=y.partner∧x.cls=y.cls∧x.unt=y.unt
theorem Zm (x y:dF):decide (x=y)=(decide (x.topics=y.topics)&&(decide (x.blocks=y.blocks)&&(decide (x.lab=y.lab)&&(decide (S1 x y)&&decide (S2 x y))))):=by
 rw[fL];simp only[av,decide_eq_true_eq];constructor
 ·rintro rfl;simp[S1,S2]
 ·rintro⟨M,O,V,⟨k1,a9,b1,b3,b4,b5,b6,b7,b9⟩,a1,a2,a3,a4,a5,a6,a7,a8⟩
  apply dF.ext_get;intro z;cases z<;>assumption
section same
variable {x y:dF}{xtp xbp xap ytp ybp yap:Option Addr}{xtc xbc xac ytc ybc yac B B1:Nat}{w0:World}{R:Ending→World→Prop}
theorem Jq {b l f s:Bool}(H:Fin R [] [] w0 (.bool (b&&(l&&(f&&s))))):rN x xtp xtc xbp xbc xap xac y ytp ytc ybp ybc yap yac b l f s w0 R:=by
 apply Wh;exact⟨fun M=>⟨fun O=>⟨fun V=>lD H (by rw[M,O,V];rfl),fun V=>lD H (by rw[M,O,V];rfl)⟩,fun O=>lD H (by rw[M,O];rfl)⟩,fun M=>lD H (by rw[M];rfl)⟩
theorem NA {b l f:Bool}(H:Fin R [] [] w0 (.bool (b&&(l&&(f&&decide (S2 x y)))))):qE x xtp xtc xbp xbc xap xac y ytp ytc ybp ybc yap yac B B1 b l f w0 R:=by
 apply UG;have N:¬S2 x y→rN x xtp xtc xbp xbc xap xac y ytp ytc ybp ybc yap yac b l f false w0 R:=fun h=>Jq (lD H (by rw[decide_eq_false h]))
 refine⟨fun M=>⟨fun O=>⟨fun V=>⟨fun a1=>⟨fun a2=>⟨fun a3=>⟨fun a4=>Jq (lD H ?_),fun h=>N fun g=>h g.2.2.2.2.2.2.1⟩,fun h=>N fun g=>h g.2.2.2.2.2.1⟩,fun h=>N fun g=>h g.2.2.2.2.1⟩,fun h=>N fun g=>h g.2.2.2.1⟩,fun h=>N fun g=>h g.2.2.1⟩,fun h=>N fun g=>h g.2.1⟩,fun h=>N fun g=>h g.1⟩;rw[show decide (S2 x y)=decide (x.unt=y.unt)from decide_eq_decide.2 ⟨fun g=>g.2.2.2.2.2.2.2,fun a5=>⟨M,O,V,a1,a2,a3,a4,a5⟩⟩]
theorem Kh (M:lv (kY w0) x xtp xtc xbp xbc xap xac)(a2:lv (kY w0) y ytp ytc ybp ybc yap yac)(c3:x.topics.length=y.topics.length)(HR:∀L v,Fin R [] [] w0 v→Fin R L [] w0 v):
  ∀(g i:Nat),g+i=x.topics.length→Fin R [] [] w0 (.bool (decide (x.topics.drop i=y.topics.drop i)&&(decide (x.blocks=y.blocks)&&(decide (x.lab=y.lab)&&(decide (S1 x y)&&decide (S2 x y))))))→
   Bu x xtp xtc xbp xbc xap xac y ytp ytc ybp ybc yap yac B B1 (i:Int) w0 R
 | 0,i,hg,H=>by
  apply JT;refine no (by omega) ?_;rw[ax (by omega),ax (by omega),decide_eq_true rfl,aH]at H;refine eA.pw (fun a3 O=>U4 (M.blks.mono (lK O)) (a2.blks.mono (lK O)) M.fits.2.2.1) ⟨_,rfl,rfl,?_⟩;refine eA.pw (fun a3 O=>KP (M.ints.mono (lK O)) (a2.ints.mono (lK O)) M.fits.2.2.2) ⟨_,rfl,rfl,?_⟩;have N:¬S1 x y→qE x xtp xtc xbp xbc xap xac y ytp ytc ybp ybc yap yac B B1 (decide (x.blocks=y.blocks)) (decide (x.lab=y.lab)) false w0 R:=fun h=>NA (lD H (by rw[decide_eq_false h]))
  refine⟨fun V=>⟨fun a1=>⟨fun b3=>⟨fun b4=>⟨fun b5=>⟨fun b6=>⟨fun b7=>⟨fun b9=>NA (lD H ?_),fun h=>N fun g=>h g.2.2.2.2.2.2.2.1⟩,fun h=>N fun g=>h g.2.2.2.2.2.2.1⟩,fun h=>N fun g=>h g.2.2.2.2.2.1⟩,fun h=>N fun g=>h g.2.2.2.2.1⟩,fun h=>N fun g=>h g.2.2.2.1⟩,fun h=>N fun g=>h g.2.2.1⟩,fun h=>N fun g=>h g.2.1⟩,fun h=>N fun g=>h g.1⟩;have e:decide (S1 x y)=(x.author.toList==y.author.toList):=by
   rw[fL,decide_eq_true_eq,uZ];exact⟨fun g=>g.2.2.2.2.2.2.2.2,fun c2=>⟨V,a1,b3,b4,b5,b6,b7,b9,c2⟩⟩
  rw[e]
 |g+1,i,hg,H=>by
  apply JT;have V:i<x.topics.length:=by omega
  have a1:i<y.topics.length:=by omega
  have hm:=M.fits.2.1.1;obtain⟨a4,o1,c1,e1,a7,a8⟩:=M.tops.get V;obtain⟨a5,c4,a6,f1,a9,b1⟩:=a2.tops.get a1;simp only[drop_eq V a1]at H;refine yes (by omega) ⟨a4,o1,e1,by omega,c1,x.topics[i],a7,by simpa using a8,a5,c4,f1,by omega,a6,y.topics[i],a9,by simpa using b1,fun h=>HR _ _ (lD H (by simp[h])),fun h=>?_⟩;rintro _ rfl;rw[kS (by omega),show(i:Int)+1=((i+1:Nat):Int)by omega];refine Kh M a2 c3 HR g (i+1) (by omega) (lD H ?_);simp[h]
theorem Jd {W:aj}(O:lv (kY W) x xtp xtc xbp xbc xap xac)(V:lv (kY W) y ytp ytc ybp ybc yap yac):
  PW TP 80 ⟨[.agg ⟨x.cells xtp xtc xbp xbc xap xac⟩,.agg ⟨y.cells ytp ytc ybp ybc yap yac⟩]⟩ W (.bool (decide (x=y))):=by
 refine T7 x xtp xtc xbp xbc xap xac y ytp ytc ybp ybc yap yac (Mem.start [] W) fun B a1=>⟨fun h=>kQ ?_,fun h=>Kh O V (by omega) tY x.topics.length 0 (by omega) (kQ ?_)⟩
 ·rw[decide_eq_false]
  intro M;subst M;exact h rfl
 ·rw[aU,aU,←Zm]
end same
theorem NT {lk:Lk}(n t k:Int):lv lk (dF.bare n t k) none 0 none 0 none 0:=qi rfl rfl rfl ⟨ny,ny,ny,ny,ny⟩
section valid
variable {W:World}{f:dF}{tp bp ap:Option Addr}{tc bc ac B B1:Nat}
theorem Me (h:lv (kY W) f tp tc bp bc ap ac):∀(g i:Nat) (u:dF) (a4:OA) (a3:Nat) (a2:OA) (a1:Nat) (V:OA) (O:Nat),g+i=(k6 f.kind).length→lv (kY W) u a4 a3 a2 a1 V O→∀b:Bool,b=(((k6 f.kind).drop i).all (yi f)&&decide (((k6 f.kind).drop i).foldl dF.wo u=dF.bare f.n f.time f.kind))→
      AP B B1 (nM f.kind) (i:Int) f tp tc bp bc ap ac u a4 a3 a2 a1 V O W (fun e a5=>e=.returned (.bool b)∧Below W.heap.size W a5)
  | 0,i,u,a4,a3,a2,a1,V,O,hg,hu,b,hb=>by
    apply Hy;have a8:=tm f.kind;rw[ax (by omega)]at hb;refine no (by omega) (eA.pw (fun a5 a6=>Jd (x:=u) (y:=dF.bare f.n f.time f.kind) (hu.mono (lK a6)) (NT f.n f.time f.kind)) ⟨_,rfl,rfl,kQ ?_⟩);rw[hb];rfl
  | g +1,i,u,a4,a3,a2,a1,V,O,hg,hu,b,hb=>by
    apply Hy;have a8:=tm f.kind;have a9:=xk f.kind;have hi:i<(k6 f.kind).length:=by omega
    rw[aG hi,List.all_cons,bS]at hb;have a7:=DI hi;refine yes (by omega) ⟨by omega,_,lV.pw fun a5 a6=>XH (h.mono (lK a6)),fun M=>⟨by omega,_,_,_,_,_,_,_,lV.of Yp,?_⟩,fun M=>kQ ?_⟩
    · rintro _ rfl
      rw[kS (by omega),show(i:Int)+1=((i+1:Nat):Int)by omega];refine Me h g (i+1) _ _ _ _ _ _ _ (by omega) (hu.wo _) b ?_;rw[a7]at M ⊢;rw[hb,M,aH]
    · rw[a7]at M
      rw[hb,M];rfl
theorem DL (h:lv (kY W) f tp tc bp bc ap ac):PW TP 94 ⟨[.agg ⟨f.cells tp tc bp bc ap ac⟩]⟩ W (.bool f.ok):=by
 refine Tr f tp tc bp bc ap ac (Mem.start [] W) fun B=>?_
 have M:¬(0≤f.n∧f.n≤500∧0≤f.time∧f.time≤1000000000)→(dq false)=.bool f.ok:=fun hn=>by rw[dF.ok,decide_eq_false hn,Bool.false_and]
 refine eA.pure (Dm f.kind) ⟨_,rfl,rfl,fun O=>kQ ?_,fun O=>⟨fun h=>kQ (M (by omega)),fun a1=>⟨fun h=>kQ (M (by omega)),fun a2=>⟨fun h=>kQ (M (by omega)),fun a3=>⟨fun h=>kQ (M (by omega)),fun a4 V=>?_⟩⟩⟩⟩⟩
 ·have e:k6 f.kind=[]:=by
   have:=tm f.kind;rw[O]at this;exact aQ.1 this.symm
  rw[K6,e];simp
 ·have e:k6 f.kind≠[]:=fun e=>O (gV (eO ((tm f.kind).trans (by rw[e];rfl))))
  refine Me h (k6 f.kind).length 0 f tp tc bp bc ap ac (by omega) h _ ?_;rw[K6,decide_eq_true (p:=0≤f.n∧f.n≤500∧0≤f.time∧f.time≤1000000000) (by omega),decide_eq_true e];rfl
end valid
abbrev kAbq (x0 x1)(x2:Nat)(x3):=((x0,.cells #[.string x1,IV (x2:Int),IV x3] 229):Nat×Obj)
abbrev kBsq (x0 x1 x2 x3):=((x0,.cells #[.string x1,IV x2,IV x3] 229):Nat×Obj)
theorem RX (a:Nat)(b:BA)(c:Nat)(re:Int)(hm:Mem [(kAbq a b c re)] S w0 W)(H:VP S w0 R (.hp [(kAbq a b c re)] fun d=>.ru [10,200]<|.I 2 10 (re=0) (.re 5 (IV 0) d)<|.r 3<|.dr 16<|.qu [3,100,3,100]<|.x3 fun e f g=>.qc 155 [.string b,IV (c:Int)] d (kCrq e f g)<|.qu [7]<|.dn<|.I 7 25 (g=0) (.ru [6,200]<|.re 5 (IV 0) [(a,.cells #[.string b,IV (c:Int),IV 10] 229)])<|.ru [8,200]<|.re 6 (IV e) [(kBsq a b f re)])):aE TP 178 ⟨[PP a]⟩ W R:=VC.cs Tryz.func178 hm _ H
theorem R6 (a:Nat)(b:BA)(c:Nat)(re:Int)(hm:Mem [(kAbq a b c re)] S w0 W)(H:VP S w0 R (.hp [(kAbq a b c re)] fun d=>.ru [10,200]<|.I 2 10 (re=0) (.re 5 (sZ) d)<|.r 3<|.dr 16<|.qu [3,100,3,100]<|.x3 fun e f g=>.qc 156 [.string b,IV (c:Int)] d (kDxq e f g)<|.qu [7]<|.dn<|.I 7 25 (g=0) (.ru [6,200]<|.re 5 (sZ) [(a,.cells #[.string b,IV (c:Int),IV 10] 229)])<|.ru [8,200]<|.re 6 (.string e) [(kBsq a b f re)])):aE TP 196 ⟨[PP a]⟩ W R:=VC.cs Tryz.func196 hm _ H
abbrev kEsq (x0 x1)(x2:Nat):=((x0,.cells #[.string x1,IV (x2:Int),IV 50] 229):Nat×Obj)
theorem QI (a:Nat)(f:Int)(b:BA)(g:Nat)(re:Int)(hm:Mem [(kAbq a b g re)] S w0 W)(H:VP S w0 R (.cl 7 178 [PP a] [(kAbq a b g re)]<|.x3 fun r1 (c:Nat) re1=>.rt (IV r1) [(kAbq a b c re1)]<|.hp [(kAbq a b c re1)] fun e=>.ru [8,200]<|.r 2<|.bd 13 (re1=0) _ decide_eq_true_iff (fun d=>.P 3 16 (r1<0) (.ru [11,200,7,200]<|.re 7 (IV 0) [(kEsq a b c)])<|.P 6 21 (f<r1) (.ru [5,200,7,200]<|.re 7 (IV 0) [(kEsq a b c)])<|.ru [8,200]<|.r 2<|.kn 29 (!decide (re1=0)) false (by simp[d])<|.re 7 (IV r1) e) fun d=>.ru [17,200]<|.r 2<|.kn 29 (!decide (re1=0)) true (by simp[d])<|.re 5 (IV 0) e)):aE TP 204 ⟨[PP a,IV f]⟩ W R:=VC.cs Tryz.func204 hm _ H
abbrev zO5aa (a:dF)(b x2 x3 x4 x5:Nat)(c d e:OA):Array aa:= #[IV a.n,IV a.time,IV a.kind,IV a.story,.string a.lang,IV a.rev,IV a.base,.string a.title,.string a.author,.slice c b x2,.slice d a.blocks.length x3,IV a.lab.unt,.slice e x4 x5,IV a.lab.appr,IV a.lab.den,IV a.editor,IV a.block,IV a.sentence,.string a.text,.string a.name,IV a.partner,IV a.cls,IV a.unt]
abbrev zO5ab (a:dF)(b:Int)(x2 x3 x4 x5 c:Nat)(d e f:OA):Array aa:= #[IV a.n,IV a.time,IV a.kind,IV a.story,.string a.lang,IV a.rev,IV a.base,.string a.title,.string a.author,.slice d x2 x3,.slice e a.blocks.length x4,IV b,.slice f x5 c,IV a.lab.appr,IV a.lab.den,IV a.editor,IV a.block,IV a.sentence,.string a.text,.string a.name,IV a.partner,IV a.cls,IV a.unt]
abbrev zO5ac (a:dF)(b x2:Int)(x3 x4 x5 d e:Nat)(f g c:OA):Array aa:= #[IV a.n,IV a.time,IV a.kind,IV a.story,.string a.lang,IV a.rev,IV a.base,.string a.title,.string a.author,.slice f x3 x4,.slice g a.blocks.length x5,IV b,.slice c d e,IV x2,IV a.lab.den,IV a.editor,IV a.block,IV a.sentence,.string a.text,.string a.name,IV a.partner,IV a.cls,IV a.unt]
noncomputable def CF (n:dF)(p:OA)(o:Nat)(m:BA)(B a:Nat)(l c d h:Int)(k:OA)(j i:Nat)(g:OA)(f e:Nat)(b:aX)(S:List Nat):Cut:=⟨TP,S,197,109,(KC Tryz.f197 428),[(0,PP B),(1,PP a),(6,IV l),(7,IV c)],((B,.cells #[.string m,IV d,IV h] 229)::(a,.cells (zO5aa n j i o f e k p g) 38)::b)⟩
noncomputable def Cn (o:dF)(q:OA)(p:Nat)(n:BA)(a b:Nat)(n1 d e j:Int)(m:OA)(l k:Nat)(f:Int)(i:OA)(h g:Nat)(c:aX)(S:List Nat):Cut:=⟨TP,S,197,109,(KC Tryz.f197 7156),[(0,PP a),(1,PP b),(11,IV n1),(12,IV d)],((a,.cells #[.string n,IV e,IV j] 229)::(b,.cells (zO5ab o f l k p h g m q i) 38)::c)⟩
theorem Hx (i:dF)(k:OA)(j:Nat)(h:BA)(B b:Nat)(q o p m:Int)(g:OA)(a f:Nat)(e:OA)(d c:Nat)(l:aX)(H:VP S w0 R (.hp ((kBsq B h p m)::(b,.cells (zO5aa i a f j d c g k e) 38)::l) fun t=>.P 7 66 (o<q) (.ru [3,200]<|.P 3 72 (m=0) (.r 4<|.pT [1,0] 2<|.dD<|.nm [0,1,6,7]<|.ph 9 [0,1,2,3,4,5] [6,7,8] 1<|.qu [4,100,1]<|.dn<|.cl 196 [PP B] ((b,.cells (zO5aa i a f j d c g k e) 38)::(kBsq B h p m)::l)<|.x3 fun r71 (n:Nat) re5=>.rt (.string r71) ((b,.cells (zO5aa i a f j d c g k e) 38)::(kAbq B h n re5)::l)<|.n2 1 (.cells #[.string r71] 9) fun u=>.apd u 9 9 1 32 32 (.slice g a f) 1 1 [.string r71] ((b,.cells (zO5aa i a f j d c g k e) 38)::(kAbq B h n re5)::l)<|.x3 fun ap1 (s:Nat) F4=>.rt (.slice ap1 (a+1) s) ((b,.cells (zO5aa i a f j d c g k e) 38)::(kAbq B h n re5)::F4)<|.dn<|.tl<|.ru [2,200]<|.li 6 7 (ab.wrap (o+1)) fun w=>.cT 2 [1,0] 2 (CF i k j h B b q w (n:Int) re5 ap1 (a+1) s e d c F4 S))<|.re 3 (.tuple #[]) t)<|.re 10 (.tuple #[]) t)):CF i k j h B b q o p m g a f e d c l S w0 R:=VC.go jc _ H
abbrev kCeq (x0)(x1:dF)(x2 x3 x4 x5 x6 x7 x8 x9 x10 x11 x12):=((x0,.cells #[IV x1.n,IV x1.time,IV x1.kind,IV x1.story,.string x1.lang,IV x1.rev,IV x1.base,.string x1.title,.string x1.author,.slice x2 x3 x4,.slice x5 x1.blocks.length x6,IV x7,.slice x8 x9 x10,IV x11,IV x12,IV x1.editor,IV x1.block,IV x1.sentence,.string x1.text,.string x1.name,IV x1.partner,IV x1.cls,IV x1.unt] 38):Nat×Obj)
theorem IX (a:dF)(m:OA)(l:Nat)(k:BA)(b d:Nat)(n1 s t p:Int)(j:OA)(i h:Nat)(e:Int)(g:OA)(c f:Nat)(o:aX)(H:VP S w0 R (.hp ((kBsq b k t p)::(d,.cells (zO5ab a e i h l c f j m g) 38)::o) fun w=>.P 7 25 (s<n1) (.ru [3,200]<|.P 3 31 (p=0) (.r 4<|.pT [1,0] 2<|.dD<|.nm [0,1,11,12]<|.ph 10 [0,1,2,3,4,5,6] [7,8,9] 1<|.qu [5,100,1]<|.dn<|.cl 178 [PP b] ((d,.cells (zO5ab a e i h l c f j m g) 38)::(kBsq b k t p)::o)<|.x3 fun r81 (q:Nat) re6=>.rt (IV r81) ((d,.cells (zO5ab a e i h l c f j m g) 38)::(kAbq b k q re6)::o)<|.n2 1 (.cells #[IV r81] 3) fun C=>.apd C 3 3 1 34 34 (.slice g c f) 1 1 [IV r81] ((d,.cells (zO5ab a e i h l c f j m g) 38)::(kAbq b k q re6)::o)<|.x3 fun ap2 (u:Nat) F5=>.rt (.slice ap2 (c+1) u) ((d,.cells (zO5ab a e i h l c f j m g) 38)::(kAbq b k q re6)::F5)<|.dn<|.tl<|.ru [3,200]<|.li 6 12 (ab.wrap (s+1)) fun D=>.cT 2 [1,0] 2 (Cn a m l k b d n1 D (q:Int) re6 j i h e ap2 (c+1) u F5 S))<|.cl 6 178 [PP b] w<|.x3 fun r91 (y:Nat) re7=>.rt (IV r91) ((kAbq b k y re7)::(d,.cells (zO5ab a e i h l c f j m g) 38)::o)<|.ru [3,201]<|.cl 4 178 [PP b] ((kAbq b k y re7)::(d,.cells (zO5ac a e r91 i h l c f j m g) 38)::o)<|.x3 fun r101 (z:Nat) re8=>.rt (IV r101) ((kAbq b k z re8)::(d,.cells (zO5ac a e r91 i h l c f j m g) 38)::o)<|.ru [3,201]<|.re 2 (.tuple #[]) ((kAbq b k z re8)::(kCeq d a j i h m l e g c f r91 r101)::o))<|.cl 13 178 [PP b] w<|.x3 fun r111 (A:Nat) re9=>.rt (IV r111) ((kAbq b k A re9)::(d,.cells (zO5ab a e i h l c f j m g) 38)::o)<|.ru [3,201]<|.cl 4 178 [PP b] ((kAbq b k A re9)::(d,.cells (zO5ac a e r111 i h l c f j m g) 38)::o)<|.x3 fun r121 (x:Nat) re10=>.rt (IV r121) ((kAbq b k x re10)::(d,.cells (zO5ac a e r111 i h l c f j m g) 38)::o)<|.ru [3,201]<|.re 2 (.tuple #[]) ((kAbq b k x re10)::(kCeq d a j i h m l e g c f r111 r121)::o))):Cn a m l k b d n1 s t p j i h e g c f o S w0 R:=VC.go jc _ H
abbrev kBzq (x0)(x1:dF)(x2 x3 x4 x5 x6 x7 x8 x9 x10):=((x0,.cells #[IV x1.n,IV x1.time,IV x1.kind,IV x1.story,.string x1.lang,IV x1.rev,IV x1.base,.string x1.title,.string x1.author,.slice x2 x3 x4,.slice x5 x6 x7,IV x1.lab.unt,.slice x8 x9 x10,IV x1.lab.appr,IV x1.lab.den,IV x1.editor,IV x1.block,IV x1.sentence,.string x1.text,.string x1.name,IV x1.partner,IV x1.cls,IV x1.unt] 38):Nat×Obj)
theorem XA (b c:Nat)(q:Int)(h:BA)(w:Nat)(re:Int)(a:dF)(j:OA)(i:Nat)(g:OA)(tl f:Nat)(ap:OA)(e d:Nat)(k:aX)(hm:Mem ((kAbq b h w re)::(c,.cells (zO5aa a tl f i e d g j ap) 38)::k) S w0 W)(H:VP S w0 R (.hp ((kAbq b h w re)::(c,.cells (zO5aa a tl f i e d g j ap) 38)::k) fun s=>.P 10 59 (q=111) (.cl 4 204 [PP b,IV 4] s<|.x3 fun r1 (x:Nat) re1=>.rt (IV r1) ((kAbq b h x re1)::(c,.cells (zO5aa a tl f i e d g j ap) 38)::k)<|.cT 8 [0,1] 2 (CF a j i h b c r1 0 (x:Int) re1 g tl f ap e d k S))<|.P 6 86 (q=98) (.cl 4 196 [PP b] s<|.x3 fun r21 (l:Nat) re2=>.rt (.string r21) ((kAbq b h l re2)::(c,.cells (zO5aa a tl f i e d g j ap) 38)::k)<|.hp ((kAbq b h l re2)::(c,.cells (zO5aa a tl f i e d g j ap) 38)::k) fun u=>.ru [8,200]<|.I 2 94 (re2=0) (.re 1 (.tuple #[]) u)<|.cl 5 205 [.string r21] u<|.x5 fun p bn o t m=>.rt (.tuple #[.slice p bn o,IV t]) ((kAbq b h l re2)::(c,.cells (zO5aa a tl f i e d g j ap) 38)::m)<|.I 12 101 (t=0) (.ru [5,200,6,201]<|.re 2 (.tuple #[]) ((kEsq b h l)::(kBzq c a g tl f p bn o ap e d)::m))<|.ru [7,201]<|.re 2 (.tuple #[]) ((kAbq b h l re2)::(kBzq c a g tl f p bn o ap e d)::m))<|.cl 5 178 [PP b] s<|.x3 fun r51 (y:Nat) re3=>.rt (IV r51) ((kAbq b h y re3)::(c,.cells (zO5aa a tl f i e d g j ap) 38)::k)<|.ru [3,201]<|.cl 4 204 [PP b,IV 64] ((kAbq b h y re3)::(c,.cells (zO5ab a r51 tl f i e d g j ap) 38)::k)<|.x3 fun r61 (z:Nat) re4=>.rt (IV r61) ((kAbq b h z re4)::(c,.cells (zO5ab a r51 tl f i e d g j ap) 38)::k)<|.cT 9 [0,1] 2 (Cn a j i h b c r61 0 (z:Int) re4 g tl f r51 ap e d k S))):aE TP 197 ⟨[PP b,PP c,.int .u8 q]⟩ W R:=VC.cs jc hm _ H
abbrev zO6aa (a:dF)(b x2 x3:Nat)(x4 x5 c:OA):Array aa:= #[IV a.n,IV a.time,IV a.kind,IV a.story,.string a.lang,IV a.rev,IV a.base,.string a.title,.string a.author,.slice x4 a.topics.length b,.slice x5 a.blocks.length x2,IV a.lab.unt,.slice c a.lab.after.length x3,IV a.lab.appr,IV a.lab.den,IV a.editor,IV a.block,IV a.sentence,.string a.text,.string a.name,IV a.partner,IV a.cls,IV a.unt]
theorem PE (b c:Nat)(l:Int)(d:BA)(s:Nat)(re:Int)(a:dF)(k:OA)(j:Nat)(i:OA)(h:Nat)(g:OA)(f:Nat)(e:aX)(hm:Mem ((kAbq b d s re)::(c,.cells (zO6aa a j h f k i g) 38)::e) S w0 W)(H:VP S w0 R (.hp ((kAbq b d s re)::(c,.cells (zO6aa a j h f k i g) 38)::e) fun m=>.P 10 12 (l=115) (.cl 4 178 [PP b] m<|.x3 fun r1 (t:Nat) re1=>.rt (IV r1) ((kAbq b d t re1)::(c,.cells (zO6aa a j h f k i g) 38)::e)<|.ru [2,201]<|.re 2 (.tuple #[]) ((kAbq b d t re1)::(c,.cells #[IV a.n,IV a.time,IV a.kind,IV r1,.string a.lang,IV a.rev,IV a.base,.string a.title,.string a.author,.slice k a.topics.length j,.slice i a.blocks.length h,IV a.lab.unt,.slice g a.lab.after.length f,IV a.lab.appr,IV a.lab.den,IV a.editor,IV a.block,IV a.sentence,.string a.text,.string a.name,IV a.partner,IV a.cls,IV a.unt] 38)::e))<|.P 6 19 (l=108) (.cl 4 196 [PP b] m<|.x3 fun r21 (E:Nat) re2=>.rt (.string r21) ((kAbq b d E re2)::(c,.cells (zO6aa a j h f k i g) 38)::e)<|.ru [2,201]<|.re 2 (.tuple #[]) ((kAbq b d E re2)::(c,.cells #[IV a.n,IV a.time,IV a.kind,IV a.story,.string r21,IV a.rev,IV a.base,.string a.title,.string a.author,.slice k a.topics.length j,.slice i a.blocks.length h,IV a.lab.unt,.slice g a.lab.after.length f,IV a.lab.appr,IV a.lab.den,IV a.editor,IV a.block,IV a.sentence,.string a.text,.string a.name,IV a.partner,IV a.cls,IV a.unt] 38)::e))<|.P 6 26 (l=114) (.cl 4 178 [PP b] m<|.x3 fun r31 (F:Nat) re3=>.rt (IV r31) ((kAbq b d F re3)::(c,.cells (zO6aa a j h f k i g) 38)::e)<|.ru [2,201]<|.re 2 (.tuple #[]) ((kAbq b d F re3)::(c,.cells #[IV a.n,IV a.time,IV a.kind,IV a.story,.string a.lang,IV r31,IV a.base,.string a.title,.string a.author,.slice k a.topics.length j,.slice i a.blocks.length h,IV a.lab.unt,.slice g a.lab.after.length f,IV a.lab.appr,IV a.lab.den,IV a.editor,IV a.block,IV a.sentence,.string a.text,.string a.name,IV a.partner,IV a.cls,IV a.unt] 38)::e))<|.P 6 33 (l=97) (.cl 4 178 [PP b] m<|.x3 fun r41 (G:Nat) re4=>.rt (IV r41) ((kAbq b d G re4)::(c,.cells (zO6aa a j h f k i g) 38)::e)<|.ru [2,201]<|.re 2 (.tuple #[]) ((kAbq b d G re4)::(c,.cells #[IV a.n,IV a.time,IV a.kind,IV a.story,.string a.lang,IV a.rev,IV r41,.string a.title,.string a.author,.slice k a.topics.length j,.slice i a.blocks.length h,IV a.lab.unt,.slice g a.lab.after.length f,IV a.lab.appr,IV a.lab.den,IV a.editor,IV a.block,IV a.sentence,.string a.text,.string a.name,IV a.partner,IV a.cls,IV a.unt] 38)::e))<|.P 6 40 (l=116) (.cl 4 196 [PP b] m<|.x3 fun r51 (M:Nat) re5=>.rt (.string r51) ((kAbq b d M re5)::(c,.cells (zO6aa a j h f k i g) 38)::e)<|.ru [2,201]<|.re 2 (.tuple #[]) ((kAbq b d M re5)::(c,.cells #[IV a.n,IV a.time,IV a.kind,IV a.story,.string a.lang,IV a.rev,IV a.base,.string r51,.string a.author,.slice k a.topics.length j,.slice i a.blocks.length h,IV a.lab.unt,.slice g a.lab.after.length f,IV a.lab.appr,IV a.lab.den,IV a.editor,IV a.block,IV a.sentence,.string a.text,.string a.name,IV a.partner,IV a.cls,IV a.unt] 38)::e))<|.P 6 47 (l=117) (.cl 4 196 [PP b] m<|.x3 fun r61 (N:Nat) re6=>.rt (.string r61) ((kAbq b d N re6)::(c,.cells (zO6aa a j h f k i g) 38)::e)<|.ru [2,201]<|.re 2 (.tuple #[]) ((kAbq b d N re6)::(c,.cells #[IV a.n,IV a.time,IV a.kind,IV a.story,.string a.lang,IV a.rev,IV a.base,.string a.title,.string r61,.slice k a.topics.length j,.slice i a.blocks.length h,IV a.lab.unt,.slice g a.lab.after.length f,IV a.lab.appr,IV a.lab.den,IV a.editor,IV a.block,IV a.sentence,.string a.text,.string a.name,IV a.partner,IV a.cls,IV a.unt] 38)::e))<|.P 7 54 (l=111) (.cl 7 197 [PP b,PP c,.int .u8 l] m<|.x5 fun(O:Nat) re7 (V:dF) ytp ytc=>.x5 fun b0 a9 a8 a7 o=>.rt (.tuple #[]) ((kAbq b d O re7)::(c,.cells (zO6aa V ytc a9 a7 ytp b0 a8) 38)::o)<|.re 2 (.tuple #[]) ((kAbq b d O re7)::(c,.cells (zO6aa V ytc a9 a7 ytp b0 a8) 38)::o))<|.P 6 54 (l=98) (.cl 7 197 [PP b,PP c,.int .u8 l] m<|.x5 fun(Q:Nat) re8 (X:dF) y1tp y1tc=>.x5 fun a1 a0 Z Y p=>.rt (.tuple #[]) ((kAbq b d Q re8)::(c,.cells (zO6aa X y1tc a0 Y y1tp a1 Z) 38)::p)<|.re 2 (.tuple #[]) ((kAbq b d Q re8)::(c,.cells (zO6aa X y1tc a0 Y y1tp a1 Z) 38)::p))<|.P 5 54 (l=76) (.cl 5 197 [PP b,PP c,.int .u8 l] m<|.x5 fun(U:Nat) re9 (a2:dF) y2tp y2tc=>.x5 fun a6 a5 a4 a3 q=>.rt (.tuple #[]) ((kAbq b d U re9)::(c,.cells (zO6aa a2 y2tc a5 a3 y2tp a6 a4) 38)::q)<|.re 2 (.tuple #[]) ((kAbq b d U re9)::(c,.cells (zO6aa a2 y2tc a5 a3 y2tp a6 a4) 38)::q))<|.P 6 62 (l=101) (.cl 4 178 [PP b] m<|.x3 fun r71 (u:Nat) re10=>.rt (IV r71) ((kAbq b d u re10)::(c,.cells (zO6aa a j h f k i g) 38)::e)<|.ru [2,201]<|.re 2 (.tuple #[]) ((kAbq b d u re10)::(c,.cells #[IV a.n,IV a.time,IV a.kind,IV a.story,.string a.lang,IV a.rev,IV a.base,.string a.title,.string a.author,.slice k a.topics.length j,.slice i a.blocks.length h,IV a.lab.unt,.slice g a.lab.after.length f,IV a.lab.appr,IV a.lab.den,IV r71,IV a.block,IV a.sentence,.string a.text,.string a.name,IV a.partner,IV a.cls,IV a.unt] 38)::e))<|.P 6 69 (l=107) (.cl 4 178 [PP b] m<|.x3 fun r81 (w:Nat) re11=>.rt (IV r81) ((kAbq b d w re11)::(c,.cells (zO6aa a j h f k i g) 38)::e)<|.ru [2,201]<|.re 2 (.tuple #[]) ((kAbq b d w re11)::(c,.cells #[IV a.n,IV a.time,IV a.kind,IV a.story,.string a.lang,IV a.rev,IV a.base,.string a.title,.string a.author,.slice k a.topics.length j,.slice i a.blocks.length h,IV a.lab.unt,.slice g a.lab.after.length f,IV a.lab.appr,IV a.lab.den,IV a.editor,IV r81,IV a.sentence,.string a.text,.string a.name,IV a.partner,IV a.cls,IV a.unt] 38)::e))<|.P 6 76 (l=110) (.cl 4 178 [PP b] m<|.x3 fun r91 (x:Nat) re12=>.rt (IV r91) ((kAbq b d x re12)::(c,.cells (zO6aa a j h f k i g) 38)::e)<|.ru [2,201]<|.re 2 (.tuple #[]) ((kAbq b d x re12)::(c,.cells #[IV a.n,IV a.time,IV a.kind,IV a.story,.string a.lang,IV a.rev,IV a.base,.string a.title,.string a.author,.slice k a.topics.length j,.slice i a.blocks.length h,IV a.lab.unt,.slice g a.lab.after.length f,IV a.lab.appr,IV a.lab.den,IV a.editor,IV a.block,IV r91,.string a.text,.string a.name,IV a.partner,IV a.cls,IV a.unt] 38)::e))<|.P 6 83 (l=120) (.cl 4 196 [PP b] m<|.x3 fun r101 (y:Nat) re13=>.rt (.string r101) ((kAbq b d y re13)::(c,.cells (zO6aa a j h f k i g) 38)::e)<|.ru [2,201]<|.re 2 (.tuple #[]) ((kAbq b d y re13)::(c,.cells #[IV a.n,IV a.time,IV a.kind,IV a.story,.string a.lang,IV a.rev,IV a.base,.string a.title,.string a.author,.slice k a.topics.length j,.slice i a.blocks.length h,IV a.lab.unt,.slice g a.lab.after.length f,IV a.lab.appr,IV a.lab.den,IV a.editor,IV a.block,IV a.sentence,.string r101,.string a.name,IV a.partner,IV a.cls,IV a.unt] 38)::e))<|.P 6 90 (l=109) (.cl 4 196 [PP b] m<|.x3 fun r111 (z:Nat) re14=>.rt (.string r111) ((kAbq b d z re14)::(c,.cells (zO6aa a j h f k i g) 38)::e)<|.ru [2,201]<|.re 2 (.tuple #[]) ((kAbq b d z re14)::(c,.cells #[IV a.n,IV a.time,IV a.kind,IV a.story,.string a.lang,IV a.rev,IV a.base,.string a.title,.string a.author,.slice k a.topics.length j,.slice i a.blocks.length h,IV a.lab.unt,.slice g a.lab.after.length f,IV a.lab.appr,IV a.lab.den,IV a.editor,IV a.block,IV a.sentence,.string a.text,.string r111,IV a.partner,IV a.cls,IV a.unt] 38)::e))<|.P 6 97 (l=112) (.cl 4 178 [PP b] m<|.x3 fun r121 (A:Nat) re15=>.rt (IV r121) ((kAbq b d A re15)::(c,.cells (zO6aa a j h f k i g) 38)::e)<|.ru [2,201]<|.re 2 (.tuple #[]) ((kAbq b d A re15)::(c,.cells #[IV a.n,IV a.time,IV a.kind,IV a.story,.string a.lang,IV a.rev,IV a.base,.string a.title,.string a.author,.slice k a.topics.length j,.slice i a.blocks.length h,IV a.lab.unt,.slice g a.lab.after.length f,IV a.lab.appr,IV a.lab.den,IV a.editor,IV a.block,IV a.sentence,.string a.text,.string a.name,IV r121,IV a.cls,IV a.unt] 38)::e))<|.P 6 104 (l=99) (.cl 4 178 [PP b] m<|.x3 fun r131 (C:Nat) re16=>.rt (IV r131) ((kAbq b d C re16)::(c,.cells (zO6aa a j h f k i g) 38)::e)<|.ru [2,201]<|.re 2 (.tuple #[]) ((kAbq b d C re16)::(c,.cells #[IV a.n,IV a.time,IV a.kind,IV a.story,.string a.lang,IV a.rev,IV a.base,.string a.title,.string a.author,.slice k a.topics.length j,.slice i a.blocks.length h,IV a.lab.unt,.slice g a.lab.after.length f,IV a.lab.appr,IV a.lab.den,IV a.editor,IV a.block,IV a.sentence,.string a.text,.string a.name,IV a.partner,IV r131,IV a.unt] 38)::e))<|.cl 4 178 [PP b] m<|.x3 fun r141 (D:Nat) re17=>.rt (IV r141) ((kAbq b d D re17)::(c,.cells (zO6aa a j h f k i g) 38)::e)<|.ru [2,201]<|.re 2 (.tuple #[]) ((kAbq b d D re17)::(c,.cells #[IV a.n,IV a.time,IV a.kind,IV a.story,.string a.lang,IV a.rev,IV a.base,.string a.title,.string a.author,.slice k a.topics.length j,.slice i a.blocks.length h,IV a.lab.unt,.slice g a.lab.after.length f,IV a.lab.appr,IV a.lab.den,IV a.editor,IV a.block,IV a.sentence,.string a.text,.string a.name,IV a.partner,IV a.cls,IV r141] 38)::e))):aE TP 179 ⟨[PP b,PP c,.int .u8 l]⟩ W R:=VC.cs Tryz.func179 hm _ H
abbrev zO7aa:Array aa:= #[IV 0,IV 0,IV 0,IV 0,sZ,IV 0,IV 0,sZ,sZ,.slice none 0 0,.slice none 0 0,IV 0,.slice none 0 0,IV 0,IV 0,IV 0,IV 0,IV 0,sZ,sZ,IV 0,IV 0,IV 0]
abbrev zO7ab (a:dF)(b x2 x3:Nat)(x4 x5 c:OA):Array aa:= #[IV a.n,IV a.time,IV a.kind,IV a.story,.string a.lang,IV a.rev,IV a.base,.string a.title,.string a.author,.slice x4 a.topics.length b,.slice x5 a.blocks.length x2,IV a.lab.unt,.slice c a.lab.after.length x3,IV a.lab.appr,IV a.lab.den,IV a.editor,IV a.block,IV a.sentence,.string a.text,.string a.name,IV a.partner,IV a.cls,IV a.unt]
abbrev zO7ac (a:Int):Array aa:= #[IV a,IV 0,IV 0,IV 0,sZ,IV 0,IV 0,sZ,sZ,.slice none 0 0,.slice none 0 0,IV 0,.slice none 0 0,IV 0,IV 0,IV 0,IV 0,IV 0,sZ,sZ,IV 0,IV 0,IV 0]
abbrev zO7ad (a b:Int):Array aa:= #[IV a,IV b,IV 0,IV 0,sZ,IV 0,IV 0,sZ,sZ,.slice none 0 0,.slice none 0 0,IV 0,.slice none 0 0,IV 0,IV 0,IV 0,IV 0,IV 0,sZ,sZ,IV 0,IV 0,IV 0]
noncomputable def C1 (a b c:Nat)(i d:BA)(e:Int)(j:dF)(y:OA)(x:Nat)(w:OA)(u:Nat)(t:OA)(s:Nat)(f:BA)(g h:Int)(k:dF)(q:OA)(p:Nat)(o:OA)(n:Nat)(m:OA)(l:Nat)(S:List Nat):Cut:=⟨TP,S,157,79,(KC Tryz.f157 8180),[(0,.string i),(2,PP a),(4,PP b),(5,PP c),(6,.string d),(7,IV e)],[(a,.cells (zO7ab j x u s y w t) 38),(b,.cells #[.string f,IV g,IV h] 229),(c,.cells (zO7ab k p n l q o m) 38)]⟩
noncomputable def Bo (a b c:Nat)(j e:BA)(f:Int)(k:dF)(q:OA)(p:Nat)(o:OA)(n:Nat)(m:OA)(l:Nat)(g:BA)(h i:Int)(s:dF)(z:OA)(y:Nat)(x:OA)(w:Nat)(u:OA)(t:Nat)(d:aX)(S:List Nat):Cut:=⟨TP,S,157,79,(KC Tryz.f157 8180),[(0,.string j),(2,PP a),(4,PP b),(5,PP c),(6,.string e),(7,IV f)],((a,.cells (zO7ab k p n l q o m) 38)::(b,.cells #[.string g,IV h,IV i] 229)::(c,.cells (zO7ab s y w t z x u) 38)::d)⟩
theorem Tq (k b c:Nat)(A o:BA)(p:Int)(q:dF)(y:OA)(x:Nat)(w:OA)(u:Nat)(t:OA)(s:Nat)(l:BA)(m a:Int)(d:dF)(j:OA)(i:Nat)(h:OA)(g:Nat)(f:OA)(e:Nat)(n:aX)(H:VP S w0 R (.hp ((k,.cells (zO7ab q x u s y w t) 38)::(kBsq b l m a)::(c,.cells (zO7ab d i g e j h f) 38)::n) fun z=>.P 8 41 (p<(o.size:Int)) (.ru [3,201]<|.r 3<|.bd 47 (a=0) _ decide_eq_true_iff (fun D=>.r 8<|.ix o p<|.cl 0 179 [PP b,PP c,.int .u8 (k8 o p)] z<|.x5 fun(F:Nat) re4 (G:dF) y1tp y1tc=>.x5 fun Q O N M C=>.rt (.tuple #[]) ((k,.cells (zO7ab q x u s y w t) 38)::(kAbq b l F re4)::(c,.cells (zO7ab G y1tc O M y1tp Q N) 38)::C)<|.li 6 7 (ab.wrap (p+1)) fun U=>.cT 2 [0,1,2] 3 (Bo k b c A o U q y x w u t s l (F:Int) re4 G y1tp y1tc Q O N M C S)) fun D=>.ru [8,201]<|.r 2<|.kn 59 (!decide (a=0)) true (by simp[D])<|.r 2<|.pT [1,2,0] 3<|.dD<|.nm [2,4]<|.ph 6 [0,1,2,3,4] [5] 2<|.qu [4,100]<|.dn<|.st 3<|.dn<|.tl<|.r 2<|.rc 2 0 (.tuple #[.agg zO7aa,IV a]) ((kBsq b l m a)::(c,.cells (zO7ab d i g e j h f) 38)::(k,.cells zO7aa 38)::n))<|.ru [15,201]<|.I 2 59 (a=0) (.r 2<|.pT [1,2,0] 3<|.dD<|.nm [2,4]<|.ph 6 [0,1,2,3,4] [5] 2<|.qu [4,100]<|.dn<|.st 3<|.dn<|.tl<|.r 2<|.rc 2 0 (.tuple #[.agg zO7aa,IV a]) ((kBsq b l m a)::(c,.cells (zO7ab d i g e j h f) 38)::(k,.cells zO7aa 38)::n))<|.ru [8,201]<|.I 4 71 (m=(A.size:Int)) (.ru [4,200]<|.r 2<|.rc 0 0 (.tuple #[.agg zO7aa,IV 10]) ((k,.cells zO7aa 38)::(kBsq b l m a)::(c,.cells (zO7ab d i g e j h f) 38)::n))<|.ru [4,202]<|.cl 0 94 [.agg (zO7ab d i g e j h f)] z<|.ex fun E=>.rt (.bool E) z<|.B 6 75 E (.ru [6,202,200]<|.r 2<|.rc 0 0 (.tuple #[.agg (zO7ab d i g e j h f),IV 0]) ((k,.cells (zO7ab d i g e j h f) 38)::(kBsq b l m a)::(c,.cells (zO7ab d i g e j h f) 38)::n))<|.ru [6,200]<|.r 2<|.rc 0 0 (.tuple #[.agg zO7aa,IV 50]) ((k,.cells zO7aa 38)::(kBsq b l m a)::(c,.cells (zO7ab d i g e j h f) 38)::n))):Bo k b c A o p q y x w u t s l m a d j i h g f e n S w0 R:=VC.go Tryz.func157 _ H
theorem WH (a:BA)(hm:Mem [] S w0 W)(H:VP S w0 R (.np 2 (.cells zO7aa 38) fun B=>.np 6 (.cells #[.string a,IV 0,IV 0] 229) fun b=>.np 5 (.cells zO7aa 38) fun c=>.ru [202]<|.cl 4 178 [PP b] [(B,.cells zO7aa 38),(b,.cells #[.string a,IV 0,IV 0] 229),(c,.cells zO7aa 38)]<|.x3 fun r1 (g:Nat) re=>.rt (IV r1) [(B,.cells zO7aa 38),(kAbq b a g re),(c,.cells zO7aa 38)]<|.ru [1,202]<|.cl 4 178 [PP b] [(B,.cells zO7aa 38),(kAbq b a g re),(c,.cells (zO7ac r1) 38)]<|.x3 fun r21 (h:Nat) re1=>.rt (IV r21) [(B,.cells zO7aa 38),(kAbq b a h re1),(c,.cells (zO7ac r1) 38)]<|.ru [1,202]<|.cl 4 178 [PP b] [(B,.cells zO7aa 38),(kAbq b a h re1),(c,.cells (zO7ad r1 r21) 38)]<|.x3 fun r31 (e:Nat) re2=>.rt (IV r31) [(B,.cells zO7aa 38),(kAbq b a e re2),(c,.cells (zO7ad r1 r21) 38)]<|.hp [(B,.cells zO7aa 38),(kAbq b a e re2),(c,.cells #[IV r1,IV r21,IV r31,IV 0,sZ,IV 0,IV 0,sZ,sZ,.slice none 0 0,.slice none 0 0,IV 0,.slice none 0 0,IV 0,IV 0,IV 0,IV 0,IV 0,sZ,sZ,IV 0,IV 0,IV 0] 38)] fun f=>.ru [1,202,4,202]<|.cl 0 96 [IV r31] f<|.ex fun d=>.rt (.string d) f<|.ru [8,201]<|.P 2 30 (re2=0) (.sE 4 33 d (⟨#[]⟩:BA) (.ru [5,201]<|.ct 8 [0,1,2] (C1 B b c a d 0 (dF.bare 0 0 0) none 0 none 0 none 0 a (e:Int) 50 (dF.bare r1 r21 r31) none 0 none 0 none 0 S))<|.ct 9 [0,1,2] (C1 B b c a d 0 (dF.bare 0 0 0) none 0 none 0 none 0 a (e:Int) re2 (dF.bare r1 r21 r31) none 0 none 0 none 0 S))<|.ct 13 [0,1,2] (C1 B b c a d 0 (dF.bare 0 0 0) none 0 none 0 none 0 a (e:Int) re2 (dF.bare r1 r21 r31) none 0 none 0 none 0 S))):aE TP 157 ⟨[.string a]⟩ W R:=VC.cs Tryz.func157 hm _ H
section rd5
variable {Rb FB:Nat}{tx:ByteArray}{st:RS}
theorem tI (a1:tx.size<4611686018427387904)(h:st.1≤(bb tx).length):
  lP TP 178 ⟨[.pointer (SO Rb)]⟩ [rH 229 Rb tx st] (fun v L'=>v=.int .i64 (kP (bb tx) st).1∧L'=[rH 229 Rb tx (kP (bb tx) st).2]):=by
 intro W hm;refine RX Rb tx st.1 st.2 hm ⟨fun M=>kR ?_,fun M=>?_⟩
 ·rw[kP,if_neg M];exact⟨rfl,rfl⟩
 ·have O:lV TP 155 ⟨[.string tx,.int .i64 (st.1:Int)]⟩ [rH 229 Rb tx st] ([rH 229 Rb tx st].map (·.1)) W (oH tx (st.1:Int)):=lV.of (wS tx _ a1)
  rw[sI h M]at O;rw[kP,if_pos M];cases hr:ml ((bb tx).drop st.1)with
  |none=>
   rw[hr]at O;exact⟨_,_,_,O,fun _=>kR ⟨rfl,rfl⟩,fun V=>absurd V (by decide)⟩
  |some p=>
   rw[hr]at O;exact⟨_,_,_,O,fun V=>absurd rfl V,fun _=>kR ⟨rfl,by rw[M]⟩⟩
theorem CR (a1:tx.size<4611686018427387904)(h:st.1≤(bb tx).length):
  lP TP 196 ⟨[.pointer (SO Rb)]⟩ [rH 229 Rb tx st] (fun v L'=>v=.string (lh (bb tx) st).1∧L'=[rH 229 Rb tx (lh (bb tx) st).2]):=by
 intro W hm;refine R6 Rb tx st.1 st.2 hm ⟨fun M=>kR ?_,fun M=>?_⟩
 ·rw[lh,if_neg M];exact⟨rfl,rfl⟩
 ·have O:lV TP 156 ⟨[.string tx,.int .i64 (st.1:Int)]⟩ [rH 229 Rb tx st] ([rH 229 Rb tx st].map (·.1)) W (qe tx (st.1:Int)):=lV.of (Es tx _ a1)
  rw[wJ h M]at O;rw[lh,if_pos M];cases hr:rdStr ((bb tx).drop st.1)with
  |none=>
   rw[hr]at O;exact⟨_,_,_,O,fun _=>kR ⟨rfl,rfl⟩,fun V=>absurd V (by decide)⟩
  |some p=>
   rw[hr]at O;exact⟨_,_,_,O,fun V=>absurd rfl V,fun _=>kR ⟨rfl,by rw[M]⟩⟩
def nP (s:List UInt8)(most:Int)(st:RS):Int:=if(mh s most st).2.2=0 then(mh s most st).1 else 0
theorem IM {α:Type}{f:RS→α×RS}{s:List UInt8}{most:Int}{st:RS}:nv f s most st=lz f (nP s most st).toNat (mh s most st).2:=by
 unfold nv nP;split
 ·rfl
 ·next h=>rw[oc h,oc h]
theorem Ir {s:List UInt8}{most:Nat}{st:RS}:nP s most st≤most:=by
 unfold nP;split
 ·next h=>exact(zW h).2
 ·omega
theorem LR {most:Int}(a2:tx.size<4611686018427387904)(h:st.1≤(bb tx).length):
  lP TP 204 ⟨[.pointer (SO Rb),.int .i64 most]⟩ [rH 229 Rb tx st] (fun v L'=>v=.int .i64 (nP (bb tx) most st)∧L'=[rH 229 Rb tx (mh (bb tx) most st).2]):=by
 intro W hm;refine QI Rb most tx st.1 st.2 hm (eA.one (tI a2 h) ⟨_,_,_,rfl,rfl,?_⟩);refine⟨fun M=>⟨fun V=>?_,fun V=>⟨fun a1=>?_,fun a1=>?_⟩⟩,fun M=>?_⟩
 ·have e:=CD (m:=most) M (.inl V)
  refine kR ⟨?_,?_⟩
  ·rw[nP,e];rfl
  ·rw[e]
 ·have e:=CD (m:=most) M (.inr a1)
  refine kR ⟨?_,?_⟩
  ·rw[nP,e];rfl
  ·rw[e]
 ·have e:=Bw (s:=bb tx) (st:=st) (m:=most) (fun O=>by rcases O.2 with h3|h3<;>omega)
  refine kR ⟨?_,?_⟩
  ·rw[nP,e,if_pos M]
  ·rw[e]
 ·have e:=Bw (s:=bb tx) (st:=st) (m:=most) (fun O=>M O.1)
  refine kR ⟨?_,?_⟩
  ·rw[nP,e,if_neg M]
  ·rw[e]
theorem TA {a b:Nat×Obj}{N F:aX}:(N++(a::b::F)).Perm (a::b::(N++F)):=lR fun q w g1 M O V=>by
 simp only[g1,M,O];omega
theorem Vs (s:List UInt8):(my s).1.length≤9223372036854775807:=by
 have h:=(zU s).2;unfold my
 repeat' split
 all_goals first|exact bx _|(simp only;omega)
theorem G9 {c:Nat×Obj}{N:aX}:(N++[c]).Perm (c::N):=aw
theorem MT {a b c:Nat×Obj}{N F M:aX}(hp:M.Perm (N++F)):((a::b::M)++[c]).Perm (N++c::a::b::F):=lR fun q w g1 O V a1=>by
 have:=a1 _ _ hp;simp only[g1,O,V]at this ⊢;omega
theorem MV {a b c:Nat×Obj}{N F L:aX}(hp:L.Perm (N++c::a::b::F)):L.Perm (a::b::((c::N)++F)):=lR fun q w g1 M O V=>by
 have:=V _ _ hp;simp only[g1,M,O]at this ⊢;omega
theorem mb.strs {E:Nat}{l:List BA}{p:OA}{c:Nat}{G:aX}(h:mb E 1 l.length (l.map .string) p c G):nh (l7 G) p l:=fun a1=>by
 obtain⟨a2,a3,⟨_,_,a4⟩|⟨Q,cs,V,e,O,a5,M⟩⟩:=h
 ·omega
 ·refine⟨Q,0,cs,e,⟨E,(0,0),O.mem_iff.2 au⟩,fun i hi=>?_⟩
  rw[ez]at M;have:=congrArg (fun x=>x[i]?) M;simp only[bh hi,bP,ar hi,bL]at this;rw[az];exact this
theorem mb.ints {E:Nat}{l:List Int}{p:OA}{c:Nat}{G:aX}(h:mb E 1 l.length (l.map (.int .i64)) p c G):lX (l7 G) p l:=fun a1=>by
 obtain⟨a2,a3,⟨_,_,a4⟩|⟨Q,cs,V,e,O,a5,M⟩⟩:=h
 ·omega
 ·refine⟨Q,0,cs,e,⟨E,(0,0),O.mem_iff.2 au⟩,fun i hi=>?_⟩
  rw[ez]at M;have:=congrArg (fun x=>x[i]?) M;simp only[bh hi,bP,ar hi,bL]at this;rw[az];exact this
variable {x:dF}{tp bp ap:Option Addr}{tc bc ac:Nat}{F:aX}
theorem LG (a2:tx.size<4611686018427387904){n:Int}(hc:n≤4){S:List Nat}{w0:aj}{K:aa→aX→Prop}:
  ∀(g:Nat) (l:List BA) (st:RS) (tp:OA) (tc:Nat) (M N:aX),(g:Int)+l.length=n→st.1≤(bb tx).length→M.Perm (N++F)→mb 9 1 l.length (l.map .string) tp tc N→
   (∀tp tc M N l',l'=l++(lz (lh (bb tx)) g st).1→M.Perm (N++F)→mb 9 1 l'.length (l'.map .string) tp tc N→K (.tuple #[]) (rH 229 Rb tx (lz (lh (bb tx)) g st).2::fH FB (({x with topics:=l'}:dF).cells tp tc bp bc ap ac)::M))→
   CF x bp bc tx Rb FB n (l.length:Int) (st.1:Int) st.2 tp l.length tc ap x.lab.after.length ac M S w0 (fun e a3=>∃v L',e=.returned v∧Mem L' S w0 a3∧K v L')
 | g,l,st,tp,tc,M,N,hg,hst,hp,hr,hK=>by
  apply Hx
  match g with
  |0=>
   exact no (by omega) (kR (hK tp tc M N l (by simp[lz]) hp hr))
  | g+1=>
   refine yes (by omega) ⟨fun V=>?_,fun V=>?_⟩
   ·refine eA.vx (CR a2 hst) ⟨_,_,_,rfl,rfl,fun O=>?_⟩
    refine(hr.push (T:=32) (m:=1) (news:=[.string (lh (bb tx) st).1]) (Y:=(O,.cells #[.string (lh (bb tx) st).1] 9)::(fH FB (({x with topics:=l}:dF).cells tp tc bp bc ap ac))::rH 229 Rb tx (lh (bb tx) st).2::F) (bytes:=16) (z:=.string ⟨#[]⟩) (by kernel_rfl) (by kernel_rfl) rfl (by omega) rfl ⟨by omega,by omega⟩ (MT hp)).nd ?_;rintro _ a9 ⟨p',c',a1,rfl,a7,a8⟩;refine⟨fH FB (({x with topics:=l}:dF).cells tp tc bp bc ap ac)::rH 229 Rb tx (lh (bb tx) st).2::((O,.cells #[.string (lh (bb tx) st).1] 9)::a1++F),MV a7,p',c',_,rfl,rfl,?_⟩;rintro _ rfl;rw[kS (by omega),show(l.length:Int)+1=((l++[(lh (bb tx) st).1]).length:Int)by simp,show l.length+1=(l++[(lh (bb tx) st).1]).length by simp];refine LG a2 hc g (l++[(lh (bb tx) st).1]) (lh (bb tx) st).2 p' c' _ ((O,.cells #[.string (lh (bb tx) st).1] 9)::a1) (by simp;omega) (o3 hst).1 (ah _) ?_ ?_
    ·have:=a8.more [(O,.cells #[.string (lh (bb tx) st).1] 9)]
     simpa using this
    ·intro tp tc M N l' a4 a5 a6
     have e:lz (lh (bb tx)) (g+1) st=((lh (bb tx) st).1::(lz (lh (bb tx)) g (lh (bb tx) st).2).1,(lz (lh (bb tx)) g (lh (bb tx) st).2).2):=by rw[lz,if_pos V]
     rw[e]at hK;exact hK tp tc M N l' (by rw[a4,an];rfl) a5 a6
   ·rw[oc V]at hK
    exact kR (hK tp tc M N l (by simp) hp hr)
theorem Ft {u:Int}(O:tx.size<4611686018427387904){S:List Nat}{w0:aj}{K:aa→aX→Prop}{l:List Int}(V:st.1≤(bb tx).length)
  (a7:K (.tuple #[]) (rH 229 Rb tx (kP (bb tx) (kP (bb tx) st).2).2::fH FB (({x with lab:=⟨u,l,(kP (bb tx) st).1,(kP (bb tx) (kP (bb tx) st).2).1⟩}:dF).cells tp tc bp bc ap ac)::F)):
  eA TP 178 #[.pointer (SO Rb)] (rH 229 Rb tx st::fH FB (({x with lab:=⟨u,l,x.lab.appr,x.lab.den⟩}:dF).cells tp tc bp bc ap ac)::F) S w0 fun v L=>∃(M:Int) (a2:Nat) (a4:Int),v=.int .i64 M∧L=(Rb,.cells #[.string tx,.int .i64 (a2:Int),.int .i64 a4] 229)::fH FB (({x with lab:=⟨u,l,x.lab.appr,x.lab.den⟩}:dF).cells tp tc bp bc ap ac)::F∧
   eA TP 178 #[.pointer (SO Rb)] ((Rb,.cells #[.string tx,.int .i64 (a2:Int),.int .i64 a4] 229)::fH FB (({x with lab:=⟨u,l,M,x.lab.den⟩}:dF).cells tp tc bp bc ap ac)::F) S w0 fun v L=>∃(a1:Int) (a3:Nat) (a5:Int),v=.int .i64 a1∧L=(Rb,.cells #[.string tx,.int .i64 (a3:Int),.int .i64 a5] 229)::fH FB (({x with lab:=⟨u,l,M,x.lab.den⟩}:dF).cells tp tc bp bc ap ac)::F∧
    Fin (fun e a6=>∃v L',e=.returned v∧Mem L' S w0 a6∧K v L') ((Rb,.cells #[.string tx,.int .i64 (a3:Int),.int .i64 a5] 229)::fH FB (({x with lab:=⟨u,l,M,a1⟩}:dF).cells tp tc bp bc ap ac)::F) S w0 (.tuple #[]):=
 eA.one (tI O V) ⟨_,_,_,rfl,rfl,eA.one (tI O (mo V)) ⟨_,_,_,rfl,rfl,kR a7⟩⟩
theorem Ho (a1:tx.size<4611686018427387904){n u:Int}(hc:n≤64){S:List Nat}{w0:aj}{K:aa→aX→Prop}:
  ∀(g:Nat) (l:List Int) (st:RS) (ap:OA) (ac:Nat) (M N:aX),(g:Int)+l.length=n→st.1≤(bb tx).length→M.Perm (N++F)→mb 3 1 l.length (l.map (.int .i64)) ap ac N→
   (∀ap ac M N l' O,l'=l++(lz (kP (bb tx)) g st).1→O=(lz (kP (bb tx)) g st).2→M.Perm (N++F)→mb 3 1 l'.length (l'.map (.int .i64)) ap ac N→K (.tuple #[]) (rH 229 Rb tx (kP (bb tx) (kP (bb tx) O).2).2::fH FB (({x with lab:=⟨u,l',(kP (bb tx) O).1,(kP (bb tx) (kP (bb tx) O).2).1⟩}:dF).cells tp tc bp bc ap ac)::M))→
   Cn x bp bc tx Rb FB n (l.length:Int) (st.1:Int) st.2 tp x.topics.length tc u ap l.length ac M S w0 (fun e a4=>∃v L',e=.returned v∧Mem L' S w0 a4∧K v L')
 | g,l,st,ap,ac,M,N,hg,hst,hp,hr,hK=>by
  apply IX
  match g with
  |0=>
   exact no (by omega) (Ft a1 hst (hK ap ac M N l st (by simp[lz]) rfl hp hr))
  | g+1=>
   refine yes (by omega) ⟨fun a2=>?_,fun a2=>?_⟩
   ·refine eA.vx (tI a1 hst) ⟨_,_,_,rfl,rfl,fun V=>?_⟩
    refine(hr.push (T:=34) (m:=1) (news:=[.int .i64 (kP (bb tx) st).1]) (Y:=(V,.cells #[.int .i64 (kP (bb tx) st).1] 3)::(fH FB (({x with lab:=⟨u,l,x.lab.appr,x.lab.den⟩}:dF).cells tp tc bp bc ap ac))::rH 229 Rb tx (kP (bb tx) st).2::F) (bytes:=8) (z:=.int .i64 0) (by kernel_rfl) (by kernel_rfl) rfl (by omega) rfl ⟨by omega,by omega⟩ (MT hp)).nd ?_;rintro _ b3 ⟨p',c',a3,rfl,a9,b1⟩;refine⟨fH FB (({x with lab:=⟨u,l,x.lab.appr,x.lab.den⟩}:dF).cells tp tc bp bc ap ac)::rH 229 Rb tx (kP (bb tx) st).2::((V,.cells #[.int .i64 (kP (bb tx) st).1] 3)::a3++F),MV a9,p',c',_,rfl,rfl,?_⟩;rintro _ rfl;rw[kS (by omega),show(l.length:Int)+1=((l++[(kP (bb tx) st).1]).length:Int)by simp,show l.length+1=(l++[(kP (bb tx) st).1]).length by simp];refine Ho a1 hc g (l++[(kP (bb tx) st).1]) (kP (bb tx) st).2 p' c' _ ((V,.cells #[.int .i64 (kP (bb tx) st).1] 3)::a3) (by simp;omega) (mo hst) (ah _) ?_ ?_
    ·have:=b1.more [(V,.cells #[.int .i64 (kP (bb tx) st).1] 3)]
     simpa using this
    ·intro ap ac M N l' O a5 a8 a6 a7
     have e:lz (kP (bb tx)) (g+1) st=((kP (bb tx) st).1::(lz (kP (bb tx)) g (kP (bb tx) st).2).1,(lz (kP (bb tx)) g (kP (bb tx) st).2).2):=by rw[lz,if_pos a2]
     rw[e]at hK;exact hK ap ac M N l' O (by rw[a5,an];rfl) a8 a6 a7
   ·rw[oc a2]at hK
    exact Ft a1 hst (hK ap ac M N l st (by simp) rfl hp hr)
def yX (x:dF)(tp:OA)(tc:Nat)(ap:OA)(ac:Nat):k9→Prop
 | .topics=>x.topics=[]∧tp=none∧tc=0
 | .blocks=>x.blocks=[]
 | .label=>x.lab.after=[]∧ap=none∧ac=0
 |_=>True
theorem Xf {s:List UInt8}(h:¬(my s).2=0):(my s).1=[]:=by
 unfold my at*;split at h
 ·next h1=>rw[if_pos h1]
 ·next h1=>
  rw[if_neg h1];split at h
  ·next h2=>rw[if_pos h2]
  ·next h2=>
   rw[if_neg h2];split at h
   ·exact absurd rfl h
   ·next h3=>rw[if_neg h3]
def vE (Rb FB:Nat)(tx:BA)(x:dF)(tp:OA)(tc:Nat)(ap:OA)(ac:Nat)(y:k9)(r:dF×RS)(v:aa)(L':aX):Prop:=
 v=.tuple #[]∧∃tp' tc' bp' bc' ap' ac' G,L'=rH 229 Rb tx r.2::fH FB (r.1.cells tp' tc' bp' bc' ap' ac')::G∧lv (l7 G) r.1 tp' tc' bp' bc' ap' ac'∧∀z,z≠y→yX x tp tc ap ac z→yX r.1 tp' tc' ap' ac' z
theorem uH {N F M:aX}(h:M.Perm (N++F)):∀b c,l7 F b c→l7 M b c:=mR fun x O=>h.mem_iff.2 (ak _ O)
theorem Da {N F M:aX}(h:M.Perm (N++F)):∀b c,l7 N b c→l7 M b c:=mR fun x O=>h.mem_iff.2 (List.mem_append_left _ O)
theorem Wr {c:Int}{y:k9}(d0:y=.topics∧c=111∨y=.blocks∧c=98∨y=.label∧c=76)(a6:tx.size<4611686018427387904)(a7:st.1≤(bb tx).length)(M:lv (l7 F) x tp tc bp bc ap ac)(b1:yX x tp tc ap ac y):
  lP TP 197 ⟨[.pointer (SO Rb),.pointer (SO FB),.int .u8 c]⟩ (rH 229 Rb tx st::fH FB (x.cells tp tc bp bc ap ac)::F) (vE Rb FB tx x tp tc ap ac y (ni (bb tx) (x,st) y)):=by
 intro W hm;refine XA Rb FB c tx st.1 st.2 x bp bc tp x.topics.length tc ap x.lab.after.length ac F hm ?_;obtain⟨a8,⟨t1,b6⟩,b7,a9⟩:=M.fits;rcases d0 with⟨rfl,rfl⟩|⟨rfl,rfl⟩|⟨rfl,rfl⟩
 ·obtain⟨c2,rfl,rfl⟩:=b1
  refine yes rfl (eA.one (LR (most:=4) a6 a7) ⟨_,_,_,rfl,rfl,?_⟩);have e:ni (bb tx) (x,st) .topics=({x with topics:=(nv (lh (bb tx)) (bb tx) 4 st).1},(nv (lh (bb tx)) (bb tx) 4 st).2):=rfl;rw[e,IM];have hn:nP (bb tx) 4 st≤4:=Ir (most:=4);have a4:=w8 (s:=bb tx) (m:=4) a7;have c9:=EU (s:=bb tx) (nP (bb tx) 4 st).toNat (mh (bb tx) 4 st).2 a4;have b5:=(yh (f:=lh (bb tx)) (fun st h=>(o3 h).1) (nP (bb tx) 4 st).toNat (mh (bb tx) 4 st).2 a4).2;have b9:x.topics.length=([]:List BA).length:=by rw[c2]
  rw[b9]
  by_cases hn0:0≤nP (bb tx) 4 st
  ·refine LG (x:=x) a6 hn (nP (bb tx) 4 st).toNat [] (mh (bb tx) 4 st).2 none 0 F [] (by simp;omega) a4 (ah _) mb.nil ?_
   intro tp tc a2 N l' a3 hp a5;rw[aT]at a3;subst a3;refine⟨rfl,tp,tc,bp,bc,ap,ac,a2,rfl,⟨a5.strs.mono (Da hp),M.blks.mono (uH hp),M.ints.mono (uH hp),a5.1,M.cb,M.ca,a8,⟨?_,fun t c4=>?_⟩,b7,a9⟩,fun z V a1=>?_⟩
   ·exact bC b5 (by omega)
   ·exact bC (c9 t c4) (by omega)
   ·cases z<;>first|exact absurd rfl V|exact a1
  ·have e0:(nP (bb tx) 4 st).toNat=0:=by omega
   rw[e0];apply Hx;refine no (by simp;omega) (kR ⟨rfl,none,0,bp,bc,ap,ac,F,rfl,⟨Cu,M.blks,M.ints,aD _,M.cb,M.ca,a8,⟨bx _,fun t c4=>by cases c4⟩,b7,a9⟩,fun z V a1=>?_⟩);cases z<;>first|exact absurd rfl V|exact a1
 ·have b1:x.blocks=[]:=b1
  refine no (by decide) (yes rfl (eA.one (CR a6 a7) ⟨_,_,_,rfl,rfl,?_⟩));have e:ni (bb tx) (x,st) .blocks=({x with blocks:=(nB (bb tx) st).1},(nB (bb tx) st).2):=rfl;rw[e];have V:=(o3 (s:=bb tx) a7).2;refine⟨fun b3=>kR ?_,fun b3=>?_⟩
  ·have e1:nB (bb tx) st=([],(lh (bb tx) st).2):=by rw[nB,if_neg b3]
   rw[e1];refine⟨rfl,tp,tc,bp,bc,ap,ac,F,?_,⟨M.tops,uN,M.ints,M.ct,bx _,M.ca,a8,⟨t1,b6⟩,bx _,a9⟩,fun z V a1=>?_⟩
   ·have:({x with blocks:=[]}:dF)=x:=by rw[←b1]
    rw[this]
   ·cases z<;>first|exact absurd rfl V|exact a1
  ·refine eA.lF (L0:=[]) (L1:=rH 229 Rb tx (lh (bb tx) st).2::fH FB (x.cells tp tc bp bc ap ac)::F) (Py (lh (bb tx) st).1 (by omega)) (ah _) ?_
   rintro _ L' ⟨p,cc,rfl,c8,c7⟩;have hp:(L'++F).Perm (L'++F):=ah _;refine⟨rH 229 Rb tx (lh (bb tx) st).2::fH FB (x.cells tp tc bp bc ap ac)::(L'++F),TA,_,_,_,_,_,rfl,rfl,fun b4=>?_,fun b4=>?_⟩
   ·have e1:nB (bb tx) st=([],((lh (bb tx) st).2.1,50)):=by rw[nB,if_pos b3,if_neg b4]
    have c6:=Xf b4;rw[e1];rw[c6];refine kR ⟨rfl,tp,tc,p,cc,ap,ac,L'++F,rfl,⟨M.tops.mono (uH hp),uN,M.ints.mono (uH hp),M.ct,bx _,M.ca,a8,⟨t1,b6⟩,bx _,a9⟩,fun z V a1=>?_⟩;cases z<;>first|exact absurd rfl V|exact a1
   ·have e1:nB (bb tx) st=((my (bb (lh (bb tx) st).1)).1,(lh (bb tx) st).2):=by rw[nB,if_pos b3,if_pos b4]
    rw[e1];refine kR ⟨rfl,tp,tc,p,cc,ap,ac,L'++F,rfl,⟨M.tops.mono (uH hp),c7.mono (Da hp),M.ints.mono (uH hp),M.ct,c8,M.ca,a8,⟨t1,b6⟩,?_,a9⟩,fun z V a1=>?_⟩
    ·exact Vs _
    ·cases z<;>first|exact absurd rfl V|exact a1
 ·obtain⟨c2,rfl,rfl⟩:=b1
  refine no (by decide) (no (by decide) (eA.one (tI a6 a7) ⟨_,_,_,rfl,rfl,?_⟩));have c5:=mo (s:=bb tx) a7;refine eA.one (LR (most:=64) a6 c5) ⟨_,_,_,rfl,rfl,?_⟩;have a4:=w8 (s:=bb tx) (m:=64) c5;have hn:nP (bb tx) 64 (kP (bb tx) st).2≤64:=Ir (most:=64);have b9:x.lab.after.length=([]:List Int).length:=by rw[c2]
  rw[b9];have e:∀l O,l=(lz (kP (bb tx)) (nP (bb tx) 64 (kP (bb tx) st).2).toNat (mh (bb tx) 64 (kP (bb tx) st).2).2).1→O=(lz (kP (bb tx)) (nP (bb tx) 64 (kP (bb tx) st).2).toNat (mh (bb tx) 64 (kP (bb tx) st).2).2).2→
    ni (bb tx) (x,st) .label=({x with lab:=⟨(kP (bb tx) st).1,l,(kP (bb tx) O).1,(kP (bb tx) (kP (bb tx) O).2).1⟩},(kP (bb tx) (kP (bb tx) O).2).2):=by
   rintro l O rfl rfl;rw[←IM];rfl
  have b5:=(yh (f:=kP (bb tx)) (fun st h=>mo h) (nP (bb tx) 64 (kP (bb tx) st).2).toNat (mh (bb tx) 64 (kP (bb tx) st).2).2 a4).2;have fin:∀ap ac a2 N l' O,l'=(lz (kP (bb tx)) (nP (bb tx) 64 (kP (bb tx) st).2).toNat (mh (bb tx) 64 (kP (bb tx) st).2).2).1→O=(lz (kP (bb tx)) (nP (bb tx) 64 (kP (bb tx) st).2).toNat (mh (bb tx) 64 (kP (bb tx) st).2).2).2→a2.Perm (N++F)→mb 3 1 l'.length (l'.map (.int .i64)) ap ac N→
    vE Rb FB tx x tp tc none 0 .label (ni (bb tx) (x,st) .label) (.tuple #[]) (rH 229 Rb tx (kP (bb tx) (kP (bb tx) O).2).2::fH FB (({x with lab:=⟨(kP (bb tx) st).1,l',(kP (bb tx) O).1,(kP (bb tx) (kP (bb tx) O).2).1⟩}:dF).cells tp tc bp bc ap ac)::a2):=by
   intro ap ac a2 N l' O a3 c3 hp a5;rw[e l' O a3 c3];refine⟨rfl,tp,tc,bp,bc,ap,ac,a2,rfl,⟨M.tops.mono (uH hp),M.blks.mono (uH hp),a5.ints.mono (Da hp),M.ct,M.cb,a5.1,a8,⟨t1,b6⟩,b7,?_⟩,fun z V a1=>?_⟩
   ·rw[←a3]at b5
    exact bC b5 (by omega)
   ·cases z<;>first|exact absurd rfl V|exact a1
  by_cases hn0:0≤nP (bb tx) 64 (kP (bb tx) st).2
  ·refine Ho (x:=x) a6 hn (nP (bb tx) 64 (kP (bb tx) st).2).toNat [] (mh (bb tx) 64 (kP (bb tx) st).2).2 none 0 F [] (by simp;omega) a4 (ah _) mb.nil ?_
   intro ap ac a2 N l' O a3 c3 hp a5;exact fin ap ac a2 N l' O (by rw[a3];rfl) c3 hp a5
  ·have e0:(nP (bb tx) 64 (kP (bb tx) st).2).toNat=0:=by omega
   apply IX;refine no (by simp;omega) (Ft (st:=(mh (bb tx) 64 (kP (bb tx) st).2).2) a6 a4 (fin none 0 F [] [] _ (by rw[e0];rfl) (by rw[e0];rfl) (ah _) mb.nil))
theorem Iu {y:k9}(O:y.ty=.int∨y.ty=.str)(a1:st.1≤(bb tx).length)(M:lv (l7 F) x tp tc bp bc ap ac):
  vE Rb FB tx x tp tc ap ac y (ni (bb tx) (x,st) y) (.tuple #[]) (rH 229 Rb tx (mB (bb tx) y.ty st).2::fH FB ((x.set y (mB (bb tx) y.ty st).1).cells tp tc bp bc ap ac)::F):=by
 have a2:=(o3 (s:=bb tx) a1).2;refine⟨rfl,tp,tc,bp,bc,ap,ac,F,rfl,?_,fun z a2 V=>?_⟩
 ·rcases O with h|h
  ·exact(Ku (s:=bb tx) (st:=st) (f:=x) h).2.2.2 _ _ _ _ _ _ _ M
  ·exact(NJ (s:=bb tx) (st:=st) (f:=x) (by omega) h).2.2.2 _ _ _ _ _ _ _ M
 ·cases z<;>first|trivial|(cases y<;>first|exact V|(rcases O with h|h<;>exact absurd h (by decide)))
theorem Vy {c:Int}(a1:tx.size<4611686018427387904)(M:st.1≤(bb tx).length)(a2:lv (l7 F) x tp tc bp bc ap ac)(a4:yX x tp tc ap ac (mz c)):
  lP TP 179 ⟨[.pointer (SO Rb),.pointer (SO FB),.int .u8 c]⟩ (rH 229 Rb tx st::fH FB (x.cells tp tc bp bc ap ac)::F) (vE Rb FB tx x tp tc ap ac (mz c) (ni (bb tx) (x,st) (mz c))):=by
 intro W hm;have I:∀y,mz c=y→y.ty=.int→∀S w0,Fin (fun e V=>∃v L',e=.returned v∧Mem L' S w0 V∧vE Rb FB tx x tp tc ap ac (mz c) (ni (bb tx) (x,st) (mz c)) v L') (rH 229 Rb tx (mB (bb tx) y.ty st).2::fH FB ((x.set y (mB (bb tx) y.ty st).1).cells tp tc bp bc ap ac)::F) S w0 (.tuple #[]):=by
  intro y e O S w0;rw[e];exact kR (Iu (.inl O) M a2)
 have T:∀y,mz c=y→y.ty=.str→∀S w0,Fin (fun e V=>∃v L',e=.returned v∧Mem L' S w0 V∧vE Rb FB tx x tp tc ap ac (mz c) (ni (bb tx) (x,st) (mz c)) v L') (rH 229 Rb tx (mB (bb tx) y.ty st).2::fH FB ((x.set y (mB (bb tx) y.ty st).1).cells tp tc bp bc ap ac)::F) S w0 (.tuple #[]):=by
  intro y e O S w0;rw[e];exact kR (Iu (.inr O) M a2)
 have n1:=tI (Rb:=Rb) a1 M;have t1:=CR (Rb:=Rb) a1 M;have L:∀y,mz c=y→(y=.topics∧c=111∨y=.blocks∧c=98∨y=.label∧c=76)→∀K':aa→aX→Prop,(∀v L',vE Rb FB tx x tp tc ap ac (mz c) (ni (bb tx) (x,st) (mz c)) v L'→K' v L')→∀S w0,
   eA TP 197 #[.pointer (SO Rb),.pointer (SO FB),.int .u8 c] (rH 229 Rb tx st::fH FB (x.cells tp tc bp bc ap ac)::F) S w0 K':=by
  intro y e O K' a3 S w0;rw[e]at a4 a3;exact eA.lF (L0:=_) (L1:=[]) (Wr O a1 M a2 a4) (by rw[aL]) fun v L' h=>⟨L',by rw[aL],a3 v L' h⟩
 refine PE Rb FB c tx st.1 st.2 x tp tc bp bc ap ac F hm ⟨fun k=>?_,fun k1=>⟨fun k=>?_,fun b4=>⟨fun k=>?_,fun b5=>⟨fun k=>?_,fun b6=>⟨fun k=>?_,fun b7=>⟨fun k=>?_,fun b9=>⟨fun k=>?_,fun c2=>⟨fun k=>?_,fun c3=>⟨fun k=>?_,fun c4=>⟨fun k=>?_,fun a5=>⟨fun k=>?_,fun a6=>⟨fun k=>?_,fun a7=>⟨fun k=>?_,fun a8=>⟨fun k=>?_,fun a9=>⟨fun k=>?_,fun b1=>⟨fun k=>?_,fun b3=>?_⟩⟩⟩⟩⟩⟩⟩⟩⟩⟩⟩⟩⟩⟩⟩⟩
 ·exact eA.one n1 ⟨_,_,_,rfl,rfl,I .story (by rw[k];rfl) rfl _ _⟩
 ·exact eA.one t1 ⟨_,_,_,rfl,rfl,T .lang (by rw[k];rfl) rfl _ _⟩
 ·exact eA.one n1 ⟨_,_,_,rfl,rfl,I .rev (by rw[k];rfl) rfl _ _⟩
 ·exact eA.one n1 ⟨_,_,_,rfl,rfl,I .base (by rw[k];rfl) rfl _ _⟩
 ·exact eA.one t1 ⟨_,_,_,rfl,rfl,T .title (by rw[k];rfl) rfl _ _⟩
 ·exact eA.one t1 ⟨_,_,_,rfl,rfl,T .author (by rw[k];rfl) rfl _ _⟩
 ·exact L .topics (by rw[k];rfl) (.inl ⟨rfl,k⟩) _ (fun v L' ⟨hv,tp',tc',bp',bc',ap',ac',G,hL,hF,hz⟩=>⟨_,_,_,tp',tc',bp',bc',ap',ac',G,hv,hL,kR ⟨rfl,tp',tc',bp',bc',ap',ac',G,rfl,hF,hz⟩⟩) _ _
 ·exact L .blocks (by rw[k];rfl) (.inr (.inl ⟨rfl,k⟩)) _ (fun v L' ⟨hv,tp',tc',bp',bc',ap',ac',G,hL,hF,hz⟩=>⟨_,_,_,tp',tc',bp',bc',ap',ac',G,hv,hL,kR ⟨rfl,tp',tc',bp',bc',ap',ac',G,rfl,hF,hz⟩⟩) _ _
 ·exact L .label (by rw[k];rfl) (.inr (.inr ⟨rfl,k⟩)) _ (fun v L' ⟨hv,tp',tc',bp',bc',ap',ac',G,hL,hF,hz⟩=>⟨_,_,_,tp',tc',bp',bc',ap',ac',G,hv,hL,kR ⟨rfl,tp',tc',bp',bc',ap',ac',G,rfl,hF,hz⟩⟩) _ _
 ·exact eA.one n1 ⟨_,_,_,rfl,rfl,I .editor (by rw[k];rfl) rfl _ _⟩
 ·exact eA.one n1 ⟨_,_,_,rfl,rfl,I .block (by rw[k];rfl) rfl _ _⟩
 ·exact eA.one n1 ⟨_,_,_,rfl,rfl,I .sentence (by rw[k];rfl) rfl _ _⟩
 ·exact eA.one t1 ⟨_,_,_,rfl,rfl,T .text (by rw[k];rfl) rfl _ _⟩
 ·exact eA.one t1 ⟨_,_,_,rfl,rfl,T .name (by rw[k];rfl) rfl _ _⟩
 ·exact eA.one n1 ⟨_,_,_,rfl,rfl,I .partner (by rw[k];rfl) rfl _ _⟩
 ·exact eA.one n1 ⟨_,_,_,rfl,rfl,I .cls (by rw[k];rfl) rfl _ _⟩
 ·exact eA.one n1 ⟨_,_,_,rfl,rfl,I .unt (by simp only[mz, *,if_false]) rfl _ _⟩
end rd5
section dec5
variable {s:ByteArray}{B B1 B2:Nat}
theorem SX {s:List UInt8}{l:List k9}{r r':dF×RS}(h:l.foldl (ni s) r=r')(M:¬r.2.2=0):r'.2=r.2:=by rw[←h];exact Cy l r M
theorem Lv (a9:s.size<4611686018427387904){k:Int}{w0:aj}(b7:(lS (bb s)).1=k):∀(g i:Nat) (x:dF) (st:RS) (tp:OA) (tc:Nat) (bp:OA) (bc:Nat) (ap:OA) (ac:Nat) (F:aX),
      g+i=(k6 k).length→st.1≤(bb s).length→lv (l7 F) x tp tc bp bc ap ac→(∀z∈(k6 k).drop i,yX x tp tc ap ac z)→((k6 k).drop i).foldl (ni (bb s)) (x,st)=mN (bb s)→
      Bo B B1 B2 s (nM k) (i:Int) (dF.bare 0 0 0) none 0 none 0 none 0 s (st.1:Int) st.2 x tp tc bp bc ap ac F [] w0 (fun e a2=>∃v L',e=.returned v∧Mem L' [] w0 a2∧qn (l6 (bb s)) v L')
  | g, i, x,st,tp,tc,bp,bc,ap,ac,F,hg,hst,V,hz,O=>by
    apply Tq;have c5:(bb s).length=s.size:=lB s;have c4:=tm k;have bad:¬st.2=0→∀F,qn (l6 (bb s)) (.tuple #[.agg ⟨dF.zero.cells none 0 none 0 none 0⟩,.int .i64 st.2]) F:=fun M F=>by
      have e:=SX O M;rw[l6,if_pos (by rw[e];exact M),e];exact qn.zero
    have c3:=xk k
    match g with
    | 0 =>
      rw[ax (by omega)]at O;have O:(x,st)=mN (bb s):=O;refine no (by omega) ⟨fun M=>kR (bad M _),fun M=>⟨fun b6=>?_,fun b6=>?_⟩⟩
      · have e:l6 (bb s)=(dF.zero,10):=by rw[l6,←O,if_neg (by simpa using M),if_pos (by show st.1<_;omega)]
        rw[e];exact kR qn.zero
      · refine eA.pw (fun a2 b9=>DL (V.mono (qt b9 fun x V=>ag _ (ag _ (ag _ V))))) ⟨_,rfl,rfl,fun a1=>?_,fun a1=>?_⟩
        · have e:l6 (bb s)=(x,0):=by rw[l6,←O,if_neg (by simpa using M),if_neg (by show¬st.1<_;omega),if_pos a1]
          rw[e];exact kR ⟨tp,tc,bp,bc,ap,ac,rfl,V.mono (mR fun x V=>ag _ (ag _ (ag _ V)))⟩
        · have e:l6 (bb s)=(dF.zero,50):=by rw[l6,←O,if_neg (by simpa using M),if_neg (by show¬st.1<_;omega),if_neg (by show¬x.ok=true;rw[a1];decide)]
          rw[e];exact kR qn.zero
    | g+1=>
      have hi:i<(k6 k).length:=by omega
      have a8:=DI hi;rw[aG hi]at O hz;have c2:=(En k).1;refine yes (by omega) ⟨fun M=>⟨by omega,?_⟩,fun M=>kR (bad M _)⟩;refine eA.lF (L0:=rH 229 B1 s st::fH B2 (x.cells tp tc bp bc ap ac)::F) (L1:=[fH B (dF.zero.cells none 0 none 0 none 0)]) (Vy (c:=k8 (nM k) i) a9 hst V (by rw[a8];exact hz _ au)) (G9 (c:=fH B (dF.zero.cells none 0 none 0 none 0))) ?_;rintro _ _ ⟨rfl,b5,b4,a6,a5,a4,a3,G,rfl,a7,b1⟩;refine⟨_,G9 (c:=fH B (dF.zero.cells none 0 none 0 none 0)),_,_,_,b5,b4,a6,a5,a4,a3,G,rfl,rfl,?_⟩;rintro _ rfl;rw[a8]at a7 b1 ⊢;rw[kS (by omega),show(i:Int)+1=((i+1:Nat):Int)by omega];refine Lv a9 b7 g (i+1) _ _ b5 b4 a6 a5 a4 a3 G (by omega) (Md hst) a7 (fun z b3=>b1 z ?_ (hz z (ag _ b3))) O;rintro rfl;have:=c2;rw[←List.take_append_drop i (k6 k),aG hi,List.nodup_append]at this;exact(List.nodup_cons.1 this.2.1).1 b3
theorem W6 (O:s.size<4611686018427387904):lP TP 157 ⟨[.string s]⟩ [] (qn (l6 (bb s))):=by
 intro W hm;obtain⟨a5,a6,a7⟩:=BG (bb s);refine WH s hm fun B a3 B2=>eA.vx (tI (st:=(0,0)) O (bx _)) ⟨_,_,_,rfl,rfl,eA.vx (tI (st:=(m5 (bb s)).2) O a5) ⟨_,_,_,rfl,rfl,eA.vx (tI (st:=(mW (bb s)).2) O a6) ⟨_,_,_,rfl,rfl,?_⟩⟩⟩
 refine eA.pure (Dm (lS (bb s)).1) ⟨_,rfl,rfl,?_⟩;have M:=tm (lS (bb s)).1;have go:∀st,st=rdKind (bb s)→Bo B a3 B2 s (nM (lS (bb s)).1) ((0:Nat):Int) (dF.bare 0 0 0) none 0 none 0 none 0 s (st.1:Int) st.2 (dF.bare (m5 (bb s)).1 (mW (bb s)).1 (lS (bb s)).1) none 0 none 0 none 0 [] [] W (fun e a4=>∃v L',e=.returned v∧Mem L' [] W a4∧qn (l6 (bb s)) v L'):=by
  rintro _ rfl;refine Lv O rfl (k6 (lS (bb s)).1).length 0 _ _ none 0 none 0 none 0 [] (by omega) (S5 _) (NT _ _ _) (fun z _=>?_) (by rw[aU];rfl);cases z<;>first|trivial|exact⟨rfl,rfl,rfl⟩|rfl
 have a2:nM (lS (bb s)).1=⟨#[]⟩↔k6 (lS (bb s)).1=[]:=by
  constructor
  ·intro h
   rw[h]at M;exact aQ.1 M.symm
  ·intro h
   rw[h]at M;exact gV (eO M)
 refine⟨fun a1=>⟨fun V=>go (((lS (bb s)).2.1,50)) ?_,fun V=>go (lS (bb s)).2 ?_⟩,fun a1=>go (lS (bb s)).2 ?_⟩
 ·rw[rdKind,if_pos ⟨a1,a2.1 V⟩]
 ·rw[rdKind,if_neg fun h=>V (a2.2 h.2)]
 ·rw[rdKind,if_neg fun h=>a1 h.1]
end dec5
theorem Af {l:List aa}{k:Nat}{a b:aa}(h:(l.drop k).take 2=[a,b]):l[k]?=some a∧l[k+1]?=some b:=by
 have M:=congrArg (fun x=>x[0]?) h;have O:=congrArg (fun x=>x[1]?) h;simp only[bh (show 0<2 by decide),bh (show 1<2 by decide),List.getElem?_drop,fC]at M O;exact⟨M,O⟩
theorem Wd {cs X:List aa}{o n:Nat}(h:o+X.length≤n)(hn:n≤cs.length):(over cs o X).take n=over (cs.take n) o X:=by
 have M:(cs.take o).length=o:=by rw[ao];omega
 simp only[over];rw[List.take_append,ae,M,aK (by rw[ae,M];omega),gv,dj (by omega),gu]
theorem Lg {cs:List aa}{b s:List UInt8}{o:Nat}(h:cs.take b.length=kU b)(M:o+s.length≤b.length)(hn:b.length≤cs.length):(over cs o (kU s)).take b.length=kU (lu b o s):=by
 rw[Wd (by rw[nV];exact M) hn,h,vV]
theorem Fg {l:List (Nat×BA)}{E:Nat}{p:OA}{c:Nat}{G:aX}(h:mb E 2 l.length (mm l) p c G){i:Nat}(hi:i<l.length):
  ∃Q cs,p=some ⟨Q,0,none⟩∧(∃t fz,(Q,bu ⟨cs⟩ t fz)∈G)∧(cs.drop (0+i*2)).take 2=[.int .i64 (l[i].1:Int),.string l[i].2]∧0+i*2+2≤cs.length:=by
 obtain⟨Q,cs,M,O,V,a1⟩:=h.get hi;refine⟨Q,cs,M,O,?_,a1⟩;rw[V];exact EI l i hi
def Od (x y:Nat×Obj)(n:Nat)(b:List UInt8)(G:aX):aa→aX→Prop:=fun v L'=>∃vb vc vs,v=.slice (SO vb) n vc∧L'=x::y::(vb,.cells ⟨vs⟩ 5)::G∧n≤vc∧vs.length=vc∧vs.take n=kU b
theorem KW {x y z:Nat×Obj}{G:aX}{Q:Nat}{cs:List aa}(h:∃t fz,(Q,bu ⟨cs⟩ t fz)∈G):∃t fz,(Q,bu ⟨cs⟩ t fz)∈x::y::z::G:=by
 obtain⟨t,fz,h⟩:=h;exact⟨t,fz,by simp[h]⟩
theorem Ey {x y:Nat×Obj}{G:aX}{Q:Nat}{cs:List aa}(h:∃t fz,(Q,bu ⟨cs⟩ t fz)∈G):∃t fz,(Q,bu ⟨cs⟩ t fz)∈x::y::G:=by
 obtain⟨t,fz,h⟩:=h;exact⟨t,fz,by simp[h]⟩
theorem NU {x y z:Nat×Obj}{G:aX}:([z]++(x::y::G)).Perm (x::y::z::G):=perm_a
theorem ER {D SB sc M:Nat}{d:DS}{V:OA}{cs:List aa}{G:aX}(a3:s9 d)(c4:d.vis.length≤sc)(c5:cs.length=sc)(a5:cs.take d.vis.length=kU d.dur)(b5:mb 128 2 d.pend.length (mm d.pend) V M G)(c6:d.pend.length<1000000):
  lP TP 39 ⟨[DP D]⟩ (pE D SB d.vis.length sc V d.pend.length M d.on d.cut::(SB,.cells ⟨cs⟩ 5)::G)
   (Od (pE D SB d.vis.length sc V d.pend.length M d.on d.cut) (SB,.cells ⟨cs⟩ 5) d.vis.length d.vis G):=by
 intro W hm;have c7:=a3.ok.le;have a6:=a3.ok.len;have b9:=a3.ok.pend;refine Zt D SB _ sc V _ M _ _ cs G hm fun B=>⟨⟨?_,?_⟩,⟨aD _,rfl⟩,⟨by omega,by omega⟩,?_⟩
 ·rw[aU,ez,a5];exact zd _
 ·rw[aU,ez,a5,nV,a6]
 intro a4 cap r a9 b1;have b7:d.vis.length*1=d.vis.length:=ez _;have c2:0+d.vis.length=d.vis.length:=az _;rw[aU,b7,a5]at b1 ⊢;rw[c2]at a9 ⊢;have go:∀(g i:Nat) (O:List aa),g+i=d.pend.length→O.length=cap→O.take d.vis.length=kU (oU (d.pend.take i) d.dur)→(oU (d.pend.take i) d.dur).length=d.vis.length→
   As D SB d.vis.length sc V d.pend.length M (!d.on) d.cut cs D SB a4 d.vis.length cap (i:Int) d.vis.length sc (!d.on) cs O G ((pE D SB d.vis.length sc V d.pend.length M d.on d.cut::(SB,.cells ⟨cs⟩ 5)::G).map (·.1)) W
    (fun e b3=>∃v L',e=.returned v∧Mem L' ((pE D SB d.vis.length sc V d.pend.length M d.on d.cut::(SB,.cells ⟨cs⟩ 5)::G).map (·.1)) W b3∧Od (pE D SB d.vis.length sc V d.pend.length M d.on d.cut) (SB,.cells ⟨cs⟩ 5) d.vis.length d.vis G v L'):=by
  intro g;induction g with
  |zero=>
   intro i O hi c1 a1 a2;apply Lc;rw[show d.pend.take i=d.pend from aK (by omega),←a3.vis]at a1;exact no (by omega) (DK.fin ⟨a4,cap,O,rfl,rfl,a9,c1,a1⟩)
  | succ g ih=>
   intro i O hi c1 a1 a2;apply Lc;have a7:i<d.pend.length:=by omega
   obtain⟨Q,qs,rfl,k1,c3,d0⟩:=Fg b5 a7;obtain⟨e1,b4⟩:=Af c3;have c8:=b9 _ (bH a7);have c9:=lB d.pend[i].2;refine yes (by omega) ⟨Q,0,rfl,by omega,qs,(d.pend[i].1:Int),KW k1,e1,Q,0,rfl,by omega,qs,d.pend[i].2,KW k1,b4,?_⟩;refine eA.lF (L0:=[(a4,.cells ⟨O⟩ 5)]) (L1:=pE D SB d.vis.length sc (SO Q) d.pend.length M d.on d.cut::(SB,.cells ⟨cs⟩ 5)::G) (Kd (by omega) (by omega) (by omega)) NU ?_;rintro _ _ ⟨rfl,rfl⟩;refine⟨_,NU,_,rfl,rfl,?_⟩;rintro _ rfl;rw[kS (by omega),show(i:Int)+1=((i+1:Nat):Int)by omega];have a8:oU (d.pend.take (i+1)) d.dur=lu (oU (d.pend.take i) d.dur) d.pend[i].1 (bb d.pend[i].2):=by
    rw[gE a7,zx]
   have b6:=Lg (cs:=O) (b:=oU (d.pend.take i) d.dur) (s:=bb d.pend[i].2) (o:=d.pend[i].1) (by rw[a2];exact a1) (by omega) (by omega);refine ih (i+1) _ (by omega) ?_ ?_ ?_
   ·rw[wm (by rw[nV];omega)];exact c1
   ·rw[a8,←b6,a2]
   ·rw[a8,qw (by omega)];exact a2
 refine go d.pend.length 0 _ (by omega) ?_ ?_ ?_
 ·simpa using b1
 ·show List.take d.vis.length (([]:List aa).take (0*1)++kU d.dur++r)=kU d.dur
  rw[List.take_nil,aT,fk (by rw[nV,a6])]
 ·exact a6
theorem XL {D:Nat}{d:DS}{F:aX}(h:mQ D d F)(b3:d.pend.length<1000000):lP TP 158 ⟨[DP D]⟩ F (uq D (.int .i64 d.sync.1) d.sync.2):=by
 intro W hm;obtain⟨M,SB,sc,cs,a7,a6,G,b1,a1,a2,a3,a4⟩:=h;have a5:=mj.sync M.ok;refine P0 D SB _ sc a7 _ a6 _ _ cs G (hm.perm b1.symm) ⟨fun O=>?_,fun O=>?_⟩
 ·have V:d.on=false:=by simpa using O
  rw[DS.sync,if_pos V];exact DK.fin ⟨rfl,M,SB,sc,cs,a7,a6,G,ah _,a1,a2,a3,a4⟩
 ·have V:¬d.on=false:=by simpa using O
  rw[DS.sync,if_neg V]at a5 ⊢;refine eA.lF (L1:=[]) (ER (D:=D) M a1 a2 a3 a4 b3) (by rw[aL]) ?_;rintro _ _ ⟨a8,a9,vs,rfl,rfl,k1,b4,b5⟩;refine⟨_,by rw[aL],a8,_,a9,vs,G,rfl,rfl,DK.fin ⟨rfl,⟨a5,rfl⟩,a8,a9,vs,none,0,(SB,.cells ⟨cs⟩ 5)::G,?_,k1,b4,b5,mb.nil⟩⟩;exact eS _ (dg _ _ _)
theorem NK {D:Nat}{d:DS}{F:aX}(h:mQ D d F)(b7:d.pend.length<1000000){off n:Int}(c6: -9223372036854775808≤off∧off≤9223372036854775807):
  lP TP 112 ⟨[DP D,.int .i64 off,.int .i64 n]⟩ F (uq D (.tuple #[.string (d.read off n).1,.int .i64 (d.read off n).2]) d):=by
 intro W hm;obtain⟨V,SB,sc,cs,O,M,G,a9,a2,a3,a4,a5⟩:=h;have c5:=V.ok.le;have same:mQ D d (pE D SB d.vis.length sc O d.pend.length M d.on d.cut::(SB,.cells ⟨cs⟩ 5)::G):=⟨V,SB,sc,cs,O,M,G,ah _,a2,a3,a4,a5⟩;refine Yf D off n SB _ sc O _ M _ _ cs G (hm.perm a9.symm) ⟨fun a6=>?_,fun a6=>?_⟩
 ·have a1:d.on=false:=by simpa using a6
  rw[DS.read,if_pos a1];exact DK.fin ⟨rfl,same⟩
 have a1:¬d.on=false:=by simpa using a6
 have bad:¬(0≤off∧0≤n∧off+n≤d.vis.length)→uq D (.tuple #[.string (d.read off n).1,.int .i64 (d.read off n).2]) d (.tuple #[.string ⟨#[]⟩,.int .i64 230]) (pE D SB d.vis.length sc O d.pend.length M d.on d.cut::(SB,.cells ⟨cs⟩ 5)::G):=fun hn=>by
  rw[DS.read,if_neg a1,if_neg hn];exact⟨rfl,same⟩
 refine⟨fun b1=>DK.fin (bad (by omega)),fun b1=>⟨fun b3=>DK.fin (bad (by omega)),fun b3=>⟨fun b4=>DK.fin (bad (by omega)),fun b4=>?_⟩⟩⟩;rw[kS (x:=(d.vis.length:Int)-off) (by omega)];refine⟨fun b5=>DK.fin (bad (by omega)),fun b5=>?_⟩;have b6:0≤off∧0≤n∧off+n≤d.vis.length:=by omega
 refine eA.lF (L1:=[]) (ER (D:=D) V a2 a3 a4 a5 b7) (by rw[aL]) ?_;rintro _ _ ⟨a7,c4,vs,rfl,rfl,k1,c7,c3⟩;refine⟨_,by rw[aL],a7,_,c4,vs,G,rfl,rfl,?_⟩;have a8:ab.wrap (off+n)=off+n:=kS (by omega)
 try dsimp only
 rw[a8];refine⟨by omega,fun o b9=>⟨(d.vis.drop off.toNat).take n.toNat,⟨?_,?_⟩,?_⟩⟩
 ·by_cases hn0:n=0
  ·have:(off+n).toNat-off.toNat=0:=by omega
   rw[this,hn0];simp[kU]
  ·have c2:o=off.toNat:=by rw[b9,if_neg (by omega)];omega
   have e1:(vs.drop o).take ((off+n).toNat-off.toNat)=((vs.take d.vis.length).drop o).take ((off+n).toNat-off.toNat):=by
    rw[gu,gv,dj (by omega)]
   rw[e1,c3,c2,show(off+n).toNat-off.toNat=n.toNat by omega];simp[kU]
 ·rw[ao,aZ];omega
 ·rintro _ rfl
  rw[DS.read,if_neg a1,if_pos b6];refine DK.fin ⟨rfl,V,SB,sc,cs,O,M,(a7,.cells ⟨vs⟩ 5)::G,ah _,a2,a3,a4,a5.more [_]⟩
abbrev zQ4aa (a:dF)(b x2 x3:Nat)(x4 x5 c:OA):Array aa:= #[IV a.n,IV a.time,IV a.kind,IV a.story,.string a.lang,IV a.rev,IV a.base,.string a.title,.string a.author,.slice x4 a.topics.length b,.slice x5 a.blocks.length x2,IV a.lab.unt,.slice c a.lab.after.length x3,IV a.lab.appr,IV a.lab.den,IV a.editor,IV a.block,IV a.sentence,.string a.text,.string a.name,IV a.partner,IV a.cls,IV a.unt]
noncomputable def AS (b:dF)(h:OA)(g:Nat)(f:OA)(e:Nat)(d:OA)(c:Nat)(k:Int)(a:Nat)(j:BA)(i:Int):Cut:=⟨TP,[],97,152,(KC Tryz.f97 14155732),[(2,PP a),(5,.string j),(6,IV i)],[(a,.cells (zQ4aa b g e c h f d) 38)]⟩
noncomputable def Bc (b:dF)(h:OA)(g:Nat)(f:OA)(e:Nat)(d:OA)(c:Nat)(k:Int)(a:Nat)(j:BA)(i:Int):Cut:=⟨TP,[],97,152,(KC Tryz.f97 226492372),[(2,PP a),(9,.string j),(10,IV i)],[(a,.cells (zQ4aa b g e c h f d) 38)]⟩
theorem KY (b:dF)(d:OA)(c:Nat)(j:OA)(i:Nat)(h:OA)(g:Nat)(n:Int)(f:Nat)(e:BA)(a:Int)(H:VP [] w0 R (.hp [(f,.cells (zQ4aa b c i g d j h) 38)] fun l=>.ru [5,200]<|.P 3 52 (a<(b.topics.length:Int)) (.ru [7,200]<|.r 1<|.x2 fun o k=>.iP d o k b.topics.length c 1 a (k+(ad a))<|.x2 fun q p=>.lW o (k+(ad a)) 9 q (.string p)<|.cl 0 127 [.string p] l<|.ex fun m=>.rt (.string m) l<|.cc e m<|.ls 1 5 (e++m) fun t=>.li 6 6 (ab.wrap (a+1)) fun s=>.ct 2 [0] (AS b d c j i h g n f t s))<|.re 7 (.string e) l)):AS b d c j i h g n f e a w0 R:=VC.go jz _ H
theorem L3 (a:dF)(m:OA)(l:Nat)(k:OA)(j:Nat)(f:OA)(e:Nat)(q:Int)(h:Nat)(c:BA)(b:Int)(H:VP [] w0 R (.hp [(h,.cells (zQ4aa a l j e m k f) 38)] fun d=>.ru [6,200]<|.P 3 91 (b<(a.lab.after.length:Int)) (.ru [8,200]<|.r 1<|.x2 fun p i=>.iP f p i a.lab.after.length e 1 b (i+(ad b))<|.x2 fun t s=>.lW p (i+(ad b)) 3 t (IV s)<|.cl 0 95 [IV s] d<|.ex fun n=>.rt (.string n) d<|.cc c n<|.ls 1 9 (c++n) fun w=>.li 6 10 (ab.wrap (b+1)) fun u=>.ct 2 [0] (Bc a m l k j f e q h w u))<|.r 3<|.dr 12<|.qu [3,100]<|.ex fun g=>.qc 95 [IV a.lab.appr] d (.string g)<|.cc c g<|.qu [2,100]<|.ex fun o=>.qc 95 [IV a.lab.den] d (.string o)<|.cc (c++g) o<|.qu [1]<|.pI 4 ((c++g)++o) fun x=>.dn<|.re 1 (.string x) d)):Bc a m l k j f e q h c b w0 R:=VC.go jz _ H
theorem Qz (b:dF)(i:OA)(h:Nat)(e:OA)(d:Nat)(g:OA)(f:Nat)(c:Int)(hm:Mem [] [] w0 W)(H:VP [] w0 R (.np 2 (.cells (zQ4aa b h d f i e g) 38) fun B=>.hp [(B,.cells (zQ4aa b h d f i e g) 38)] fun a=>.P 13 12 (c=115) (.ru [4,200]<|.cl 0 95 [IV b.story] a<|.ex fun l=>.rt (.string l) a<|.re 2 (.string l) a)<|.P 6 17 (c=108) (.ru [4,200]<|.cl 0 127 [.string b.lang] a<|.ex fun x=>.rt (.string x) a<|.re 2 (.string x) a)<|.P 6 22 (c=114) (.ru [4,200]<|.cl 0 95 [IV b.rev] a<|.ex fun y=>.rt (.string y) a<|.re 2 (.string y) a)<|.P 6 27 (c=97) (.ru [4,200]<|.cl 0 95 [IV b.base] a<|.ex fun z=>.rt (.string z) a<|.re 2 (.string z) a)<|.P 6 32 (c=116) (.ru [4,200]<|.cl 0 127 [.string b.title] a<|.ex fun A=>.rt (.string A) a<|.re 2 (.string A) a)<|.P 6 37 (c=117) (.ru [4,200]<|.cl 0 127 [.string b.author] a<|.ex fun C=>.rt (.string C) a<|.re 2 (.string C) a)<|.P 6 42 (c=111) (.ru [4,200]<|.cl 1 95 [IV (b.topics.length:Int)] a<|.ex fun D=>.rt (.string D) a<|.ct 9 [0] (AS b i h e d g f c B D 0))<|.P 6 64 (c=98) (.ru [4,200]<|.cl 0 128 [.slice e b.blocks.length d] a<|.x2 fun E G=>.rt (kBcq E G) a<|.cl 9 127 [.string E] a<|.ex fun m=>.rt (.string m) a<|.re 2 (.string m) a)<|.P 6 74 (c=76) (.r 2<|.dr 11<|.qu [2,100]<|.ex fun j=>.qc 95 [IV b.lab.unt] a (.string j)<|.qu [2,100,1]<|.ex fun k=>.qc 95 [IV (b.lab.after.length:Int)] a (.string k)<|.cc j k<|.qu [1]<|.pI 9 (j++k) fun F=>.dn<|.ct 8 [0] (Bc b i h e d g f c B F 0))<|.P 6 114 (c=101) (.ru [4,200]<|.cl 0 95 [IV b.editor] a<|.ex fun n=>.rt (.string n) a<|.re 2 (.string n) a)<|.P 6 119 (c=107) (.ru [4,200]<|.cl 0 95 [IV b.block] a<|.ex fun o=>.rt (.string o) a<|.re 2 (.string o) a)<|.P 6 124 (c=110) (.ru [4,200]<|.cl 0 95 [IV b.sentence] a<|.ex fun p=>.rt (.string p) a<|.re 2 (.string p) a)<|.P 6 129 (c=120) (.ru [4,200]<|.cl 0 127 [.string b.text] a<|.ex fun q=>.rt (.string q) a<|.re 2 (.string q) a)<|.P 6 134 (c=109) (.ru [4,200]<|.cl 0 127 [.string b.name] a<|.ex fun s=>.rt (.string s) a<|.re 2 (.string s) a)<|.P 6 139 (c=112) (.ru [4,200]<|.cl 0 95 [IV b.partner] a<|.ex fun t=>.rt (.string t) a<|.re 2 (.string t) a)<|.P 6 144 (c=99) (.ru [4,200]<|.cl 0 95 [IV b.cls] a<|.ex fun u=>.rt (.string u) a<|.re 2 (.string u) a)<|.ru [6,200]<|.cl 0 95 [IV b.unt] a<|.ex fun w=>.rt (.string w) a<|.re 2 (.string w) a)):aE TP 97 ⟨[.agg (zQ4aa b h d f i e g),.int .u8 c]⟩ W R:=VC.cs jz hm _ H
abbrev zQ5aa (a:dF)(b x2 x3:Nat)(x4 x5 c:OA):Array aa:= #[IV a.n,IV a.time,IV a.kind,IV a.story,.string a.lang,IV a.rev,IV a.base,.string a.title,.string a.author,.slice x4 a.topics.length b,.slice x5 a.blocks.length x2,IV a.lab.unt,.slice c a.lab.after.length x3,IV a.lab.appr,IV a.lab.den,IV a.editor,IV a.block,IV a.sentence,.string a.text,.string a.name,IV a.partner,IV a.cls,IV a.unt]
noncomputable def Ad (b:dF)(i:OA)(h:Nat)(f:OA)(e:Nat)(d:OA)(c a:Nat)(k g:BA)(j:Int):Cut:=⟨TP,[],57,40,(KC Tryz.f57 1012),[(1,PP a),(5,.string k),(6,.string g),(7,IV j)],[(a,.cells (zQ5aa b h e c i f d) 38)]⟩
theorem Il (c:dF)(i:OA)(h:Nat)(g:OA)(f:Nat)(e:OA)(d k:Nat)(j a:BA)(b:Int)(H:VP [] w0 R (.hp [(k,.cells (zQ5aa c h f d i g e) 38)] fun m=>.P 8 29 (b<(a.size:Int)) (.r 4<|.dr 8<|.qu [1,100,2]<|.ix a b<|.ex fun l=>.qc 97 [.agg (zQ5aa c h f d i g e),.int .u8 (k8 a b)] m (.string l)<|.cc j l<|.qu [1]<|.pI 5 (j++l) fun o=>.dn<|.li 6 7 (ab.wrap (b+1)) fun n=>.ct 2 [0] (Ad c i h g f e d k o a n))<|.re 8 (kCjq j) m)):Ad c i h g f e d k j a b w0 R:=VC.go Tryz.func57 _ H
theorem Xt (a:dF)(h:OA)(g:Nat)(f:OA)(e:Nat)(d:OA)(c:Nat)(hm:Mem [] [] w0 W)(H:VP [] w0 R (.np 2 (.cells (zQ5aa a g e c h f d) 38) fun B=>.hp [(B,.cells (zQ5aa a g e c h f d) 38)] fun b=>.ru [5,200]<|.cl 0 94 [.agg (zQ5aa a g e c h f d)] b<|.ex fun l=>.rt (.bool l) b<|.B 6 10 l (.r 5<|.dr 12<|.qu [1,100]<|.ex fun i=>.qc 95 [IV a.n] b (.string i)<|.qu [1,100]<|.ex fun j=>.qc 95 [IV a.time] b (.string j)<|.cc i j<|.qu [1,100]<|.ex fun k=>.qc 95 [IV a.kind] b (.string k)<|.cc (i++j) k<|.qu [1]<|.pI 5 ((i++j)++k) fun o=>.dn<|.ru [4,200]<|.cl 0 96 [IV a.kind] b<|.ex fun m=>.rt (.string m) b<|.ct 9 [0] (Ad a h g f e d c B o m 0))<|.re 8 (.tuple #[sZ,IV 50]) b)):aE TP 57 ⟨[.agg (zQ5aa a g e c h f d)]⟩ W R:=VC.cs Tryz.func57 hm _ H
theorem PR (a:BA)(hm:Mem [] [] w0 W)(H:VP [] w0 R (.cl 7 93 [.string a] []<|.ex fun c=>.rt (IV c) []<|.cl 0 55 [IV c] []<|.x2 fun b d=>.rt (kBcq b d) []<|.r 9<|.cc (⟨#[1]⟩) a<|.r 1<|.cc ((⟨#[1]⟩:BA)++a) b<|.ls 1 2 (((⟨#[1]⟩:BA)++a)++b) fun e=>.re 1 (.string e) [])):aE TP 56 ⟨[.string a]⟩ W R:=VC.cs Tryz.func56 hm _ H
theorem Vh (gen:Int)(hm:Mem [] [] w0 W)(H:VP [] w0 R (.cl 7 55 [IV gen] []<|.x2 fun a c=>.rt (kBcq a c) []<|.cl 9 56 [.string a] []<|.ex fun b=>.rt (.string b) []<|.re 2 (.string b) [])):aE TP 18 ⟨[IV gen]⟩ W R:=VC.cs Tryz.func18 hm _ H
theorem Qs (b:dF)(h:OA)(g:Nat)(f:OA)(e:Nat)(d:OA)(c:Nat)(hm:Mem [] [] w0 W)(H:VP [] w0 R (.np 2 (.cells (zQ5aa b g e c h f d) 38) fun B=>.hp [(B,.cells (zQ5aa b g e c h f d) 38)] fun a=>.ru [4,200]<|.cl 0 57 [.agg (zQ5aa b g e c h f d)] a<|.x2 fun i l=>.rt (kBcq i l) a<|.cl 9 58 [.string i] a<|.x2 fun j m=>.rt (kBcq j m) a<|.cl 9 56 [.string j] a<|.ex fun k=>.rt (.string k) a<|.re 2 (.string k) a)):aE TP 19 ⟨[.agg (zQ5aa b g e c h f d)]⟩ W R:=VC.cs Tryz.func19 hm _ H
theorem OV (a:Int)(hm:Mem [] [] w0 W)(H:VP [] w0 R (.r 7<|.mk' false 5 .i64 .i64 a a (.int .u8 0) 1 fun B=>.ex fun(b:List UInt8)=>.tG 0 B 5 0 (ad a) (ad a) (aA (ad a) (.int .u8 0)) b<|.ls 1 2 (⟨b.toArray⟩) fun c=>.re 1 (.string c) [(B,.cells ⟨(aA (ad a) (.int .u8 0))⟩ 5)])):aE TP 27 ⟨[IV a]⟩ W R:=VC.cs Tryz.func27 hm _ H
section put
variable {W:World}{f:dF}{tp bp ap:Option Addr}{tc bc ac B:Nat}{c:Int}{w0:World}{R:Ending→World→Prop}
theorem I5 (h:nh (kY w0) tp f.topics)(M:f.topics.length≤4∧∀s∈f.topics,s.size≤65536)(HR:∀L v,Fin R [] [] w0 v→Fin R L [] w0 v)(H:Fin R [] [] w0 (.string (ba (f.put .topics)))):
  ∀(g i:Nat),g+i=f.topics.length→AS f tp tc bp bc ap ac c B (ba (Wire.enc (f.topics.length:Int)++(f.topics.take i).flatMap fun s:BA=>lL (bb s))) (i:Int) w0 R
 |0,i,hg=>by
  apply KY;refine no (by omega) (HR _ _ (lD H ?_));rw[aK (by omega)];rfl
 | g+1,i,hg=>by
  apply KY;have hi:i<f.topics.length:=by omega
  obtain⟨b,o,cc,e1,V,a1⟩:=h.get hi;have a3:=M.2 _ (bH hi);have a6:=M.1;have a2:=rj (e:=fun s:BA=>lL (bb s)) (m:=65546) (f.topics.take i) (fun x a4=>by
   have:=M.2 x (ft a4);have O:=pd (bb x);rw[lB]at O;omega)
  rw[ao]at a2;have hm:65546*min i f.topics.length≤65546*4:=eo _ (by omega);have O:=pd (bb f.topics[i]);rw[lB]at O;have a5:=lx (f.topics.length:Int);refine yes (by omega) ⟨b,o,e1,by omega,cc,f.topics[i],V,by simpa using a1,eA.pure (u9 a3) ⟨_,rfl,rfl,by rw[yB];simp only[lY,ae];omega,?_⟩⟩;rintro _ rfl _ rfl;rw[yB,oB,kS (by omega),show(i:Int)+1=((i+1:Nat):Int)by omega];have:=I5 h M HR H g (i+1) (by omega);rw[zg hi,←an]at this;exact this
theorem Mc (h:lX (kY w0) ap f.lab.after)(M:oF .label f.lab)(HR:∀L v,Fin R [] [] w0 v→Fin R L [] w0 v)(H:Fin R [] [] w0 (.string (ba (f.put .label)))):
  ∀(g i:Nat),g+i=f.lab.after.length→Bc f tp tc bp bc ap ac c B (ba (Wire.enc f.lab.unt++Wire.enc (f.lab.after.length:Int)++nO (f.lab.after.take i))) (i:Int) w0 R
 |0,i,hg=>by
  apply L3;obtain⟨a9,a5,b1,a6,a7⟩:=M;have a2:=lx f.lab.unt;have a3:=lx (f.lab.after.length:Int);have O:=tL f.lab.after;have a4:=lx f.lab.appr;have a8:=lx f.lab.den;rw[aK (by omega)];refine no (by omega) ⟨_,lV.of (oV a6),by simp only[lY,ae];omega,_,lV.of (oV a7),?_⟩;rw[oB];refine⟨by simp only[lY,ae];omega,?_⟩;rintro _ rfl;rw[oB];refine HR _ _ (lD H ?_);show _=iH (ba (Wire.enc f.lab.unt++(Wire.enc (f.lab.after.length:Int)++(f.lab.after.flatMap Wire.enc++(Wire.enc f.lab.appr++Wire.enc f.lab.den)))));simp only[an,nO]
 |g+1,i,hg=>by
  apply L3;have hi:i<f.lab.after.length:=by omega
  obtain⟨b,o,cc,e1,V,a1⟩:=h.get hi;have a2:=lx f.lab.unt;have a3:=lx (f.lab.after.length:Int);have O:=tL (f.lab.after.take i);have a4:=lx f.lab.after[i];rw[ao]at O;have a5:f.lab.after.length≤64:=M.2.1;refine yes (by omega) ⟨b,o,e1,by omega,cc,f.lab.after[i],V,by simpa using a1,eA.pure (oV (M.2.2.1 _ (bH hi))) ⟨_,rfl,rfl,by simp only[lY,ae];omega,?_⟩⟩;rintro _ rfl _ rfl;rw[oB,kS (by omega),show(i:Int)+1=((i+1:Nat):Int)by omega];have:=Mc h M HR H g (i+1) (by omega);rw[DN hi,←an]at this;exact this
theorem VI (h:lv (kY W) f tp tc bp bc ap ac)(M:oF (mz c).ty (f.get (mz c))):PW TP 97 ⟨[.agg ⟨f.cells tp tc bp bc ap ac⟩,.int .u8 c]⟩ W (.string (ba (f.put (mz c)))):=by
 refine Qz f tp tc bp bc ap ac c (Mem.start [] W) fun B=>?_
 have S:∀s:BA,(iH (s5 s))=.string (ba (lL (bb s))):=fun s=>by rw[yB]
 refine⟨fun k=>?_,fun k1=>⟨fun k=>?_,fun a9=>⟨fun k=>?_,fun b1=>⟨fun k=>?_,fun b3=>⟨fun k=>?_,fun b4=>⟨fun k=>?_,fun b5=>⟨fun k=>?_,fun b6=>⟨fun k=>?_,fun b7=>⟨fun k=>?_,fun b9=>⟨fun k=>?_,fun a2=>⟨fun k=>?_,fun a3=>⟨fun k=>?_,fun a4=>⟨fun k=>?_,fun a5=>⟨fun k=>?_,fun a6=>⟨fun k=>?_,fun a7=>⟨fun k=>?_,fun a8=>?_⟩⟩⟩⟩⟩⟩⟩⟩⟩⟩⟩⟩⟩⟩⟩⟩
 ·subst k;exact eA.pure (oV (n:=f.story) M) ⟨_,rfl,rfl,kQ rfl⟩
 ·subst k;exact eA.pure (u9 (s:=f.lang) M) ⟨_,rfl,rfl,kQ (S f.lang)⟩
 ·subst k;exact eA.pure (oV (n:=f.rev) M) ⟨_,rfl,rfl,kQ rfl⟩
 ·subst k;exact eA.pure (oV (n:=f.base) M) ⟨_,rfl,rfl,kQ rfl⟩
 ·subst k;exact eA.pure (u9 (s:=f.title) M) ⟨_,rfl,rfl,kQ (S f.title)⟩
 ·subst k;exact eA.pure (u9 (s:=f.author) M) ⟨_,rfl,rfl,kQ (S f.author)⟩
 ·subst k
  have M:f.topics.length≤4∧∀s∈f.topics,s.size≤65536:=M;refine eA.pure (oV (mg (by omega))) ⟨_,rfl,rfl,?_⟩;have:=I5 (tc:=tc) (bp:=bp) (bc:=bc) (ap:=ap) (ac:=ac) (B:=B) (c:=111) h.tops M (tY (u:=.string (ba (f.put .topics)))) (kQ rfl) f.topics.length 0 (by omega);rw[dN,List.flatMap_nil,aL]at this;exact this
 ·subst k
  have M:m9 f.blocks=true:=M;have a1:=yA M;refine eA.pw (fun V O=>WE (h.blks.mono (lK O))) ⟨_,_,if_pos M,rfl,eA.pure (u9 (by rw[lY];omega)) ⟨_,rfl,rfl,kQ ?_⟩⟩;rw[S,mA];rfl
 ·subst k
  have M:oF .label f.lab:=M;have c4:f.lab.after.length≤64:=M.2.1;have c2:=lx f.lab.unt;have c3:=lx (f.lab.after.length:Int);refine⟨_,lV.of (oV M.1),_,lV.of (oV (mg (by omega))),by simp only[lY];omega,?_⟩;rintro _ rfl;rw[oB];have:=Mc (tp:=tp) (tc:=tc) (bp:=bp) (bc:=bc) (ac:=ac) (B:=B) (c:=76) h.ints M (tY (u:=.string (ba (f.put .label)))) (kQ rfl) f.lab.after.length 0 (by omega);rw[dN,show nO []=[]from rfl,aL]at this;exact this
 ·subst k;exact eA.pure (oV (n:=f.editor) M) ⟨_,rfl,rfl,kQ rfl⟩
 ·subst k;exact eA.pure (oV (n:=f.block) M) ⟨_,rfl,rfl,kQ rfl⟩
 ·subst k;exact eA.pure (oV (n:=f.sentence) M) ⟨_,rfl,rfl,kQ rfl⟩
 ·subst k;exact eA.pure (u9 (s:=f.text) M) ⟨_,rfl,rfl,kQ (S f.text)⟩
 ·subst k;exact eA.pure (u9 (s:=f.name) M) ⟨_,rfl,rfl,kQ (S f.name)⟩
 ·subst k;exact eA.pure (oV (n:=f.partner) M) ⟨_,rfl,rfl,kQ rfl⟩
 ·subst k;exact eA.pure (oV (n:=f.cls) M) ⟨_,rfl,rfl,kQ rfl⟩
 ·have e:mz c=.unt:=by simp only[mz, *,if_false]
  rw[e]at M ⊢;exact eA.pure (oV (n:=f.unt) M) ⟨_,rfl,rfl,kQ rfl⟩
theorem MA (h:lv (kY W) f tp tc bp bc ap ac)(M:f.Good):∀(g i:Nat),g+i=(k6 f.kind).length→
  Ad f tp tc bp bc ap ac B (ba (f.head++((k6 f.kind).take i).flatMap f.put)) (nM f.kind) (i:Int) W (fun e O=>e=.returned (.tuple #[.string (ba (mE f)),.int .i64 0])∧Below W.heap.size W O)
 |0,i,hgi=>by
  apply Il;have a4:=tm f.kind;rw[aK (by omega)];exact no (by omega) (kQ rfl)
 |g+1,i,hgi=>by
  apply Il;have a4:=tm f.kind;have a9:=xk f.kind;have hi:i<(k6 f.kind).length:=by omega
  have V:=DI hi;have a1:=M.fields _ (bH hi);have a2:=rj (e:=f.put) (m:=400000) ((k6 f.kind).take i) (fun x a5=>BV (M.fields x (ft a5)));rw[ao]at a2;have hm:400000*min i (k6 f.kind).length≤400000*9:=eo _ (by omega);have hp:=BV a1;have a6:=lx f.n;have a7:=lx f.time;have a8:=lx f.kind;have b1:f.head.length≤30:=by rw[dF.head];simp only[ae];omega
  refine yes (by omega) ⟨by omega,_,lV.pw fun O a3=>VI (h.mono (lK a3)) (by rw[V];exact a1),?_⟩;rw[V];refine⟨by simp only[lY,ae];omega,?_⟩;rintro _ rfl _ rfl;rw[oB,kS (by omega),show(i:Int)+1=((i+1:Nat):Int)by omega];have:=MA h M g (i+1) (by omega);rw[zg hi,←an]at this;exact this
theorem YL (h:lv (kY W) f tp tc bp bc ap ac):PW TP 57 ⟨[.agg ⟨f.cells tp tc bp bc ap ac⟩]⟩ W (u6 f):=by
 refine Xt f tp tc bp bc ap ac (Mem.start [] W) fun B=>eA.pw (fun a1 V=>DL (h.mono (lK V))) ⟨_,rfl,rfl,fun O=>?_,fun O=>kQ (by rw[u6,O];rfl)⟩
 have M:=dF.ot O;have i1:=M.n;have a5:=M.time;have a6:=M.kind;have a2:=lx f.n;have a3:=lx f.time;have a4:=lx f.kind;refine⟨_,lV.of (oV (mg (by omega))),_,lV.of (oV (mg (by omega))),by simp only[lY];omega,_,lV.of (oV (mg (by omega))),?_⟩;rw[oB];refine⟨by simp only[lY,ae];omega,?_⟩;rintro _ rfl;rw[oB];refine eA.pure (Dm _) ⟨_,rfl,rfl,?_⟩;have:=MA (B:=B) h M (k6 f.kind).length 0 (by omega);rw[u6,if_pos O];simpa[dF.head]using this
end put
theorem Ng {s:BA}(O:s.size<4611686018427387904):l9 TP 56 ⟨[.string s]⟩ (.string (ba (mD (bb s)))):=fun W=>by
 have hc:=CW (bb s);have M:=lx (n7 (bb s):Int);have a1:(od (n7 (bb s):Int)).size≤10:=by rw[vz];exact M
 refine PR s (Mem.start [] W) (eA.pure (Eh s O) ⟨_,rfl,rfl,eA.pure (xn _) ⟨od (n7 (bb s):Int),0,if_pos (mg (by omega)),rfl,by show 1+s.size≤_;omega,by rw[ByteArray.size_append];show 1+s.size+_≤_;omega,fun t V=>lf ?_⟩⟩);rw[V];refine congrArg iH ?_;apply tD;rw[w3,w3,ta];exact Eq.trans rfl (mA (mD (bb s))).symm
theorem D9 {g:Int}(h:lU g):l9 TP 18 ⟨[.int .i64 g]⟩ (.string (ba (lA g))):=fun W=>by
 have M:=lx g;have O:(od g).size≤10:=by rw[vz];exact M
 refine Vh g (Mem.start [] W) (eA.pure (xn _) ⟨od g,0,if_pos h,rfl,eA.pure (Ng (by omega)) ⟨_,rfl,rfl,lf ?_⟩⟩);rw[ta];rfl
theorem Hz {W:aj}{f:dF}{tp bp ap:OA}{tc bc ac:Nat}(h:lv (kY W) f tp tc bp bc ap ac)(M:f.ok=true):
  PW TP 19 ⟨[.agg ⟨f.cells tp tc bp bc ap ac⟩]⟩ W (.string (ba (lJ f))):=by
 refine Qs f tp tc bp bc ap ac (Mem.start [] W) fun B=>eA.pw (fun a2 V=>YL (h.mono (lK V))) ⟨ba (mE f),0,Mu M,rfl,?_⟩
 have a3:=A5 M;have a1:(ba (mE f)).size≤65536:=by rw[lY];omega
 refine eA.pure (E7 _) ⟨s5 (ba (mE f)),0,if_pos a1,rfl,?_⟩;have O:(s5 (ba (mE f))).size<4611686018427387904:=by
  have:=pd (mE f);rw[←lB,zm,mA];omega
 refine eA.pure (Ng O) ⟨_,rfl,rfl,kQ ?_⟩;rw[zm,mA];rfl
theorem yZ {n:Nat}(h:n≤100000000):l9 TP 27 ⟨[.int .i64 n]⟩ (.string (ba (aA n 0))):=fun W=>by
 refine OV n (Mem.start [] W) ⟨by omega,fun B=>⟨aA n 0,⟨?_,by simp⟩,fun t M=>lf ?_⟩⟩
 ·rw[aU,ai,aK (by simp)];simp[kU]
 ·rw[M]
theorem Rk (off:Int)(a:BA)(hm:Mem [] [] w0 W)(H:VP [] w0 R (.r 5<|.dr 11<|.qu [3]<|.ss a 1 (a.size:Int)<|.qu [4]<|.ss a 0 1<|.qu [2]<|.dn<|.ns false 4 (.cells #[IV (ab.wrap (off+1)),.string (a.extract (ad 1) a.size),IV (-1:Int),sZ,IV off,.string (a.extract 0 (ad 1)),IV (-1:Int),sZ] 176) fun B=>.re 2 (.slice (SO B) 4 4) [(B,.cells #[IV (ab.wrap (off+1)),.string (a.extract (ad 1) a.size),IV (-1:Int),sZ,IV off,.string (a.extract 0 (ad 1)),IV (-1:Int),sZ] 176)])):aE TP 115 ⟨[IV off,.string a]⟩ W R:=VC.cs Tryz.func115 hm _ H
theorem Sl (a:BA)(hm:Mem [] [] w0 W)(H:VP [] w0 R (.cl 9 27 [IV (a.size:Int)] []<|.ex fun b=>.rt (.string b) []<|.re 3 (.bool (!(a.toList==b.toList))) [])):aE TP 114 ⟨[.string a]⟩ W R:=VC.cs Tryz.func114 hm _ H
abbrev kAdq (x0 x1 x2 x3 x4 x5 x6 x7 x8 x9):=((x0,.cells #[PP x1,IV x2,IV x3,IV x4,IV x5,.slice x6 x7 x8,.bool x9] 72):Nat×Obj)
theorem QY (K b:Nat)(sz d gen a:Int)(g:OA)(f e:Nat)(c:Bool)(hm:Mem [(kAdq K b sz d gen a g f e c)] S w0 W)(H:VP S w0 R (.r 5<|.dr 10<|.qu [3,100,3,100,2]<|.oY 2 (ab.wrap (sz-a)) fun h=>.dn<|.re 1 (IV h) [(kAdq K b sz d gen a g f e c)])):aE TP 38 ⟨[PP K]⟩ W R:=VC.cs Tryz.func38 hm _ H
noncomputable def wK (k:Nat)(sz c gen d:Int)(g:OA)(f e:Nat)(l:Bool)(K:Nat)(b:OA)(cl cc B:Nat)(h:Int)(i:Nat)(j:Bool)(a:aX)(S:List Nat):Cut:=⟨TP,S,116,45,(KC Tryz.f116 52),[(0,PP B),(1,.slice b cl cc),(5,IV h)],((B,.cells #[PP i,IV sz,IV c,IV gen,IV d,.slice g f e,.bool j] 72)::a)⟩
abbrev kDkq (x0 x1 x2 x3 x4 x5 x6 x7 x8 x9 x10):=((kAdq x0 x1 x2 x3 x4 x5 x6 x7 x8 x9)::x10:aX)
theorem KN (k:Nat)(sz c gen d:Int)(g:OA)(f e:Nat)(n:Bool)(K:Nat)(h:OA)(cl cc B:Nat)(a:Int)(b:Nat)(j:Bool)(t:aX)(H:VP S w0 R (.hp (kDkq B b sz c gen d g f e j t) fun i=>.P 8 10 (a<(cl:Int)) (.r 13<|.x2 fun u o=>.iP h u o cl cc 2 a (o+((ad a)*2))<|.r 1<|.x2 fun C y=>.lT i u (o+((ad a)*2)) 3 C (IV y)<|.P 2 18 (y<0) (.ru [5,200]<|.cl 0 158 [PP b] i<|.x2 fun l re=>.rt (IV re) (kDkq B b sz c gen d g f e j l)<|.I 7 40 (re=0) (.ru [6,200]<|.re 6 (IV re) ((B,.cells #[PP b,IV sz,IV c,IV gen,IV d,.slice g f e,.bool true] 72)::l))<|.li 7 5 (ab.wrap (a+1)) fun F=>.cT 2 [0] 1 (wK k sz c gen d g f e n K h cl cc B F b j l S))<|.r 1<|.dr 14<|.qu [3,100,2]<|.x2 fun w p=>.iP h w p cl cc 2 a (p+((ad a)*2))<|.qu [1]<|.x2 fun D z=>.lT i w (p+((ad a)*2)) 3 D (IV z)<|.qu [2]<|.x2 fun x q=>.iP h x q cl cc 2 a (q+((ad a)*2))<|.qu [1]<|.x2 fun E A=>.lT i x ((q+((ad a)*2))+1) 9 E (.string A)<|.dn<|.cl 0 36 [PP b,IV z,.string A] i<|.x2 fun m s=>.rt (IV s) (kDkq B b sz c gen d g f e j m)<|.I 7 40 (s=0) (.ru [6,200]<|.re 6 (IV s) ((B,.cells #[PP b,IV sz,IV c,IV gen,IV d,.slice g f e,.bool true] 72)::m))<|.li 7 5 (ab.wrap (a+1)) fun G=>.cT 2 [0] 1 (wK k sz c gen d g f e n K h cl cc B G b j m S))<|.re 6 (IV 0) i)):wK k sz c gen d g f e n K h cl cc B a b j t S w0 R:=VC.go Tryz.func116 _ H
theorem S7 (K:Nat)(d:OA)(cl cc a:Nat)(sz e gen f:Int)(i:OA)(h g:Nat)(b:Bool)(c:aX)(hm:Mem (kDkq K a sz e gen f i h g b c) S w0 W)(H:VP S w0 R (.cT 11 [0] 1 (wK a sz e gen f i h g b K d cl cc K 0 a b c S))):aE TP 116 ⟨[PP K,.slice d cl cc]⟩ W R:=VC.cs Tryz.func116 hm _ H
abbrev kJ (K D:Nat)(j:JS):Nat×Obj:=(K,.cells #[.pointer (SO D),.int .i64 j.sz,.int .i64 j.cu,.int .i64 j.gen,.int .i64 j.en,.slice j.fp j.fl j.fc,.bool j.br] 72)
def qq:lC→List aa
 | .sync=>[.int .i64 (-1),.string e0]
 | .write o s=>[.int .i64 o,.string s]
abbrev pL (ops:List lC):List aa:=ops.flatMap qq
def lC.pos:lC→Prop
 | .sync=>True
 | .write o _=>0≤o
abbrev uX (ops:List lC)(p:OA)(c:Nat)(G:aX):Prop:=mb 176 2 ops.length (pL ops) p c G
theorem Dk (o:lC):(qq o).length=2:=by cases o<;>rfl
theorem MZ (a b:List lC):pL (a++b)=pL a++pL b:=by simp[pL]
theorem HN:∀(l:List lC) (i:Nat) (h:i<l.length),((pL l).drop (i*2)).take 2=qq (l[i]'(h))
 |o::r,0,_=>by
  show((qq o++pL r).drop 0).take 2=qq o;rw[aU,fk (Dk o)]
 |o::r,i+1,h=>by
  have e:(i+1)*2=2+i*2:=by omega
  show((qq o++pL r).drop ((i+1)*2)).take 2=_;rw[e,←cV,List.drop_left' (Dk o)];exact HN r i (by simpa using h)
theorem Zi {ops:List lC}{p:OA}{c:Nat}{G:aX}(h:uX ops p c G){i:Nat}(hi:i<ops.length):
  ∃Q cs,p=some ⟨Q,0,none⟩∧(∃t fz,(Q,bu ⟨cs⟩ t fz)∈G)∧(cs.drop (0+i*2)).take 2=qq (ops[i]'(hi)):=by
 obtain⟨Q,cs,M,O,V,a1⟩:=h.get hi;exact⟨Q,cs,M,O,by rw[V];exact HN ops i hi⟩
def AV (K D:Nat)(j:JS)(X:aX)(r:Int×DS)(v:aa)(L':aX):Prop:=∃F',v=.int .i64 r.1∧L'=kJ K D (j.after r.1)::(F'++X)∧mQ D r.2 F'
theorem Av {x:Nat×Obj}{F X:aX}{Q:Nat}{cs:List aa}(h:∃t fz,(Q,bu ⟨cs⟩ t fz)∈X):∃t fz,(Q,bu ⟨cs⟩ t fz)∈x::(F++X):=by
 obtain⟨t,fz,h⟩:=h;exact⟨t,fz,ag _ (ak _ h)⟩
section krun
variable {K D:Nat}{X:aX}{ops:List lC}{p:Option Addr}{c:Nat}{j:JS}
theorem AY {x:Nat×Obj}{F X:aX}:(F++(x::X)).Perm (x::(F++X)):=cI
theorem JI (a7:uX ops p c X)(a8:ops.length≤1000)(a6:∀o∈ops,o.pos){w0:aj}{S:List Nat}{r:Int×DS}:
  ∀(g i:Nat) (d:DS) (F:aX),g+i=ops.length→mQ D d F→d.pend.length+g<1000000→ln (ops.drop i) d=r→
   wK D j.sz j.cu j.gen j.en j.fp j.fl j.fc j.br K p ops.length c K (i:Int) D j.br (F++X) S w0 (fun e V=>∃v L',e=.returned v∧Mem L' S w0 V∧AV K D j X r v L')
 |0,i,d,F,hg,hd,hp,hr=>by
  apply KN;rw[ax (by omega)]at hr;subst hr;exact no (by omega) (kR ⟨F,rfl,rfl,hd⟩)
 | g+1,i,d,F,hg,hd,hp,hr=>by
  apply KN;have hi:i<ops.length:=by omega
  obtain⟨Q,cs,e1,a2,a3⟩:=Zi a7 hi;rw[aG hi,ln]at hr;have a5:=a6 _ (bH hi);have a9:=ya (ops[i]'(hi)) d;have next:∀(F':aX),mQ D ((ops[i]'(hi)).run d).2 F'→(((ops[i]'(hi)).run d).1=0→wK D j.sz j.cu j.gen j.en j.fp j.fl j.fc j.br K p ops.length c K (ab.wrap ((i:Int)+1)) D j.br (F'++X) S w0 (fun e V=>∃v L',e=.returned v∧Mem L' S w0 V∧AV K D j X r v L'))∧
    (¬((ops[i]'(hi)).run d).1=0→Fin (fun e V=>∃v L',e=.returned v∧Mem L' S w0 V∧AV K D j X r v L') ((K,.cells #[.pointer (SO D),.int .i64 j.sz,.int .i64 j.cu,.int .i64 j.gen,.int .i64 j.en,.slice j.fp j.fl j.fc,.bool true] 72)::(F'++X)) S w0 (.int .i64 ((ops[i]'(hi)).run d).1)):=by
   intro F' O;refine⟨fun M=>?_,fun M=>?_⟩
   ·rw[if_pos M]at hr
    rw[kS (by omega),show(i:Int)+1=((i+1:Nat):Int)by omega];exact JI a7 a8 a6 g (i+1) _ F' (by omega) O (by omega) hr
   ·rw[if_neg M]at hr
    refine kR ⟨F',by rw[←hr],?_,by rw[←hr];exact O⟩;rw[←hr,JS.after,if_neg M]
  cases ho:(ops[i]'(hi))with
  |sync=>
   rw[ho]at next a3
   obtain⟨a1,a4⟩:=Af a3;refine yes (by omega) ⟨Q,0,e1,by omega,cs,-1,Av a2,by rw[ai];exact a1,yes (by omega) ?_⟩;refine eA.lF (L0:=F) (L1:=kJ K D j::X) (XL hd (by omega)) AY ?_;rintro _ F' ⟨rfl,O⟩;refine⟨kJ K D j::(F'++X),AY,_,_,rfl,rfl,fun M=>(next F' O).2 M,fun M=>?_⟩;rintro _ rfl;exact(next F' O).1 M
  |write o s=>
   rw[ho]at next a3 a5
   obtain⟨a1,a4⟩:=Af a3;have M:0≤o:=a5;refine yes (by omega) ⟨Q,0,e1,by omega,cs,o,Av a2,by rw[ai];exact a1,no (by omega) ?_⟩;refine⟨Q,0,e1,by omega,cs,o,Av a2,by rw[ai];exact a1,Q,0,e1,by omega,cs,s,Av a2,by rw[ai];exact a4,?_⟩;refine eA.lF (L0:=F) (L1:=kJ K D j::X) (Ar hd (by omega)) AY ?_;rintro _ F' ⟨rfl,O⟩;refine⟨kJ K D j::(F'++X),AY,_,_,rfl,rfl,fun M=>(next F' O).2 M,fun M=>?_⟩;rintro _ rfl;exact(next F' O).1 M
theorem DO (a1:uX ops p c X)(O:ops.length≤1000)(V:∀o∈ops,o.pos){d:DS}{F:aX}(M:mQ D d F)(hp:d.pend.length<900000):
  lP TP 116 ⟨[pt K 0,.slice p ops.length c]⟩ (kJ K D j::(F++X)) (AV K D j X (ln ops d)):=by
 intro W hm;exact S7 K p ops.length c D j.sz j.cu j.gen j.en j.fp j.fl j.fc j.br (F++X) hm (JI a1 O V ops.length 0 d F (by omega) M (by omega) (by rw[aU]))
end krun
theorem Dx {off:Int}{s:BA}(O:1≤s.size)(M:0≤off∧off≤4611686018427387904):
  lP TP 115 ⟨[.int .i64 off,.string s]⟩ [] (fun v L'=>∃p c,v=.slice p 4 c∧uX (l8 off s) p c L'):=by
 intro W hm;refine Rk off s hm ⟨by omega,by omega,fun B=>kR ⟨some ⟨B,0,none⟩,4,rfl,aD _,rfl,.inr ⟨B,_,[],rfl,ah _,rfl,?_⟩⟩⟩;rw[kS (by omega)];rfl
theorem DF {s:BA}(V:s.size≤100000000):l9 TP 114 ⟨[.string s]⟩ (.bool (!(bb s).all (fun b=>b==0))):=fun W=>by
 refine Sl s (Mem.start [] W) (eA.pure (yZ (n:=s.size) V) ⟨_,rfl,rfl,lf ?_⟩);congr 1;have O:=lB s;have e:(s.toList==(ba (aA s.size 0)).toList)=(bb s).all (fun b=>b==0):=by
  rw[fL,uZ,List.all_eq_true];constructor
  ·intro h b M
   rw[h,mA]at M;rw[List.eq_of_mem_replicate M];rfl
  ·intro h
   apply tD;rw[mA,←O];exact List.eq_replicate_iff.2 ⟨rfl,fun b M=>by simpa using h b M⟩
 rw[e]
abbrev zO9aa (a:dF)(b x2 x3:Nat)(x4 x5 c:OA):Array aa:= #[IV a.n,IV a.time,IV a.kind,IV a.story,.string a.lang,IV a.rev,IV a.base,.string a.title,.string a.author,.slice x4 a.topics.length b,.slice x5 a.blocks.length x2,IV a.lab.unt,.slice c a.lab.after.length x3,IV a.lab.appr,IV a.lab.den,IV a.editor,IV a.block,IV a.sentence,.string a.text,.string a.name,IV a.partner,IV a.cls,IV a.unt]
abbrev zO9ab:Array aa:= #[.bool false,.bool false,IV 0,.slice none 0 0,IV 0]
abbrev yO9aa (a b:Nat)(x2:aX):aX:=(a,.cells #[.bool true,.bool true,IV 0,.slice none 0 0,IV 0] 172)::(b,.cells #[.bool true,.bool true,IV 0,.slice none 0 0,IV 0] 172)::x2
noncomputable def zT (a b c:Nat)(C:BA)(e h:Bool)(k:Int)(x:OA)(w u:Nat)(y:Int)(f i:Bool)(l:Int)(p:OA)(o n:Nat)(z:Int)(g j:Bool)(m:Int)(t:OA)(s q:Nat)(A:Int)(d:aX)(S:List Nat):Cut:=⟨TP,S,113,142,(KC Tryz.f113 4088),[(0,.string C),(2,PP a),(3,PP b),(10,PP c)],((a,.cells #[.bool e,.bool h,IV k,.slice x w u,IV y] 172)::(b,.cells #[.bool f,.bool i,IV l,.slice p o n,IV z] 172)::(c,.cells #[.bool g,.bool j,IV m,.slice t s q,IV A] 172)::d)⟩
abbrev kAfq (x0 x1 x2 x3 x4 x5 x6 x7):=((x0,.cells #[.bool x1,.bool x2,IV x3,.slice x4 x5 x6,IV x7] 172):Nat×Obj)
abbrev kCcq (x0 x1 x2 x3 x4 x5 x6):=(.agg #[.bool x0,.bool x1,IV x2,.slice x3 x4 x5,IV x6]:aa)
theorem Zp (q s t:Nat)(x:BA)(A C:Bool)(D:Int)(G:OA)(F E:Nat)(M:Int)(b c:Bool)(d:Int)(g:OA)(f e:Nat)(h:Int)(k l:Bool)(m:Int)(p:OA)(j o:Nat)(i:Int)(N:aX)(H:VP S w0 R (.hp ((kAfq q A C D G F E M)::(kAfq s b c d g f e h)::(kAfq t k l m p j o i)::N) fun U=>.ru [4,202]<|.P 4 68 (i<(x.size:Int)) (.ru [2,202]<|.ix x i<|.I 3 74 ((k8 x i)=0) (.ru [7,202]<|.cl 1 156 [.string x,IV (ab.wrap (i+1))] U<|.x3 fun a4 Q Z=>.rt (kDxq a4 Q Z) U<|.ru [13,202]<|.ix x i<|.I 2 89 ((k8 x i)=1) (.ru [7,201,200]<|.r 1<|.rc 0 0 (kCcq b c d g f e h) ((kAfq q b c d g f e h)::(kAfq s b c d g f e h)::(kAfq t k l m p j o i)::N))<|.I 4 92 (Z=0) (.ru [3,201,200]<|.r 1<|.rc 0 0 (kCcq b c d g f e h) ((kAfq q b c d g f e h)::(kAfq s b c d g f e h)::(kAfq t k l m p j o i)::N))<|.cl 5 157 [.string a4] U<|.x5 fun(a:dF) dtp dtc dbp dbc=>.x4 fun w u Y z=>.rt (.tuple #[.agg (zO9aa a dtc dbc u dtp dbp w),IV Y]) ((kAfq q A C D G F E M)::(kAfq s b c d g f e h)::(kAfq t k l m p j o i)::z)<|.nf 3 (.cells kAjq 38) fun y=>.hp ((y,.cells (zO9aa a dtc dbc u dtp dbp w) 38)::(kAfq q A C D G F E M)::(kAfq s b c d g f e h)::(kAfq t k l m p j o i)::z) fun O=>.ru [200]<|.cl 6 155 [.string x,IV Q] O<|.x3 fun a0 a1 a2=>.rt (kCrq a0 a1 a2) O<|.I 14 108 (Y=0) (.ru [27,202,201]<|.r 1<|.rc 1 0 (kCcq b c d g f e h) ((y,.cells (zO9aa a dtc dbc u dtp dbp w) 38)::(kAfq q b c d g f e h)::(kAfq s b c d g f e h)::(kAfq t k l m p j o i)::z))<|.ru [1,200,1,203]<|.I 5 117 (a.n=(ab.wrap ((j:Int)+1))) (.ru [18,202,201]<|.r 1<|.rc 1 0 (kCcq b c d g f e h) ((y,.cells (zO9aa a dtc dbc u dtp dbp w) 38)::(kAfq q b c d g f e h)::(kAfq s b c d g f e h)::(kAfq t k l m p j o i)::z))<|.I 4 121 (a2=0) (.ru [14,202,201]<|.r 1<|.rc 1 0 (kCcq b c d g f e h) ((y,.cells (zO9aa a dtc dbc u dtp dbp w) 38)::(kAfq q b c d g f e h)::(kAfq s b c d g f e h)::(kAfq t k l m p j o i)::z))<|.ru [3,203]<|.r 2<|.ss x (ab.wrap (i+1)) Q<|.cl 0 93 [.string (x.extract (ad (ab.wrap (i+1))) (ad Q))] O<|.ex fun a3=>.rt (IV a3) O<|.I 3 131 (a0=a3) (.ru [3,202,201]<|.r 1<|.rc 1 0 (kCcq b c d g f e h) ((y,.cells (zO9aa a dtc dbc u dtp dbp w) 38)::(kAfq q b c d g f e h)::(kAfq s b c d g f e h)::(kAfq t k l m p j o i)::z))<|.ru [5,203,200]<|.ns true 1 (.cells (zO9aa a dtc dbc u dtp dbp w) 38) fun V=>.apd 0 V 38 38 23 22 22 (.slice p j o) 1 1 (kAaq a dtp dtc dbp dbc w u) ((V,.cells (zO9aa a dtc dbc u dtp dbp w) 38)::(y,.cells (zO9aa a dtc dbc u dtp dbp w) 38)::(kAfq q A C D G F E M)::(kAfq s b c d g f e h)::(kAfq t k l m p j o i)::z)<|.x3 fun ap (X:Nat) F3=>.rt (.slice ap (j+1) X) ((y,.cells (zO9aa a dtc dbc u dtp dbp w) 38)::(kAfq q A C D G F E M)::(kAfq s b c d g f e h)::(kAfq t k l m p j o i)::F3)<|.ru [1,203,4,203]<|.cT 3 [1,2,3] 4 (zT q s t x A C D G F E M b c d g f e h k l m ap (j+1) X a1 F3 S))<|.ru [4,202,200]<|.r 1<|.rc 0 0 (kCcq k l m p j o i) ((kAfq q k l m p j o i)::(kAfq s b c d g f e h)::(kAfq t k l m p j o i)::N))<|.ru [11,202,200]<|.r 1<|.rc 0 0 (kCcq k l m p j o i) ((kAfq q k l m p j o i)::(kAfq s b c d g f e h)::(kAfq t k l m p j o i)::N))):zT q s t x A C D G F E M b c d g f e h k l m p j o i N S w0 R:=VC.go Tryz.func113 _ H
abbrev kCaq:=(#[.bool true,.bool true,IV 0,.slice none 0 0,IV 0]:Array aa)
theorem Pf (a:BA)(b:aX)(hm:Mem (b) S w0 W)(H:VP S w0 R (.nf 2 (.cells zO9ab 172) fun B=>.r 5<|.ix a 0<|.P 2 21 ((k8 a 0)=0) (.ru [4,200]<|.r 1<|.rc 0 0 (.agg zO9ab) ((B,.cells zO9ab 172)::b))<|.nf 5 (.cells zO9ab 172) fun c=>.hp ((c,.cells kCaq 172)::(B,.cells zO9ab 172)::b) fun d=>.ru [200]<|.cl 4 155 [.string a,IV 1] d<|.x3 fun f e g=>.rt (kCrq f e g) d<|.r 12<|.ix a 0<|.I 2 33 ((k8 a 0)=1) (.ru [11,200,201]<|.r 1<|.rc 1 0 (.agg kCaq) (yO9aa c B b))<|.I 4 37 (g=0) (.ru [7,200,201]<|.r 1<|.rc 1 0 (.agg kCaq) (yO9aa c B b))<|.P 4 40 (f<1) (.ru [3,200,201]<|.r 1<|.rc 1 0 (.agg kCaq) (yO9aa c B b))<|.cl 6 155 [.string a,IV e] d<|.x3 fun h i j=>.rt (kCrq h i j) d<|.I 14 51 (j=0) (.ru [11,200,201]<|.r 1<|.rc 1 0 (.agg kCaq) (yO9aa c B b))<|.r 3<|.ss a 1 e<|.cl 0 93 [.string (a.extract (ad 1) (ad e))] d<|.ex fun k=>.rt (IV k) d<|.I 3 58 (h=k) (.ru [3,200,201]<|.r 1<|.rc 1 0 (.agg kCaq) (yO9aa c B b))<|.nf 7 (.cells zO9ab 172) fun l=>.ru [200]<|.cT 4 [2,1,0] 3 (zT B c l a false false 0 none 0 0 0 true true 0 none 0 0 0 true false f none 0 0 i b S))):aE TP 113 ⟨[.string a]⟩ W R:=VC.cs Tryz.func113 hm _ H
end Go.Eng
