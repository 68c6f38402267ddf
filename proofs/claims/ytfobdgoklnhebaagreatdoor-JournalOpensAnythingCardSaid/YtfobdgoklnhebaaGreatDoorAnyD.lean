/- A part. -/
import Derived.Test.YtfobdgoklnhebaaGreatDoorAnyC
set_option linter.unusedVariables false
set_option linter.unusedSimpArgs false
set_option maxRecDepth 100000
open And renaming intro→kD
open Bool renaming false_and→aF,true_and→aH,and_eq_true→av,and_false→bz,or_eq_true→iy
open Go renaming Calls→aE,Value→aa,World→aj,Ending→bJ,PanicEntry→cf
open Go.IntKind renaming i64→ab
open Go.Obj renaming cells→bu
open Go.Proofs.Tryz renaming func64→dI,func59→dJ,f211→dW,func211→fJ,func150→fZ,func143→fj,func135→gI,func139→gJ,func109→ga,func60→gw,func201→iU,func183→iV,func205→iW,func130→iX,func132→iY,func134→iZ,func136→ja,func138→jb,f143→kq
open Int renaming reduceEq→aV,toNat→ad,toNat_natCast→ai
open List renaming replicate→aA,length_cons→aI,take_of_length_le→aK,append_nil→aL,length_eq_zero_iff→aQ,nil_append→aT,drop_zero→aU,length_append→ae,mem_cons_of_mem→ag,mem_append_right→ak,append_assoc→an,length_take→ao,getElem?_eq_getElem→ar,mem_cons_self→au,perm_append_comm→aw,drop_of_length_le→ax,mem_append_left→ay,getElem_mem→bH,foldl_cons→bS,flatMap_cons→bq,length_nil→bt,mem_singleton→cK,forall_mem_cons→ck,foldl_nil→dh,getElem_append_left→ek,mem_of_mem_take→ft
open List.Perm renaming refl→ah,swap→dg,cons→eS
open Nat renaming le_refl→aD,zero_add→az,mul_le_mul_right→bI,zero_le→bx,lt_or_ge→cy,mul_le_mul_left→eo,mul_one→ez,sub_self→jj
open Prod renaming ext→eU
open Prod.mk renaming injEq→af
namespace Go.Eng
open Go Go.RowKit Wire
variable {P:Program}{R:Ending→World→Prop}{S:List Nat}{w0 W:World}{lk:Lk}{tp bp ap:OA}{tc bc ac:Nat}{K K':Value→aX→Prop}{args:Array Value}{g:FuncId}
theorem mi.zA {l:mi}(h:l.ok=true):oF .label l:=by
 simp only[mi.ok,av,decide_eq_true_eq]at h;obtain⟨a2,O⟩:=h;obtain⟨a1,M⟩:=FL _ _ O (by omega) (by omega);exact⟨mg (by omega),by omega,fun x V=>mg (by have:=M x V;omega),mg (by omega),mg (by omega)⟩
theorem E9 {s:BA}(h:mK s=true):s.size≤20:=by
 simp only[mK,av,decide_eq_true_eq]at h;omega
theorem Ni {s:BA}(h:mP s=true):s.size≤300:=by
 simp only[mP,pO,av,decide_eq_true_eq]at h;omega
theorem J1 {s:BA}(h:rI s=true):s.size≤1000:=by
 simp only[rI,av,decide_eq_true_eq]at h;omega
theorem L4:∀(l:List BA) (last:Option BA),tW last l=true→∀s∈l,mK s=true
 |[],_,_,_,hb=>by cases hb
 |t::r,last,h,s,hs=>by
  simp only[tW,av]at h;rcases List.mem_cons.1 hs with rfl|hs
  ·exact h.1
  ·exact L4 r (some t) h.2.2 s hs
theorem Gu {l:List BA}(h:sJ l=true):l.length≤4∧∀s∈l,mK s=true:=by
 simp only[sJ,av,decide_eq_true_eq]at h;exact⟨h.1,L4 l none h.2⟩
theorem Er {f:dF}(h:f.lr=true):1≤f.kind∧f.kind≤10:=by
 unfold dF.lr at h
 repeat' split at h
 all_goals first|omega|simp at h
theorem CU {k:Int}(h:1≤k∧k≤10):k6 k≠[]:=by
 unfold k6
 repeat' split
 all_goals first|omega|simp
theorem V8 {f:dF}(h:f.lr=true):∀x∈k6 f.kind,oF x.ty (f.get x):=by
 have M:=Er h;have M:f.kind=1∨f.kind=2∨f.kind=3∨f.kind=4∨f.kind=5∨f.kind=6∨f.kind=7∨f.kind=8∨f.kind=9∨f.kind=10:=by omega
 have I:∀{n:Int},(0≤n∧n≤1000000000)→lU n:=fun h=>mg (by omega)
 have N:∀{s:BA},mK s=true→s.size≤65536:=fun h=>by have:=E9 h;omega
 have F:∀{s:BA},mP s=true→s.size≤65536:=fun h=>by have:=Ni h;omega
 rcases M with M|M|M|M|M|M|M|M|M|M
 ·have e:k6 f.kind=[.story,.lang,.rev,.base,.title,.author,.topics,.blocks,.label]:=by rw[M];rfl
  have O:f.lr=(f.mX&&f.qd):=by unfold dF.lr;rw[if_pos M]
  rw[O]at h;simp only[dF.mX,dF.qd,av,decide_eq_true_eq]at h;obtain⟨a3,V,a4,a5,a1,a6,a7,a8,a9⟩:=h;have a2:=Gu a7;rw[e];simp only[ck];exact⟨I (by simp only[dF.get];omega),N V,I (by simp only[dF.get];omega),I (by simp only[dF.get];omega),F a1,N a6,⟨a2.1,fun s b1=>N (a2.2 s b1)⟩,a8,mi.zA a9,by simp⟩
 ·have e:k6 f.kind=[.story,.editor]:=by rw[M];rfl
  have O:f.lr=(f.mX&&decide (1≤f.editor∧f.editor≤5)):=by unfold dF.lr;simp only[M,reduceIte,aV]
  rw[O]at h;simp only[dF.mX,av,decide_eq_true_eq]at h;rw[e];simp only[ck];exact⟨I (by simp only[dF.get];omega),I (by simp only[dF.get];omega),by simp⟩
 ·have e:k6 f.kind=[.story,.label]:=by rw[M];rfl
  have O:f.lr=(f.mX&&f.lab.ok):=by unfold dF.lr;simp only[M,reduceIte,aV]
  rw[O]at h;simp only[dF.mX,av,decide_eq_true_eq]at h;rw[e];simp only[ck];exact⟨I (by simp only[dF.get];omega),mi.zA h.2,by simp⟩
 ·have e:k6 f.kind=[.story,.lang,.block,.sentence,.text]:=by rw[M];rfl
  have O:f.lr=(f.mX&&f.qy):=by unfold dF.lr;simp only[M,reduceIte,aV]
  rw[O]at h;simp only[dF.mX,dF.qy,av,decide_eq_true_eq]at h;obtain⟨a3,V,a4,a5,a1⟩:=h;rw[e];simp only[ck];exact⟨I (by simp only[dF.get];omega),N V,I (by simp only[dF.get];omega),I (by simp only[dF.get];omega),F a1,by simp⟩
 ·have e:k6 f.kind=[.story,.text]:=by rw[M];rfl
  have O:f.lr=(f.mX&&mP f.text):=by unfold dF.lr;simp only[M,reduceIte,aV]
  rw[O]at h;simp only[dF.mX,av,decide_eq_true_eq]at h;rw[e];simp only[ck];exact⟨I (by simp only[dF.get];omega),F h.2,by simp⟩
 ·have e:k6 f.kind=[.story]:=by rw[M];rfl
  have O:f.lr=f.mX:=by unfold dF.lr;simp only[M,reduceIte,aV]
  rw[O]at h;simp only[dF.mX,decide_eq_true_eq]at h;rw[e];simp only[ck];exact⟨I (by simp only[dF.get];omega),by simp⟩
 ·have e:k6 f.kind=[.name,.text]:=by rw[M];rfl
  have O:f.lr=(mK f.name&&rI f.text):=by unfold dF.lr;simp only[M,reduceIte,aV]
  rw[O]at h;simp only[av]at h;rw[e];simp only[ck];exact⟨N h.1,Nat.le_trans (J1 h.2) (by decide),by simp⟩
 ·have e:k6 f.kind=[.partner,.cls,.unt]:=by rw[M];rfl
  have O:f.lr=(f.qo&&decide (0≤f.cls∧f.cls≤3)):=by unfold dF.lr;simp only[M,reduceIte,aV]
  rw[O]at h;simp only[dF.qo,av,decide_eq_true_eq]at h;rw[e];simp only[ck];exact⟨I (by simp only[dF.get];omega),I (by simp only[dF.get];omega),I (by simp only[dF.get];omega),by simp⟩
 ·have e:k6 f.kind=[.partner,.unt]:=by rw[M];rfl
  have O:f.lr=f.qo:=by unfold dF.lr;simp only[M,reduceIte,aV]
  rw[O]at h;simp only[dF.qo,decide_eq_true_eq]at h;rw[e];simp only[ck];exact⟨I (by simp only[dF.get];omega),I (by simp only[dF.get];omega),by simp⟩
 ·have e:k6 f.kind=[.story]:=by rw[M];rfl
  have O:f.lr=f.mX:=by unfold dF.lr;simp only[M,reduceIte,aV]
  rw[O]at h;simp only[dF.mX,decide_eq_true_eq]at h;rw[e];simp only[ck];exact⟨I (by simp only[dF.get];omega),by simp⟩
structure dF.Good (f:dF):Prop where
 n:0≤f.n∧f.n≤500
 time:0≤f.time∧f.time≤1000000000
 kind:1≤f.kind∧f.kind≤10
 lr:f.lr=true
 fields:∀x∈k6 f.kind,oF x.ty (f.get x)
 used:f=f.used
theorem dF.ot {f:dF}(h:f.ok=true):f.Good:=by
 simp only[dF.ok,av,decide_eq_true_eq]at h;obtain⟨V,M,O⟩:=h;exact⟨by omega,by omega,Er M,M,V8 M,O⟩
theorem Qw {f:dF}(h:f.ok=true)(r:List UInt8):mN (mE f++r)=(f,((mE f).length,0)):=by
 have g:=dF.ot h;have hn:=g.n;have b4:=g.time;have a9:=g.kind;generalize hs:mE f++r=s;have V:s.drop 0=Wire.enc f.n++(Wire.enc f.time++(Wire.enc f.kind++((k6 f.kind).flatMap f.put++r))):=by
  rw[←hs,aU,mE,dF.head];simp only[an]
 have a4:=oO (mg (by omega)) V;have M:=ou V;have a5:=oO (mg (by omega)) M;have O:=ou M;have a6:=oO (mg (by omega)) O;have a3:=ou O;have a1:m5 s=_:=a4;have a2:mW s=_:=(congrArg (fun x:Int×RS=>kP s x.2) a1).trans a5;have b3:lS s=_:=(congrArg (fun x:Int×RS=>kP s x.2) a2).trans a6;have a7:=L6 (f:=f) (k6 f.kind) (dF.bare f.n f.time f.kind) _ r g.fields a3;rw[mN,rdKind,a1,a2,b3];simp only;rw[if_neg (fun a8=>CU a9 a8.2),a7];have b1:(k6 f.kind).foldl (fun g x=>g.set x (f.get x)) (dF.bare f.n f.time f.kind)=f:=g.used.symm;rw[b1];simp only[mE,dF.head,ae,af,true_and,and_true];omega
theorem Ou {f:dF}(h:f.ok=true):l6 (mE f)=(f,0):=by
 have:=Qw h [];rw[aL]at this;rw[l6,this,if_neg (by simp),if_neg (by simp),if_pos h]
theorem N3 {α:Type}{f:RS→α×RS}{e:α→List UInt8}{s:List UInt8}{most:Int}(a2:∀st,(f st).2.2=0→st.2=0∧s.drop st.1=e (f st).1++s.drop (f st).2.1){st:RS}(h:(nv f s most st).2.2=0):
  st.2=0∧s.drop st.1=Wire.enc ((nv f s most st).1.length:Int)++((nv f s most st).1.flatMap e++s.drop (nv f s most st).2.1):=by
 unfold nv at*;have M:=Dr a2 _ _ h;have O:0≤(mh s most st).1∧mh s most st=kP s st:=by
  have:=M.1;unfold mh at this ⊢;split at this
  ·simp at this
  ·next hc=>
   rw[if_neg hc];refine⟨?_,rfl⟩;apply Decidable.byContradiction;intro a3;exact hc ⟨this,.inl (by omega)⟩
 have a1:=O.2;rw[a1]at M O ⊢;have V:=oe M.1;refine⟨V.1,?_⟩;rw[M.2.1,Int.toNat_of_nonneg O.1,←M.2.2];exact V.2.2
theorem Xz {s:List UInt8}:∀{t:rG} {st:RS},(mB s t st).2.2=0→st.2=0∧s.drop st.1=qO t (mB s t st).1++s.drop (mB s t st).2.1
 | .int,st,h=>⟨(oe h).1,(oe h).2.2⟩
 | .str,st,h=>zH h
 | .topics,st,h=>by
  have:=N3 (f:=lh s) (e:=fun t:BA=>lL (bb t)) (s:=s) (fun st h=>zH h) (st:=st) h;refine⟨this.1,this.2.trans ?_⟩;rw[←an];rfl
 | .blocks,st,h=>by
  have h:(nB s st).2.2=0:=h;show st.2=0∧s.drop st.1=qO .blocks (nB s st).1++s.drop (nB s st).2.1
  by_cases h1:(lh s st).2.2=0
  ·by_cases h2:(my (bb (lh s st).1)).2=0
   ·have O:=zH h1
    have M:=WL (s:=bb (lh s st).1) (l:=(my (bb (lh s st).1)).1) (eU rfl h2);rw[nB,if_pos h1,if_pos h2];refine⟨O.1,?_⟩;show s.drop st.1=lL (nG _)++_;rw[M.2];exact O.2
   ·rw[nB,if_pos h1,if_neg h2]at h
    simp at h
  ·rw[nB,if_neg h1]at h
   exact absurd h h1
 | .label,st,h=>by
  have M:(kP s (q6 s st).2).2.2=0:=h;have a2:=oe M;have a1:=oe (s:=s) (st:=(p7 s st).2) a2.1;have V:=N3 (e:=Wire.enc) (f:=kP s) (most:=64) (fun st h=>⟨(oe h).1,(oe h).2.2⟩) (st:=(rP s st).2) a1.1;have k1:=oe (s:=s) (st:=st) V.1;refine⟨k1.1,?_⟩;have e1:s.drop st.1=Wire.enc (rP s st).1++s.drop (rP s st).2.1:=k1.2.2;have a3:s.drop (rP s st).2.1=Wire.enc ((p7 s st).1.length:Int)++((p7 s st).1.flatMap Wire.enc++s.drop (p7 s st).2.1):=V.2;have a4:s.drop (p7 s st).2.1=Wire.enc (q6 s st).1++s.drop (q6 s st).2.1:=a1.2.2;have a5:s.drop (q6 s st).2.1=Wire.enc (te s st).1++s.drop (te s st).2.1:=a2.2.2;rw[e1,a3,a4,a5];show _=(Wire.enc (rP s st).1++(Wire.enc ((p7 s st).1.length:Int)++((p7 s st).1.flatMap Wire.enc++(Wire.enc (q6 s st).1++Wire.enc (te s st).1))))++s.drop (te s st).2.1;simp only[an]
theorem xz {s:List UInt8}{y:k9}:∀(l:List k9) (r:dF×RS),y∉l→(l.foldl (ni s) r).1.get y=r.1.get y
 |[],r,_=>rfl
 |x::l,r,h=>by
  rw[bS,xz l _ (fun M=>h (ag _ M)),ni];exact dF.Bf _ (fun M=>h (by rw[M];exact au)) _
theorem Hn {s:List UInt8}:∀(l:List k9) (r:dF×RS),l.Nodup→(l.foldl (ni s) r).2.2=0→r.2.2=0∧s.drop r.2.1=l.flatMap (l.foldl (ni s) r).1.put++s.drop (l.foldl (ni s) r).2.1
 |[],r,_,h=>⟨h,rfl⟩
 | x::l,r,hd,h=>by
  rw[List.nodup_cons]at hd;rw[bS]at h ⊢;have M:=Hn l (ni s r x) hd.2 h;have O:=Xz (s:=s) (t:=x.ty) (st:=r.2) M.1;refine⟨O.1,?_⟩;have V:(l.foldl (ni s) (ni s r x)).1.put x=qO x.ty (mB s x.ty r.2).1:=by
   unfold dF.put;rw[xz l _ hd.1,ni,dF.Ff]
  rw[bq,V,an,←M.2];exact O.2
theorem Tb {s:List UInt8}(h:(mN s).2.2=0):s=mE (mN s).1++s.drop (mN s).2.1:=by
 have M:=En (lS s).1;have O:=Hn (s:=s) (k6 (lS s).1) (dF.bare (m5 s).1 (mW s).1 (lS s).1,rdKind s) M.1 h;have V:rdKind s=(lS s).2:=by
  have:=O.1;unfold rdKind at this ⊢;simp only at this;split
  ·next hc=>rw[if_pos hc]at this;simp at this
  ·rfl
 have a6:(lS s).2.2=0:=by rw[←V];exact O.1
 have a2:=oe (s:=s) (st:=(mW s).2) a6;have a1:=oe (s:=s) (st:=(m5 s).2) a2.1;have k1:=oe (s:=s) (st:=(0,0)) a1.1;have n1:(mN s).1.n=(m5 s).1:=xz (s:=s) (y:=.n) (k6 (lS s).1) (dF.bare (m5 s).1 (mW s).1 (lS s).1,rdKind s) M.2.1;have n2:(mN s).1.time=(mW s).1:=xz (s:=s) (y:=.time) (k6 (lS s).1) (dF.bare (m5 s).1 (mW s).1 (lS s).1,rdKind s) M.2.2.1;have a7:(mN s).1.kind=(lS s).1:=xz (s:=s) (y:=.kind) (k6 (lS s).1) (dF.bare (m5 s).1 (mW s).1 (lS s).1,rdKind s) M.2.2.2;have e1:s=Wire.enc (m5 s).1++s.drop (m5 s).2.1:=by have:=k1.2.2;rwa[aU]at this
 have a3:s.drop (m5 s).2.1=Wire.enc (mW s).1++s.drop (mW s).2.1:=a1.2.2;have a4:s.drop (mW s).2.1=Wire.enc (lS s).1++s.drop (lS s).2.1:=a2.2.2;have a5:s.drop (lS s).2.1=(k6 (lS s).1).flatMap (mN s).1.put++s.drop (mN s).2.1:=by rw[←V];exact O.2
 rw[mE,dF.head,n1,n2,a7];simp only[an];rw[←a5,←a4,←a3];exact e1
theorem XW {s:List UInt8}{f:dF}(h:l6 s=(f,0)):f.ok=true∧mE f=s:=by
 unfold l6 at h;split at h
 ·next h1=>
  simp only[af]at h;exact absurd h.2 h1
 ·next h1=>
  split at h
  ·simp at h
  ·next h2=>
   split at h
   ·next h3=>
    simp only[af,and_true]at h;subst h;have M:=Tb (Decidable.not_not.1 h1);rw[ax (by omega),aL]at M;exact⟨h3,M.symm⟩
   ·simp at h
theorem Jb (s:List UInt8):((l6 s).2=0∧(l6 s).1.ok=true)∨((l6 s).1=dF.zero∧(l6 s).2≠0):=by
 unfold l6;split
 ·next h=>exact .inr ⟨rfl,h⟩
 ·split
  ·exact .inr ⟨rfl,by simp⟩
  ·split
   ·next h=>exact .inl ⟨rfl,h⟩
   ·exact .inr ⟨rfl,by simp⟩
theorem K3 {s:List UInt8}{m:Int}{st:RS}(h:¬st.2=0):(mh s m st).2=st:=by
 rw[mh,if_neg (fun M=>h (by rw[rX h]at M;exact M.1)),rX h]
theorem Dp {α:Type}{f:RS→α×RS}{s:List UInt8}{m:Int}{st:RS}(h:¬st.2=0):(nv f s m st).2=st:=by
 rw[nv,oc (by rw[K3 h];exact h),K3 h]
theorem OX {s:List UInt8}:∀{t:rG} {st:RS},¬st.2=0→(mB s t st).2=st
 | .int,st,h=>rX h
 | .str,st,h=>D2 h
 | .topics,st,h=>Dp h
 | .blocks,st,h=>by
  show(nB s st).2=st;rw[nB,if_neg (by rw[D2 h];exact h)];exact D2 h
 | .label,st,h=>by
  have e1:(rP s st).2=st:=rX h;have M:(p7 s st).2=st:=by rw[p7,e1];exact Dp h
  have O:(q6 s st).2=st:=by rw[q6,M];exact rX h
  show(te s st).2=st;rw[te,O];exact rX h
theorem Cy {s:List UInt8}:∀(l:List k9) (r:dF×RS),¬r.2.2=0→(l.foldl (ni s) r).2=r.2
 |[],r,_=>rfl
 |x::l,r,h=>by
  have M:(ni s r x).2=r.2:=OX h;rw[bS,Cy l _ (by rw[M];exact h),M]
theorem w8 {s:List UInt8}{m:Int}{st:RS}(h:st.1≤s.length):(mh s m st).2.1≤s.length:=by
 unfold mh;split
 ·exact mo h
 ·exact mo h
theorem zW {s:List UInt8}{m:Int}{st:RS}(h:(mh s m st).2.2=0):0≤(mh s m st).1∧(mh s m st).1≤m:=by
 unfold mh at*;split at h
 ·simp at h
 ·next hn=>rw[if_neg hn];omega
theorem Eb {α:Type}{f:RS→α×RS}{s:List UInt8}{m:Nat}(M:∀st,st.1≤s.length→(f st).2.1≤s.length){st:RS}(h:st.1≤s.length):(nv f s m st).2.1≤s.length∧(nv f s m st).1.length≤m:=by
 unfold nv;have:=yh M (mh s m st).1.toNat (mh s m st).2 (w8 h);refine⟨this.1,?_⟩
 by_cases he:(mh s m st).2.2=0
 ·have:=zW he
  omega
 ·rw[oc he];simp
theorem O4 {s:List UInt8}{st:RS}(h:st.1≤s.length):(nB s st).2.1≤s.length:=by
 unfold nB;split
 ·split
  ·exact(o3 h).1
  ·exact(o3 h).1
 ·exact(o3 h).1
theorem Vj {s:List UInt8}{st:RS}(h:st.1≤s.length):(rP s st).2.1≤s.length∧(p7 s st).2.1≤s.length∧(q6 s st).2.1≤s.length∧(te s st).2.1≤s.length:=by
 have M:(rP s st).2.1≤s.length:=mo h;have O:(p7 s st).2.1≤s.length:=(Eb (f:=kP s) (m:=64) (fun st=>mo) M).1;have V:(q6 s st).2.1≤s.length:=mo O;exact⟨M,O,V,mo V⟩
theorem Md {s:List UInt8}:∀{t:rG} {st:RS},st.1≤s.length→(mB s t st).2.1≤s.length
 | .int,st,h=>mo h
 | .str,st,h=>(o3 h).1
 | .topics,st,h=>(Eb (f:=lh s) (m:=4) (fun st h=>(o3 h).1) h).1
 | .blocks,st,h=>O4 h
 | .label,st,h=>(Vj h).2.2.2
theorem BG (s:List UInt8):(m5 s).2.1≤s.length∧(mW s).2.1≤s.length∧(lS s).2.1≤s.length:=by
 have M:(m5 s).2.1≤s.length:=mo (bx _);have O:(mW s).2.1≤s.length:=mo M;exact⟨M,O,mo O⟩
theorem S5 (s:List UInt8):(rdKind s).1≤s.length:=by
 unfold rdKind;split
 ·exact(BG s).2.2
 ·exact(BG s).2.2
open Go.Proofs
noncomputable def rD (b:BA)(a:Int):Cut:=⟨TP,[],143,28,(KC kq 116),[(0,.string b),(3,.func (.func 145) #[] #[]),(9,IV a)],[]⟩
theorem Kk (b:BA)(a:Int)(H:VP [] w0 R (.P 8 19 (a<(b.size:Int)) (.r 9<|.ix b a<|.il 0 Tryz.func145 [.int .u8 (k8 b a)]<|.P 9 5 (97≤(k8 b a)) (.P 4 9 ((k8 b a)≤122) (.rk 13<|.li 9 9 (ab.wrap (a+1)) fun c=>.ct 2 [] (rD b c))<|.P 3 12 (48≤(k8 b a)) (.P 5 17 ((k8 b a)≤57) (.rk 5<|.li 9 9 (ab.wrap (a+1)) fun d=>.ct 2 [] (rD b d))<|.rk 5<|.I 2 27 ((k8 b a)=45) (.re 5 (.bool false) [])<|.li 7 9 (ab.wrap (a+1)) fun e=>.ct 2 [] (rD b e))<|.rk 10<|.I 2 27 ((k8 b a)=45) (.re 5 (.bool false) [])<|.li 7 9 (ab.wrap (a+1)) fun f=>.ct 2 [] (rD b f))<|.P 7 12 (48≤(k8 b a)) (.P 5 17 ((k8 b a)≤57) (.rk 5<|.li 9 9 (ab.wrap (a+1)) fun g=>.ct 2 [] (rD b g))<|.rk 5<|.I 2 27 ((k8 b a)=45) (.re 5 (.bool false) [])<|.li 7 9 (ab.wrap (a+1)) fun h=>.ct 2 [] (rD b h))<|.rk 10<|.I 2 27 ((k8 b a)=45) (.re 5 (.bool false) [])<|.li 7 9 (ab.wrap (a+1)) fun i=>.ct 2 [] (rD b i))<|.re 6 (.bool true) [])):rD b a w0 R:=VC.go fj _ H
theorem OG (a:BA)(b c:Int)(hm:Mem [] [] w0 W)(H:VP [] w0 R (.il 11 dI [IV (a.size:Int),IV b,IV c]<|.P 10 10 (b≤(a.size:Int)) (.rk 6<|.I 2 15 ((a.size:Int)≤c) (.re 5 (.bool false) [])<|.ct 9 [] (rD a 0))<|.rk 6<|.re 7 (.bool false) [])):aE TP 143 ⟨[.string a,IV b,IV c,.func (.func 145) #[] #[]]⟩ W R:=VC.cs fj hm _ H
noncomputable def xM (b:BA)(a:Int):Cut:=⟨TP,[],143,28,(KC kq 116),[(0,.string b),(3,.func (.func 144) #[] #[]),(9,IV a)],[]⟩
theorem LU (b:BA)(a:Int)(H:VP [] w0 R (.P 8 19 (a<(b.size:Int)) (.r 9<|.ix b a<|.il 0 Tryz.func144 [.int .u8 (k8 b a)]<|.P 9 5 (32≤(k8 b a)) (.rk 5<|.I 2 27 ((k8 b a)≤126) (.re 5 (.bool false) [])<|.li 7 9 (ab.wrap (a+1)) fun c=>.ct 2 [] (xM b c))<|.rk 5<|.re 7 (.bool false) [])<|.re 6 (.bool true) [])):xM b a w0 R:=VC.go fj _ H
theorem QM (a:BA)(b c:Int)(hm:Mem [] [] w0 W)(H:VP [] w0 R (.il 11 dI [IV (a.size:Int),IV b,IV c]<|.P 10 10 (b≤(a.size:Int)) (.rk 6<|.I 2 15 ((a.size:Int)≤c) (.re 5 (.bool false) [])<|.ct 9 [] (xM a 0))<|.rk 6<|.re 7 (.bool false) [])):aE TP 143 ⟨[.string a,IV b,IV c,.func (.func 144) #[] #[]]⟩ W R:=VC.cs fj hm _ H
noncomputable def vP (b:BA)(a:Int):Cut:=⟨TP,[],143,28,(KC kq 116),[(0,.string b),(3,.func (.func 146) #[] #[]),(9,IV a)],[]⟩
theorem Kb (b:BA)(a:Int)(H:VP [] w0 R (.P 8 19 (a<(b.size:Int)) (.r 9<|.ix b a<|.il 0 Tryz.func146 [.int .u8 (k8 b a)]<|.P 9 5 ((k8 b a)=10) (.rk 5<|.li 9 9 (ab.wrap (a+1)) fun c=>.ct 2 [] (vP b c))<|.il 1 Tryz.func144 [.int .u8 (k8 b a)]<|.P 9 5 (32≤(k8 b a)) (.rk 5<|.rk 3<|.I 2 27 ((k8 b a)≤126) (.re 5 (.bool false) [])<|.li 7 9 (ab.wrap (a+1)) fun d=>.ct 2 [] (vP b d))<|.rk 5<|.rk 3<|.re 7 (.bool false) [])<|.re 6 (.bool true) [])):vP b a w0 R:=VC.go fj _ H
theorem X9 (a:BA)(b c:Int)(hm:Mem [] [] w0 W)(H:VP [] w0 R (.il 11 dI [IV (a.size:Int),IV b,IV c]<|.P 10 10 (b≤(a.size:Int)) (.rk 6<|.I 2 15 ((a.size:Int)≤c) (.re 5 (.bool false) [])<|.ct 9 [] (vP a 0))<|.rk 6<|.re 7 (.bool false) [])):aE TP 143 ⟨[.string a,IV b,IV c,.func (.func 146) #[] #[]]⟩ W R:=VC.cs fj hm _ H
theorem UO (b:BA)(hm:Mem [] [] w0 W)(H:VP [] w0 R (.cl 7 143 [.string b,IV 1,IV 20,.func (.func 145) #[] #[]] []<|.ex fun a=>.rt (.bool a) []<|.re 2 (.bool a) [])):aE TP 104 ⟨[.string b]⟩ W R:=VC.cs Tryz.func104 hm _ H
theorem Pn (b:BA)(hm:Mem [] [] w0 W)(H:VP [] w0 R (.cl 7 143 [.string b,IV 1,IV 300,.func (.func 144) #[] #[]] []<|.ex fun a=>.rt (.bool a) []<|.re 2 (.bool a) [])):aE TP 103 ⟨[.string b]⟩ W R:=VC.cs Tryz.func103 hm _ H
theorem Ur (b:BA)(hm:Mem [] [] w0 W)(H:VP [] w0 R (.cl 7 143 [.string b,IV 0,IV 1000,.func (.func 146) #[] #[]] []<|.ex fun a=>.rt (.bool a) []<|.re 2 (.bool a) [])):aE TP 105 ⟨[.string b]⟩ W R:=VC.cs Tryz.func105 hm _ H
noncomputable def wZ (c:OA)(a b:Nat)(d:Int):Cut:=⟨TP,[],140,32,(KC Tryz.f140 116),[(0,.slice c a b),(8,.slice c a b),(9,IV (a:Int)),(10,IV d)],[]⟩
theorem Mk (d:OA)(b c:Nat)(a:Int)(H:VP [] w0 R (.P 5 11 (a<(b:Int)) (.r 7<|.x2 fun i f=>.iP d i f b c 1 a (f+(ad a))<|.x2 fun l e=>.lW i (f+(ad a)) 9 l (.string e)<|.cl 6 104 [.string e] []<|.ex fun k=>.rt (.bool k) []<|.B 0 16 k (.P 5 21 (0<a) (.r 4<|.x2 fun j g=>.iP d j g b c 1 (ab.wrap (a-1)) (g+(ad (ab.wrap (a-1))))<|.x2 fun m h=>.lW j (g+(ad (ab.wrap (a-1)))) 9 m (.string h)<|.B 4 30 ((Op.bytesLess e.toList h.toList)||(e.toList==h.toList)) (.re 5 (.bool false) [])<|.ct 8 [] (wZ d b c (ab.wrap (a+1))))<|.ct 18 [] (wZ d b c (ab.wrap (a+1))))<|.re 20 (.bool false) [])<|.re 6 (.bool true) [])):wZ d b c a w0 R:=VC.go Tryz.func140 _ H
theorem P4 (c:OA)(a b:Nat)(hm:Mem [] [] w0 W)(H:VP [] w0 R (.P 11 7 (4<(a:Int)) (.re 5 (.bool false) [])<|.ct 11 [] (wZ c a b 0))):aE TP 140 ⟨[.slice c a b]⟩ W R:=VC.cs Tryz.func140 hm _ H
noncomputable def Cz (c:OA)(a b:Nat)(f:OA)(e d:Nat)(g:Int):Cut:=⟨TP,[],106,26,(KC Tryz.f106 116),[(0,.slice c a b),(1,.slice f e d),(12,IV (a:Int)),(13,IV g)],[]⟩
theorem IW (d:OA)(b c:Nat)(h:OA)(g f:Nat)(a:Int)(H:VP [] w0 R (.P 5 14 (a<(b:Int)) (.r 10<|.dr 9<|.qu [2]<|.x2 fun l e=>.iP d l e b c 1 a (e+(ad a))<|.x2 fun n j=>.lW l (e+(ad a)) 9 n (.string j)<|.qu [2]<|.x2 fun m i=>.iP h m i g f 1 a (i+(ad a))<|.x2 fun o k=>.lW m (i+(ad a)) 9 o (.string k)<|.qu [1]<|.dn<|.sN 1 24 j k (.re 5 (.bool false) [])<|.ct 8 [] (Cz d b c h g f (ab.wrap (a+1))))<|.re 6 (.bool true) [])):Cz d b c h g f a w0 R:=VC.go Tryz.func106 _ H
theorem VU (d:OA)(a c:Nat)(f:OA)(b e:Nat)(hm:Mem [] [] w0 W)(H:VP [] w0 R (.I 13 10 ((a:Int)=(b:Int)) (.re 5 (.bool false) [])<|.ct 11 [] (Cz d a c f b e 0))):aE TP 106 ⟨[.slice d a c,.slice f b e]⟩ W R:=VC.cs Tryz.func106 hm _ H
abbrev zF2aa (a:dF)(b x2 x3:Nat)(x4 x5 c:OA):Array aa:= #[IV a.n,IV a.time,IV a.kind,IV a.story,.string a.lang,IV a.rev,IV a.base,.string a.title,.string a.author,.slice x4 a.topics.length b,.slice x5 a.blocks.length x2,IV a.lab.unt,.slice c a.lab.after.length x3,IV a.lab.appr,IV a.lab.den,IV a.editor,IV a.block,IV a.sentence,.string a.text,.string a.name,IV a.partner,IV a.cls,IV a.unt]
abbrev kBhq (x0:dF)(x1 x2):=(#[IV x0.lab.unt,.slice x1 x0.lab.after.length x2,IV x0.lab.appr,IV x0.lab.den]:Array aa)
theorem Zf (b:dF)(h:OA)(g:Nat)(f:OA)(e:Nat)(d:OA)(c:Nat)(hm:Mem [] [] w0 W)(H:VP [] w0 R (.np 2 (.cells (zF2aa b g e c h f d) 38) fun B=>.hp [(B,.cells (zF2aa b g e c h f d) 38)] fun a=>.ru [5,200]<|.cl 0 104 [.string b.lang] a<|.ex fun i=>.rt (.bool i) a<|.B 1 6 i (.ru [1,200]<|.il 0 dI [IV b.rev,IV 1,IV 100]<|.P 10 10 (1≤b.rev) (.rk 6<|.P 2 11 (b.rev≤100) (.ru [1,200,1,200]<|.il 1 dI [IV b.base,IV 0,IV (ab.wrap (b.rev-1))]<|.P 10 10 (0≤b.base) (.rk 6<|.P 2 19 (b.base≤(ab.wrap (b.rev-1))) (.ru [1,200]<|.cl 0 103 [.string b.title] a<|.ex fun j=>.rt (.bool j) a<|.B 2 24 j (.ru [1,200]<|.cl 0 104 [.string b.author] a<|.ex fun k=>.rt (.bool k) a<|.B 2 29 k (.ru [1,200]<|.cl 0 140 [.slice h b.topics.length g] a<|.ex fun l=>.rt (.bool l) a<|.B 2 34 l (.ru [1,200]<|.cl 0 141 [.slice f b.blocks.length e] a<|.ex fun m=>.rt (.bool m) a<|.B 2 39 m (.ru [1,200]<|.cl 0 101 [.agg (kBhq b d c)] a<|.ex fun n=>.rt (.bool n) a<|.re 3 (.bool n) a)<|.re 6 (.bool false) a)<|.re 11 (.bool false) a)<|.re 16 (.bool false) a)<|.re 21 (.bool false) a)<|.re 26 (.bool false) a)<|.rk 6<|.re 28 (.bool false) a)<|.re 34 (.bool false) a)<|.rk 6<|.re 36 (.bool false) a)<|.re 39 (.bool false) a)):aE TP 100 ⟨[.agg (zF2aa b g e c h f d)]⟩ W R:=VC.cs Tryz.func100 hm _ H
theorem Pc (a:dF)(h:OA)(g:Nat)(f:OA)(e:Nat)(d:OA)(c:Nat)(hm:Mem [] [] w0 W)(H:VP [] w0 R (.np 2 (.cells (zF2aa a g e c h f d) 38) fun B=>.hp [(B,.cells (zF2aa a g e c h f d) 38)] fun b=>.ru [5,200]<|.cl 0 104 [.string a.lang] b<|.ex fun i=>.rt (.bool i) b<|.B 1 6 i (.ru [1,200]<|.il 0 dI [IV a.block,IV 1,IV 1000]<|.P 10 10 (1≤a.block) (.rk 6<|.P 2 11 (a.block≤1000) (.ru [1,200]<|.il 0 dI [IV a.sentence,IV 0,IV 299]<|.P 10 10 (0≤a.sentence) (.rk 6<|.P 2 16 (a.sentence≤299) (.ru [1,200]<|.cl 0 103 [.string a.text] b<|.ex fun j=>.rt (.bool j) b<|.re 3 (.bool j) b)<|.re 6 (.bool false) b)<|.rk 6<|.re 8 (.bool false) b)<|.re 11 (.bool false) b)<|.rk 6<|.re 13 (.bool false) b)<|.re 16 (.bool false) b)):aE TP 102 ⟨[.agg (zF2aa a g e c h f d)]⟩ W R:=VC.cs Tryz.func102 hm _ H
theorem QH (b:dF)(i:OA)(h:Nat)(g:OA)(f:Nat)(e:OA)(d:Nat)(c:dF)(p:OA)(o:Nat)(m:OA)(l:Nat)(k:OA)(j:Nat)(hm:Mem [] [] w0 W)(H:VP [] w0 R (.np 2 (.cells (zF2aa b h f d i g e) 38) fun B=>.np 0 (.cells (zF2aa c o l j p m k) 38) fun u=>.hp [(B,.cells (zF2aa b h f d i g e) 38),(u,.cells (zF2aa c o l j p m k) 38)] fun a=>.ru [5,200,1,201]<|.P 2 10 (b.n=c.n) (.ru [1,200,1,201]<|.P 3 17 (b.time=c.time) (.ru [1,200,1,201]<|.P 3 24 (b.kind=c.kind) (.ru [1,200,1,201]<|.P 3 31 (b.story=c.story) (.ru [1,200,1,201]<|.sE 3 38 b.lang c.lang (.ru [1,200,1,201]<|.P 3 45 (b.rev=c.rev) (.ru [1,200,1,201]<|.P 3 52 (b.base=c.base) (.ru [1,200,1,201]<|.sE 3 59 b.title c.title (.ru [1,200,1,201]<|.sE 3 66 b.author c.author (.ru [1,200,1,201]<|.cl 0 106 [.slice i b.topics.length h,.slice p c.topics.length o] a<|.ex fun q=>.rt (.bool q) a<|.B 2 73 q (.ru [1,200,1,201]<|.cl 0 107 [.slice g b.blocks.length f,.slice m c.blocks.length l] a<|.ex fun s=>.rt (.bool s) a<|.B 2 80 s (.ru [1,200,1,201]<|.cl 0 108 [.agg (kBhq b e d),.agg (kBhq c k j)] a<|.ex fun t=>.rt (.bool t) a<|.B 2 87 t (.ru [1,200,1,201]<|.P 3 94 (b.editor=c.editor) (.ru [1,200,1,201]<|.P 3 101 (b.block=c.block) (.ru [1,200,1,201]<|.P 3 108 (b.sentence=c.sentence) (.ru [1,200,1,201]<|.sE 3 115 b.text c.text (.ru [1,200,1,201]<|.sE 3 122 b.name c.name (.ru [1,200,1,201]<|.P 3 129 (b.partner=c.partner) (.ru [1,200,1,201]<|.P 3 136 (b.cls=c.cls) (.ru [1,200,1,201]<|.re 4 (.bool (decide (b.unt=c.unt))) a)<|.re 8 (.bool false) a)<|.re 15 (.bool false) a)<|.re 22 (.bool false) a)<|.re 29 (.bool false) a)<|.re 36 (.bool false) a)<|.re 43 (.bool false) a)<|.re 50 (.bool false) a)<|.re 57 (.bool false) a)<|.re 64 (.bool false) a)<|.re 71 (.bool false) a)<|.re 78 (.bool false) a)<|.re 85 (.bool false) a)<|.ru [90]<|.re 2 (.bool false) a)<|.ru [90]<|.re 9 (.bool false) a)<|.ru [90]<|.re 16 (.bool false) a)<|.ru [90]<|.re 23 (.bool false) a)<|.ru [90]<|.re 30 (.bool false) a)<|.ru [90]<|.re 37 (.bool false) a)<|.ru [90]<|.re 44 (.bool false) a)):aE TP 66 ⟨[.agg (zF2aa b h f d i g e),.agg (zF2aa c o l j p m k)]⟩ W R:=VC.cs Tryz.func66 hm _ H
def dF.Fits (f:dF):Prop:=
 (f.lang.size≤9223372036854775807∧f.title.size≤9223372036854775807∧f.author.size≤9223372036854775807∧f.text.size≤9223372036854775807∧f.name.size≤9223372036854775807)∧
 (f.topics.length≤9223372036854775807∧∀t∈f.topics,t.size≤9223372036854775807)∧f.blocks.length≤9223372036854775807∧f.lab.after.length≤9223372036854775807
structure lv (lk:Lk)(f:dF)(tp:OA)(tc:Nat)(bp:OA)(bc:Nat)(ap:OA)(ac:Nat):Prop where
 tops:nh lk tp f.topics
 blks:mY lk bp f.blocks
 ints:lX lk ap f.lab.after
 ct:f.topics.length≤tc
 cb:f.blocks.length≤bc
 ca:f.lab.after.length≤ac
 fits:f.Fits
theorem lv.mono {lk O:Lk}{f:dF}{tp:OA}{tc:Nat}{bp:OA}{bc:Nat}{ap:OA}{ac:Nat}(h:lv lk f tp tc bp bc ap ac)(M:∀b c,lk b c→O b c):lv O f tp tc bp bc ap ac:=
 ⟨h.tops.mono M,h.blks.mono M,h.ints.mono M,h.ct,h.cb,h.ca,h.fits⟩
def sD (lk:Lk)(cs:List aa)(f:dF):Prop:=∃tp tc bp bc ap ac,cs=f.cells tp tc bp bc ap ac∧lv lk f tp tc bp bc ap ac
theorem MS {s:BA}(M:s.size≤9223372036854775807):∀(g i:Nat),g+i=s.size→Fin R [] [] w0 (.bool (scan s rO i))→rD s (i:Int) w0 R
 |0,i,hg,H=>by
  apply Kk;exact no (by omega) (lD H (by rw[uj (by omega)]))
 | g+1,i,hg,H=>by
  apply Kk;have hi:i<s.size:=by omega
  have next:rO (k8 s i)=true→∀x:Int,x=ab.wrap ((i:Int)+1)→rD s x w0 R:=by
   rintro hn _ rfl;rw[kS (by omega),show(i:Int)+1=((i+1:Nat):Int)by omega];rw[ua hi hn]at H;exact MS M g (i+1) (by omega) H
  have stop:rO (k8 s i)=false→Fin R [] [] w0 (.bool false):=fun hn=>lD H (by rw[sq hi hn])
  refine yes (by omega) ?_
  repeat' (first
   |refine kD ?_ ?_
   |omega
   |exact stop (decide_eq_false (by omega))
   |exact next (decide_eq_true (by omega))
   |intro _)
theorem Km {s:BA}(M:s.size≤9223372036854775807):∀(g i:Nat),g+i=s.size→Fin R [] [] w0 (.bool (scan s se i))→xM s (i:Int) w0 R
 |0,i,hg,H=>by
  apply LU;exact no (by omega) (lD H (by rw[uj (by omega)]))
 | g+1,i,hg,H=>by
  apply LU;have hi:i<s.size:=by omega
  have next:se (k8 s i)=true→∀x:Int,x=ab.wrap ((i:Int)+1)→xM s x w0 R:=by
   rintro hn _ rfl;rw[kS (by omega),show(i:Int)+1=((i+1:Nat):Int)by omega];rw[ua hi hn]at H;exact Km M g (i+1) (by omega) H
  have stop:se (k8 s i)=false→Fin R [] [] w0 (.bool false):=fun hn=>lD H (by rw[sq hi hn])
  refine yes (by omega) ?_
  repeat' (first
   |refine kD ?_ ?_
   |omega
   |exact stop (decide_eq_false (by omega))
   |exact next (decide_eq_true (by omega))
   |intro _)
theorem FC {b:Int}(h:b=10∨(32≤b∧b≤126)):qV b=true:=by
 simp only[qV,se,iy,decide_eq_true_eq];exact h
theorem CP {b:Int}(h:¬(b=10∨(32≤b∧b≤126))):qV b=false:=by
 cases hb:qV b with
 |false=>rfl
 |true=>simp only[qV,se,iy,decide_eq_true_eq]at hb;exact absurd hb h
theorem Kg {s:BA}(M:s.size≤9223372036854775807):∀(g i:Nat),g+i=s.size→Fin R [] [] w0 (.bool (scan s qV i))→vP s (i:Int) w0 R
 |0,i,hg,H=>by
  apply Kb;exact no (by omega) (lD H (by rw[uj (by omega)]))
 | g+1,i,hg,H=>by
  apply Kb;have hi:i<s.size:=by omega
  have next:qV (k8 s i)=true→∀x:Int,x=ab.wrap ((i:Int)+1)→vP s x w0 R:=by
   rintro hn _ rfl;rw[kS (by omega),show(i:Int)+1=((i+1:Nat):Int)by omega];rw[ua hi hn]at H;exact Kg M g (i+1) (by omega) H
  have stop:qV (k8 s i)=false→Fin R [] [] w0 (.bool false):=fun hn=>lD H (by rw[sq hi hn])
  refine yes (by omega) ?_
  repeat' (first
   |refine kD ?_ ?_
   |omega
   |exact stop (CP (by omega))
   |exact next (FC (by omega))
   |intro _)
theorem xE (s:BA)(O:s.size≤9223372036854775807):l9 TP 104 ⟨[.string s]⟩ (.bool (mK s)):=by
 have h:l9 TP 143 ⟨[.string s,.int .i64 1,.int .i64 20,.func (.func 145) #[] #[]]⟩ (.bool (mK s)):=fun W=>by
  refine OG s 1 20 (Mem.start [] W) ⟨fun h=>⟨fun M=>lf ?_,fun M=>MS O s.size 0 (by omega) (lf ?_)⟩,fun h=>lf ?_⟩
  ·rw[mK,decide_eq_false (by omega),aF]
  ·rw[mK,decide_eq_true (by omega),aH]
  ·rw[mK,decide_eq_false (by omega),aF]
 exact fun W=>UO s (Mem.start [] W) (eA.pure h ⟨_,rfl,rfl,lf rfl⟩)
theorem Ex (s:BA)(O:s.size≤9223372036854775807):l9 TP 103 ⟨[.string s]⟩ (.bool (mP s)):=by
 have h:l9 TP 143 ⟨[.string s,.int .i64 1,.int .i64 300,.func (.func 144) #[] #[]]⟩ (.bool (mP s)):=fun W=>by
  refine QM s 1 300 (Mem.start [] W) ⟨fun h=>⟨fun M=>lf ?_,fun M=>Km O s.size 0 (by omega) (lf ?_)⟩,fun h=>lf ?_⟩
  ·rw[mP,pO,decide_eq_false (p:=s.size≤300) (by omega),aF,bz]
  ·rw[mP,pO,decide_eq_true (p:=s.size≤300) (by omega),decide_eq_true (p:=s.size≠0) (by omega),aH,aH]
  ·rw[mP,decide_eq_false (p:=s.size≠0) (by omega),aF]
 exact fun W=>Pn s (Mem.start [] W) (eA.pure h ⟨_,rfl,rfl,lf rfl⟩)
theorem Pr (s:BA)(O:s.size≤9223372036854775807):l9 TP 105 ⟨[.string s]⟩ (.bool (rI s)):=by
 have h:l9 TP 143 ⟨[.string s,.int .i64 0,.int .i64 1000,.func (.func 146) #[] #[]]⟩ (.bool (rI s)):=fun W=>by
  refine X9 s 0 1000 (Mem.start [] W) ⟨fun h=>⟨fun M=>lf ?_,fun M=>Kg O s.size 0 (by omega) (lf ?_)⟩,fun h=>absurd h (by omega)⟩
  ·rw[rI,decide_eq_false (by omega),aF]
  ·rw[rI,decide_eq_true (by omega),aH]
 exact fun W=>Ur s (Mem.start [] W) (eA.pure h ⟨_,rfl,rfl,lf rfl⟩)
def rA (l:List BA):Nat→Option BA
 |0=>none
 |k+1=>l[k]?
theorem K9 {w0:aj}{p:OA}{c:Nat}{R:bJ→aj→Prop}{l:List BA}(hp:nh (kY w0) p l)(a2:∀t∈l,t.size≤9223372036854775807)(hm:l.length≤9223372036854775807):
  ∀(g i:Nat),g+i=l.length→Fin R [] [] w0 (.bool (tW (rA l i) (l.drop i)))→wZ p l.length c (i:Int) w0 R
 |0,i,hg,H=>by
  apply Mk;refine no (by omega) (lD H ?_);rw[ax (by omega)];cases i<;>rfl
 | g+1,i,hg,H=>by
  apply Mk;have hi:i<l.length:=by omega
  obtain⟨b,o,cc,e1,a4,a5⟩:=hp.get hi;rw[List.drop_eq_getElem_cons hi,tW]at H;have next:mK l[i]=true→vj (rA l i) l[i]=true→wZ p l.length c (ab.wrap ((i:Int)+1)) w0 R:=fun M a9=>by
   rw[M,a9,aH,aH]at H;rw[kS (by omega),show(i:Int)+1=((i+1:Nat):Int)by omega];refine K9 hp a2 hm g (i+1) (by omega) (lD H ?_);rw[rA,ar hi]
  refine yes (by omega) ⟨b,o,e1,by omega,cc,l[i],a4,by simpa using a5,eA.pure (xE _ (a2 _ (bH hi))) ⟨_,rfl,rfl,fun M=>⟨fun a8=>?_,fun a8=>?_⟩,fun M=>lD H (by rw[M];rfl)⟩⟩
  ·obtain⟨k,rfl⟩:∃k,i=k+1:=⟨i-1,by omega⟩
   have V:k<l.length:=by omega
   obtain⟨b2,b3,a3,f1,a6,a7⟩:=hp.get V;have b1:ab.wrap (((k+1:Nat):Int)-1)=(k:Int):=by rw[kS (by omega)];omega
   have a1:rA l (k+1)=some l[k]:=by rw[rA,ar V]
   try dsimp only
   rw[b1];refine⟨b2,b3,f1,by omega,a3,l[k],a6,by simpa using a7,fun O=>lD H ?_,fun O=>next M ?_⟩
   ·rw[M,a1,vj,zY,O];rfl
   ·rw[a1,vj,zY,O];rfl
  ·have:i=0:=by omega
   subst this;exact next M rfl
theorem Q9 {p:OA}{c:Nat}{l:List BA}(hp:nh (kY W) p l)(M:∀t∈l,t.size≤9223372036854775807)(hm:l.length≤9223372036854775807):
  PW TP 140 ⟨[.slice p l.length c]⟩ W (.bool (sJ l)):=by
 refine P4 p l.length c (Mem.start [] W) ⟨fun h=>kQ ?_,fun h=>K9 hp M hm l.length 0 (by omega) (kQ ?_)⟩
 ·rw[sJ,decide_eq_false (by omega),aF]
 ·rw[sJ,decide_eq_true (by omega),aH];rfl
theorem Hk {p q:OA}{a4 a5:Nat}{a b:List BA}(V:nh (kY w0) p a)(a1:nh (kY w0) q b)(b1:a.length=b.length)(hm:a.length≤9223372036854775807):
  ∀(g i:Nat),g+i=a.length→Fin R [] [] w0 (.bool (decide (a.drop i=b.drop i)))→Cz p a.length a4 q b.length a5 (i:Int) w0 R
 |0,i,hg,H=>by
  apply IW;refine no (by omega) (lD H ?_);rw[ax (by omega),ax (by omega)];simp
 |g+1,i,hg,H=>by
  apply IW;have M:i<a.length:=by omega
  have O:i<b.length:=by omega
  obtain⟨a2,o1,c1,e1,a6,a7⟩:=V.get M;obtain⟨B2,b3,a3,f1,a8,a9⟩:=a1.get O;simp only[drop_eq M O]at H;refine yes (by omega) ⟨a2,o1,e1,by omega,c1,a[i],a6,by simpa using a7,B2,b3,f1,by omega,a3,b[i],a8,by simpa using a9,fun h=>lD H (by simp[h]),fun h=>?_⟩;rw[kS (by omega),show(i:Int)+1=((i+1:Nat):Int)by omega];refine Hk V a1 b1 hm g (i+1) (by omega) (lD H ?_);simp[h]
theorem Uy {p q:OA}{M O:Nat}{a b:List BA}(V:nh (kY W) p a)(a2:nh (kY W) q b)(hm:a.length≤9223372036854775807):
  PW TP 106 ⟨[.slice p a.length M,.slice q b.length O]⟩ W (.bool (decide (a=b))):=by
 refine VU p a.length M q b.length O (Mem.start [] W) ⟨fun h=>kQ ?_,fun h=>Hk V a2 (by omega) hm a.length 0 (by omega) (kQ ?_)⟩
 ·rw[decide_eq_false]
  intro a1;subst a1;exact h rfl
 ·simp
theorem dF.oG {x y:dF}(z:k9)(h:¬x.get z=y.get z):(Value.bool false)=.bool (decide (x=y)):=by
 rw[decide_eq_false];intro e;exact h (by rw[e])
theorem VZ {x y:dF}{a6 a4 a2 b4 b1 a8:OA}{a5 a3 a1 b3 a9 a7:Nat}(O:lv (kY W) x a6 a5 a4 a3 a2 a1)(V:lv (kY W) y b4 b3 b1 a9 a8 a7):
  PW TP 66 ⟨[.agg ⟨x.cells a6 a5 a4 a3 a2 a1⟩,.agg ⟨y.cells b4 b3 b1 a9 a8 a7⟩]⟩ W (.bool (decide (x=y))):=by
 refine QH x a6 a5 a4 a3 a2 a1 y b4 b3 b1 a9 a8 a7 (Mem.start [] W) fun B b9=>?_
 refine⟨fun c2=>⟨fun c3=>⟨fun c4=>⟨fun c5=>⟨fun c6=>⟨fun c7=>⟨fun c8=>⟨fun c9=>⟨fun d0=>?_,fun h=>kQ (dF.oG .author h)⟩,fun h=>kQ (dF.oG .title h)⟩,fun h=>kQ (dF.oG .base h)⟩,fun h=>kQ (dF.oG .rev h)⟩,fun h=>kQ (dF.oG .lang h)⟩,fun h=>kQ (dF.oG .story h)⟩,fun h=>kQ (dF.oG .kind h)⟩,fun h=>kQ (dF.oG .time h)⟩,fun h=>kQ (dF.oG .n h)⟩;refine eA.pw (fun b5 M=>Uy (O.tops.mono (lK M)) (V.tops.mono (lK M)) O.fits.2.1.1) ⟨_,rfl,rfl,fun g1=>?_,fun g=>kQ (dF.oG .topics (of_decide_eq_false (p:=x.topics=y.topics) g))⟩;refine eA.pw (fun b5 M=>YR (O.blks.mono (lK M)) (V.blks.mono (lK M)) O.fits.2.2.1) ⟨_,rfl,rfl,fun b6=>?_,fun g=>kQ (dF.oG .blocks (of_decide_eq_false (p:=x.blocks=y.blocks) g))⟩;refine eA.pw (fun b5 M=>ND (O.ints.mono (lK M)) (V.ints.mono (lK M)) O.fits.2.2.2) ⟨_,rfl,rfl,fun b7=>?_,fun g=>kQ (dF.oG .label (of_decide_eq_false (p:=x.lab=y.lab) g))⟩;have g1:=of_decide_eq_true g1;have b6:=of_decide_eq_true b6;have b7:=of_decide_eq_true b7;refine⟨fun k1=>⟨fun d1=>⟨fun d2=>⟨fun d3=>⟨fun d4=>⟨fun d5=>⟨fun d6=>kQ ?_,fun h=>kQ (dF.oG .cls h)⟩,fun h=>kQ (dF.oG .partner h)⟩,fun h=>kQ (dF.oG .name h)⟩,fun h=>kQ (dF.oG .text h)⟩,fun h=>kQ (dF.oG .sentence h)⟩,fun h=>kQ (dF.oG .block h)⟩,fun h=>kQ (dF.oG .editor h)⟩;congr 1;rw[decide_eq_decide];refine⟨fun d7=>?_,fun h=>by rw[h]⟩;apply dF.ext_get;intro z;cases z<;>assumption
abbrev zF3aa (a:dF)(b x2 x3:Nat)(x4 x5 c:OA):Array aa:= #[IV a.n,IV a.time,IV a.kind,IV a.story,.string a.lang,IV a.rev,IV a.base,.string a.title,.string a.author,.slice x4 a.topics.length b,.slice x5 a.blocks.length x2,IV a.lab.unt,.slice c a.lab.after.length x3,IV a.lab.appr,IV a.lab.den,IV a.editor,IV a.block,IV a.sentence,.string a.text,.string a.name,IV a.partner,IV a.cls,IV a.unt]
abbrev zF3ab (a:dF):Array aa:= #[IV a.n,IV a.time,IV a.kind,IV a.story,sZ,IV 0,IV 0,sZ,sZ,.slice none 0 0,.slice none 0 0,IV 0,.slice none 0 0,IV 0,IV 0,IV 0,IV 0,IV 0,sZ,sZ,IV 0,IV 0,IV 0]
abbrev zF3ac (a:dF)(b x2 x3:Nat)(x4 x5 c:OA):Array aa:= #[IV a.n,IV a.time,IV a.kind,IV a.story,.string a.lang,IV a.rev,IV a.base,.string a.title,.string a.author,.slice x4 a.topics.length b,.slice x5 a.blocks.length x2,IV a.lab.unt,.slice c a.lab.after.length x3,IV a.lab.appr,IV a.lab.den,IV 0,IV 0,IV 0,sZ,sZ,IV 0,IV 0,IV 0]
abbrev zF3ad (a:dF):Array aa:= #[IV a.n,IV a.time,IV a.kind,IV a.story,sZ,IV 0,IV 0,sZ,sZ,.slice none 0 0,.slice none 0 0,IV 0,.slice none 0 0,IV 0,IV 0,IV a.editor,IV 0,IV 0,sZ,sZ,IV 0,IV 0,IV 0]
abbrev zF3ae (a:dF)(b:Nat)(x2:OA):Array aa:= #[IV a.n,IV a.time,IV a.kind,IV a.story,sZ,IV 0,IV 0,sZ,sZ,.slice none 0 0,.slice none 0 0,IV a.lab.unt,.slice x2 a.lab.after.length b,IV a.lab.appr,IV a.lab.den,IV 0,IV 0,IV 0,sZ,sZ,IV 0,IV 0,IV 0]
abbrev zF3af (a:dF):Array aa:= #[IV a.n,IV a.time,IV a.kind,IV a.story,.string a.lang,IV 0,IV 0,sZ,sZ,.slice none 0 0,.slice none 0 0,IV 0,.slice none 0 0,IV 0,IV 0,IV 0,IV a.block,IV a.sentence,.string a.text,sZ,IV 0,IV 0,IV 0]
abbrev zF3ag (a:dF):Array aa:= #[IV a.n,IV a.time,IV a.kind,IV a.story,sZ,IV 0,IV 0,sZ,sZ,.slice none 0 0,.slice none 0 0,IV 0,.slice none 0 0,IV 0,IV 0,IV 0,IV 0,IV 0,.string a.text,sZ,IV 0,IV 0,IV 0]
abbrev zF3ah (a:dF):Array aa:= #[IV a.n,IV a.time,IV a.kind,IV 0,sZ,IV 0,IV 0,sZ,sZ,.slice none 0 0,.slice none 0 0,IV 0,.slice none 0 0,IV 0,IV 0,IV 0,IV 0,IV 0,.string a.text,.string a.name,IV 0,IV 0,IV 0]
abbrev zF3ai (a:dF):Array aa:= #[IV a.n,IV a.time,IV a.kind,IV 0,sZ,IV 0,IV 0,sZ,sZ,.slice none 0 0,.slice none 0 0,IV 0,.slice none 0 0,IV 0,IV 0,IV 0,IV 0,IV 0,sZ,sZ,IV a.partner,IV a.cls,IV a.unt]
abbrev zF3aj:Array aa:= #[IV 0,IV 0,IV 0,IV 0,sZ,IV 0,IV 0,sZ,sZ,.slice none 0 0,.slice none 0 0,IV 0,.slice none 0 0,IV 0,IV 0,IV 0,IV 0,IV 0,sZ,sZ,IV 0,IV 0,IV 0]
abbrev zF3ak (a:dF):Array aa:= #[IV a.n,IV a.time,IV a.kind,IV 0,sZ,IV 0,IV 0,sZ,sZ,.slice none 0 0,.slice none 0 0,IV 0,.slice none 0 0,IV 0,IV 0,IV 0,IV 0,IV 0,sZ,sZ,IV a.partner,IV 0,IV a.unt]
noncomputable def Ai (d:dF)(j:OA)(i:Nat)(h:OA)(g:Nat)(f:OA)(e a b c:Nat)(l k:Bool):Cut:=⟨TP,[],65,171,(KC Tryz.f65 62),[(1,PP a),(2,PP b),(4,PP c),(5,.bool l),(6,.bool k)],[(a,.cells (zF3aa d i g e j h f) 38),(b,.cells zF3aj 38),(c,.cells (zF3ab d) 38)]⟩
theorem Uc (a:dF)(g:OA)(f:Nat)(e:OA)(d:Nat)(c:OA)(b h j i:Nat)(k l:Bool)(H:VP [] w0 R (.ru [3,200]<|.P 7 29 (a.kind=1) (.r 2<|.dD<|.nm [1,2,4,5]<|.ph 20 [0,1,2,3,4,5,6,7,8,9,10] [11,12,13,14,15,16,17,18,19] 2<|.qu [1,100,1,100,1,100,1,100,1,100,1]<|.dn<|.st 3<|.st 0<|.st 3<|.st 0<|.st 3<|.st 0<|.st 3<|.st 0<|.st 3<|.dn<|.tl<|.r 2<|.dD<|.nm [1,2,4,5]<|.ph 12 [0,1,2,3,4,5,6] [7,8,9,10,11] 2<|.qu [1,100,1,100,1,100,1]<|.dn<|.st 3<|.st 0<|.st 3<|.st 0<|.st 3<|.dn<|.tl<|.r 2<|.pm [0,2,1]<|.dD<|.nm [1,2,4,5]<|.ph 7 [0,1,2,3,4,5] [6] 2<|.qu [101,2]<|.zB 57 k (.qu [100]<|.ex fun p=>.qc 100 [.agg (zF3aa a f d b g e c)] [(h,.cells (zF3aa a f d b g e c) 38),(i,.cells (zF3ac a f d b g e c) 38)] (.bool p)<|.qu [1]<|.dn<|.st 3<|.dn<|.tl<|.r 2<|.rc 2 0 (.tuple #[.agg (zF3ac a f d b g e c),.bool p]) [(h,.cells (zF3aa a f d b g e c) 38),(i,.cells (zF3ac a f d b g e c) 38),(j,.cells (zF3ac a f d b g e c) 38)])<|.qu [3]<|.dn<|.st 3<|.dn<|.tl<|.r 2<|.rc 2 0 (.tuple #[.agg (zF3ac a f d b g e c),.bool false]) [(h,.cells (zF3aa a f d b g e c) 38),(i,.cells (zF3ac a f d b g e c) 38),(j,.cells (zF3ac a f d b g e c) 38)])<|.P 6 61 (a.kind=2) (.ru [4,200,1,202]<|.r 2<|.pm [0,2,1]<|.dD<|.nm [1,2,4,5]<|.ph 8 [0,1,2,3,4,5,6] [7] 2<|.qu [101,2]<|.zB 68 k (.qu [1,100]<|.ex fun q=>.qc 64 [IV a.editor,IV 1,IV 5] [(h,.cells (zF3aa a f d b g e c) 38),(i,.cells (zF3ad a) 38)] (.bool q)<|.qu [1]<|.dn<|.st 3<|.dn<|.tl<|.r 2<|.rc 2 0 (.tuple #[.agg (zF3ad a),.bool q]) [(h,.cells (zF3aa a f d b g e c) 38),(i,.cells (zF3ad a) 38),(j,.cells (zF3ad a) 38)])<|.qu [4]<|.dn<|.st 3<|.dn<|.tl<|.r 2<|.rc 2 0 (.tuple #[.agg (zF3ad a),.bool false]) [(h,.cells (zF3aa a f d b g e c) 38),(i,.cells (zF3ad a) 38),(j,.cells (zF3ad a) 38)])<|.P 6 73 (a.kind=3) (.ru [4,200,1,202]<|.r 2<|.pm [0,2,1]<|.dD<|.nm [1,2,4,5]<|.ph 8 [0,1,2,3,4,5,6] [7] 2<|.qu [101,2]<|.zB 80 k (.qu [1,100]<|.ex fun s=>.qc 101 [.agg (kBhq a c b)] [(h,.cells (zF3aa a f d b g e c) 38),(i,.cells (zF3ae a b c) 38)] (.bool s)<|.qu [1]<|.dn<|.st 3<|.dn<|.tl<|.r 2<|.rc 2 0 (.tuple #[.agg (zF3ae a b c),.bool s]) [(h,.cells (zF3aa a f d b g e c) 38),(i,.cells (zF3ae a b c) 38),(j,.cells (zF3ae a b c) 38)])<|.qu [4]<|.dn<|.st 3<|.dn<|.tl<|.r 2<|.rc 2 0 (.tuple #[.agg (zF3ae a b c),.bool false]) [(h,.cells (zF3aa a f d b g e c) 38),(i,.cells (zF3ae a b c) 38),(j,.cells (zF3ae a b c) 38)])<|.P 6 85 (a.kind=4) (.r 2<|.dD<|.nm [1,2,4,5]<|.ph 16 [0,1,2,3,4,5,6,7,8] [9,10,11,12,13,14,15] 2<|.qu [1,100,1,100,1,100,1,100,1]<|.dn<|.st 3<|.st 0<|.st 3<|.st 0<|.st 3<|.st 0<|.st 3<|.dn<|.tl<|.r 2<|.pm [0,2,1]<|.dD<|.nm [1,2,4,5]<|.ph 7 [0,1,2,3,4,5] [6] 2<|.qu [101,2]<|.zB 101 k (.qu [100]<|.ex fun t=>.qc 102 [.agg (zF3aa a f d b g e c)] [(h,.cells (zF3aa a f d b g e c) 38),(i,.cells (zF3af a) 38)] (.bool t)<|.qu [1]<|.dn<|.st 3<|.dn<|.tl<|.r 2<|.rc 2 0 (.tuple #[.agg (zF3af a),.bool t]) [(h,.cells (zF3aa a f d b g e c) 38),(i,.cells (zF3af a) 38),(j,.cells (zF3af a) 38)])<|.qu [3]<|.dn<|.st 3<|.dn<|.tl<|.r 2<|.rc 2 0 (.tuple #[.agg (zF3af a),.bool false]) [(h,.cells (zF3aa a f d b g e c) 38),(i,.cells (zF3af a) 38),(j,.cells (zF3af a) 38)])<|.P 6 105 (a.kind=5) (.ru [4,200,1,202]<|.r 2<|.pm [0,2,1]<|.dD<|.nm [1,2,4,5]<|.ph 8 [0,1,2,3,4,5,6] [7] 2<|.qu [101,2]<|.zB 112 k (.qu [1,100]<|.ex fun u=>.qc 103 [.string a.text] [(h,.cells (zF3aa a f d b g e c) 38),(i,.cells (zF3ag a) 38)] (.bool u)<|.qu [1]<|.dn<|.st 3<|.dn<|.tl<|.r 2<|.rc 2 0 (.tuple #[.agg (zF3ag a),.bool u]) [(h,.cells (zF3aa a f d b g e c) 38),(i,.cells (zF3ag a) 38),(j,.cells (zF3ag a) 38)])<|.qu [4]<|.dn<|.st 3<|.dn<|.tl<|.r 2<|.rc 2 0 (.tuple #[.agg (zF3ag a),.bool false]) [(h,.cells (zF3aa a f d b g e c) 38),(i,.cells (zF3ag a) 38),(j,.cells (zF3ag a) 38)])<|.P 7 117 (a.kind=6) (.ru [5,202,1,201]<|.r 2<|.rc 1 0 (.tuple #[.agg (zF3ab a),.bool k]) [(h,.cells (zF3aa a f d b g e c) 38),(j,.cells (zF3ab a) 38),(i,.cells (zF3ab a) 38)])<|.P 5 117 (a.kind=10) (.ru [3,202,1,201]<|.r 2<|.rc 1 0 (.tuple #[.agg (zF3ab a),.bool k]) [(h,.cells (zF3aa a f d b g e c) 38),(j,.cells (zF3ab a) 38),(i,.cells (zF3ab a) 38)])<|.P 6 122 (a.kind=7) (.r 2<|.dD<|.nm [1,2,4]<|.ph 10 [0,1,2,3,4] [5,6,7,8,9] 2<|.qu [1,100,1,100,1]<|.dn<|.st 3<|.st 0<|.st 3<|.st 0<|.st 3<|.dn<|.tl<|.r 2<|.pm [0,2,1]<|.dD<|.nm [1,2,4]<|.ph 10 [0,1,2,3,4,5,6,7,8] [9] 2<|.hp [(h,.cells (zF3aa a f d b g e c) 38),(i,.cells (zF3ah a) 38)] fun m=>.qu [101,1,100]<|.ex fun w=>.qc 104 [.string a.name] m (.bool w)<|.qu [1]<|.zB 135 w (.qu [1,100]<|.ex fun n=>.qc 105 [.string a.text] m (.bool n)<|.qu [1]<|.dn<|.st 3<|.dn<|.tl<|.r 2<|.rc 2 0 (.tuple #[.agg (zF3ah a),.bool n]) [(h,.cells (zF3aa a f d b g e c) 38),(i,.cells (zF3ah a) 38),(j,.cells (zF3ah a) 38)])<|.qu [4]<|.dn<|.st 3<|.dn<|.tl<|.r 2<|.rc 2 0 (.tuple #[.agg (zF3ah a),.bool false]) [(h,.cells (zF3aa a f d b g e c) 38),(i,.cells (zF3ah a) 38),(j,.cells (zF3ah a) 38)])<|.P 6 140 (a.kind=8) (.r 2<|.dD<|.nm [1,2,4,6]<|.ph 14 [0,1,2,3,4,5,6] [7,8,9,10,11,12,13] 2<|.qu [1,100,1,100,1,100,1]<|.dn<|.st 3<|.st 0<|.st 3<|.st 0<|.st 3<|.st 0<|.st 3<|.dn<|.tl<|.r 2<|.pm [0,2,1]<|.dD<|.nm [1,2,4,6]<|.ph 8 [0,1,2,3,4,5,6] [7] 2<|.qu [101,2]<|.zB 154 l (.qu [1,100]<|.ex fun o=>.qc 64 [IV a.cls,IV 0,IV 3] [(h,.cells (zF3aa a f d b g e c) 38),(i,.cells (zF3ai a) 38)] (.bool o)<|.qu [1]<|.dn<|.st 3<|.dn<|.tl<|.r 2<|.rc 2 0 (.tuple #[.agg (zF3ai a),.bool o]) [(h,.cells (zF3aa a f d b g e c) 38),(i,.cells (zF3ai a) 38),(j,.cells (zF3ai a) 38)])<|.qu [4]<|.dn<|.st 3<|.dn<|.tl<|.r 2<|.rc 2 0 (.tuple #[.agg (zF3ai a),.bool false]) [(h,.cells (zF3aa a f d b g e c) 38),(i,.cells (zF3ai a) 38),(j,.cells (zF3ai a) 38)])<|.P 6 159 (a.kind=9) (.r 2<|.dD<|.nm [1,2,4,6]<|.ph 10 [0,1,2,3,4] [5,6,7,8,9] 2<|.qu [1,100,1,100,1]<|.dn<|.st 3<|.st 0<|.st 3<|.st 0<|.st 3<|.dn<|.tl<|.ru [3,202,1,201]<|.r 2<|.rc 1 0 (.tuple #[.agg (zF3ak a),.bool l]) [(h,.cells (zF3aa a f d b g e c) 38),(j,.cells (zF3ak a) 38),(i,.cells (zF3ak a) 38)])<|.ru [5,202,201]<|.r 2<|.rc 1 0 (.tuple #[.agg (zF3ab a),.bool false]) [(h,.cells (zF3aa a f d b g e c) 38),(j,.cells (zF3ab a) 38),(i,.cells (zF3ab a) 38)])):Ai a g f e d c b h j i k l w0 R:=VC.go Tryz.func65 _ H
theorem Wx (a:dF)(h:OA)(g:Nat)(f:OA)(e:Nat)(d:OA)(c:Nat)(hm:Mem [] [] w0 W)(H:VP [] w0 R (.np 2 (.cells (zF3aa a g e c h f d) 38) fun B=>.np 0 (.cells zF3aj 38) fun i=>.ru [5,200,1,200,1,200,1,200]<|.np 1 (.cells zF3aj 38) fun j=>.hp [(B,.cells (zF3aa a g e c h f d) 38),(i,.cells zF3aj 38),(j,.cells (zF3ab a) 38)] fun b=>.ru [202,4,200]<|.cl 0 64 [IV a.story,IV 1,IV 64] b<|.ex fun k=>.rt (.bool k) b<|.ru [5,200]<|.cl 0 64 [IV a.partner,IV 1,IV 8] b<|.ex fun l=>.rt (.bool l) b<|.B 1 22 l (.ru [1,200]<|.cl 0 64 [IV a.unt,IV 0,IV 1000000000] b<|.ex fun m=>.rt (.bool m) b<|.ct 4 [0,1,2] (Ai a h g f e d c B i j k m))<|.ct 7 [0,1,2] (Ai a h g f e d c B i j k false))):aE TP 65 ⟨[.agg (zF3aa a g e c h f d)]⟩ W R:=VC.cs Tryz.func65 hm _ H
theorem XB (a c b:Int)(hm:Mem [] [] w0 W)(H:VP [] w0 R (.P 10 10 (c≤a) (.re 6 (.bool (decide (a≤b))) [])<|.re 6 (.bool false) [])):aE TP 64 ⟨[IV a,IV c,IV b]⟩ W R:=VC.cs dI hm _ H
abbrev zF4aa (a:dF)(b x2 x3:Nat)(x4 x5 c:OA):Array aa:= #[IV a.n,IV a.time,IV a.kind,IV a.story,.string a.lang,IV a.rev,IV a.base,.string a.title,.string a.author,.slice x4 a.topics.length b,.slice x5 a.blocks.length x2,IV a.lab.unt,.slice c a.lab.after.length x3,IV a.lab.appr,IV a.lab.den,IV a.editor,IV a.block,IV a.sentence,.string a.text,.string a.name,IV a.partner,IV a.cls,IV a.unt]
abbrev kAjq:=(#[IV 0,IV 0,IV 0,IV 0,sZ,IV 0,IV 0,sZ,sZ,.slice none 0 0,.slice none 0 0,IV 0,.slice none 0 0,IV 0,IV 0,IV 0,IV 0,IV 0,sZ,sZ,IV 0,IV 0,IV 0]:Array aa)
theorem Yt (a:dF)(g:OA)(f:Nat)(e:OA)(d:Nat)(c:OA)(b:Nat)(hm:Mem [] [] w0 W)(H:VP [] w0 R (.np 2 (.cells (zF4aa a f d b g e c) 38) fun B=>.hp [(B,.cells (zF4aa a f d b g e c) 38)] fun h=>.ru [6,200]<|.il 0 dI [IV a.n,IV 0,IV 500]<|.P 10 10 (0≤a.n) (.rk 6<|.I 2 9 (a.n≤500) (.re 11 (.bool false) h)<|.ru [1,200]<|.il 0 dI [IV a.time,IV 0,IV 1000000000]<|.P 10 10 (0≤a.time) (.rk 6<|.I 3 14 (a.time≤1000000000) (.re 5 (.bool false) h)<|.ru [4,200]<|.cl 0 65 [.agg (zF4aa a f d b g e c)] h<|.x5 fun(j:dF) utp utc ubp ubc=>.x3 fun l k m=>.rt (.tuple #[.agg (zF4aa j utc ubc k utp ubp l),.bool m]) h<|.np 3 (.cells kAjq 38) fun p=>.hp [(B,.cells (zF4aa a f d b g e c) 38),(p,.cells (zF4aa j utc ubc k utp ubp l) 38)] fun i=>.ru [201]<|.B 6 21 m (.ru [200,201]<|.cl 0 66 [.agg (zF4aa a f d b g e c),.agg (zF4aa j utc ubc k utp ubp l)] i<|.ex fun o=>.rt (.bool o) i<|.re 3 (.bool o) i)<|.re 6 (.bool false) i)<|.rk 6<|.re 8 (.bool false) h)<|.rk 6<|.re 13 (.bool false) h)):aE TP 24 ⟨[.agg (zF4aa a f d b g e c)]⟩ W R:=VC.cs Tryz.func24 hm _ H
theorem eA.ex {L:aX}{Q:aa→Prop}(h:∀W,Mem L S w0 W→aE P g args W fun e M=>∃v,e=.returned v∧Below W.heap.size W M∧Q v)(O:∀v,Q v→K v L):eA P g args L S w0 K:=
 fun W hm=>(h W hm).mono fun e M ⟨v,he,hb,hq⟩=>⟨v,L,he,hm.after hb,O v hq⟩
theorem oN {Q:aa→Prop}{v:aa}{L:aX}(h:Q v):Fin (fun e M=>∃v,e=.returned v∧Below W.heap.size W M∧Q v) L [] W v:=fun _ hm=>⟨v,rfl,hm.kept.below,h⟩
theorem yH (n a b:Int):l9 TP 64 ⟨[.int .i64 n,.int .i64 a,.int .i64 b]⟩ (.bool (decide (a≤n∧n≤b))):=fun W=>by
 refine XB n a b (Mem.start [] W) ⟨fun h=>lf ?_,fun h=>lf ?_⟩
 ·congr 1;rw[decide_eq_decide];exact⟨fun M=>⟨h,M⟩,fun M=>M.2⟩
 ·rw[decide_eq_false];exact fun M=>h M.1
theorem SW {f:dF}(h:lv (kY W) f tp tc bp bc ap ac):PW TP 100 ⟨[.agg ⟨f.cells tp tc bp bc ap ac⟩]⟩ W (.bool f.qd):=by
 obtain⟨⟨b4,b5,b6,c2,c3⟩,⟨t1,b7⟩,b9,b3⟩:=h.fits;refine Zf f tp tc bp bc ap ac (Mem.start [] W) fun B=>?_
 refine eA.pure (xE _ b4) ⟨_,rfl,rfl,fun a2=>?_,fun a2=>kQ (by rw[dF.qd,a2];rfl)⟩;have a9:¬(1≤f.rev∧f.rev≤100)→f.qd=false:=fun hn=>by rw[dF.qd,decide_eq_false hn,aF,bz]
 refine⟨fun a5=>⟨fun a6=>?_,fun a6=>kQ (by rw[a9 (by omega)])⟩,fun a5=>kQ (by rw[a9 (by omega)])⟩;have b1:¬(0≤f.base∧f.base≤f.rev-1)→f.qd=false:=fun hn=>by rw[dF.qd,decide_eq_false hn,aF,bz,bz]
 rw[kS (by omega)];refine⟨fun a7=>⟨fun a8=>?_,fun a8=>kQ (by rw[b1 (by omega)])⟩,fun a7=>kQ (by rw[b1 (by omega)])⟩;have e:f.qd=(mP f.title&&(mK f.author&&(sJ f.topics&&(m9 f.blocks&&f.lab.ok)))):=by
  rw[dF.qd,a2,decide_eq_true (p:=1≤f.rev∧f.rev≤100) ⟨a5,a6⟩,decide_eq_true (p:=0≤f.base∧f.base≤f.rev-1) ⟨a7,a8⟩];rfl
 rw[e];refine eA.pure (Ex _ b5) ⟨_,rfl,rfl,fun M=>?_,fun M=>kQ (by rw[M];rfl)⟩;refine eA.pure (xE _ b6) ⟨_,rfl,rfl,fun O=>?_,fun O=>kQ (by rw[M,O];rfl)⟩;refine eA.pw (fun a4 V=>Q9 (h.tops.mono (lK V)) b7 t1) ⟨_,rfl,rfl,fun a1=>?_,fun a1=>kQ (by rw[M,O,a1];rfl)⟩;refine eA.pw (fun a4 V=>FR (h.blks.mono (lK V)) h.cb) ⟨_,rfl,rfl,fun a3=>?_,fun a3=>kQ (by rw[M,O,a1,a3];rfl)⟩;exact eA.pw (fun a4 V=>Ee (h.ints.mono (lK V)) b3) ⟨_,rfl,rfl,kQ (by rw[M,O,a1,a3];rfl)⟩
theorem Q6 {f:dF}(h:lv (kY W) f tp tc bp bc ap ac):PW TP 102 ⟨[.agg ⟨f.cells tp tc bp bc ap ac⟩]⟩ W (.bool f.qy):=by
 obtain⟨⟨a5,a9,b1,a6,b3⟩,⟨t1,b4⟩,a8,a7⟩:=h.fits;refine Pc f tp tc bp bc ap ac (Mem.start [] W) fun B=>?_
 refine eA.pure (xE _ a5) ⟨_,rfl,rfl,fun M=>?_,fun M=>kQ (by rw[dF.qy,M];rfl)⟩;have a3:¬(1≤f.block∧f.block≤1000)→f.qy=false:=fun hn=>by rw[dF.qy,decide_eq_false hn,aF,bz]
 have a4:¬(0≤f.sentence∧f.sentence≤299)→f.qy=false:=fun hn=>by rw[dF.qy,decide_eq_false hn,aF,bz,bz]
 refine⟨fun O=>⟨fun V=>⟨fun a1=>⟨fun a2=>?_,fun a2=>kQ (by rw[a4 (by omega)])⟩,fun a1=>kQ (by rw[a4 (by omega)])⟩,fun V=>kQ (by rw[a3 (by omega)])⟩,fun O=>kQ (by rw[a3 (by omega)])⟩;refine eA.pure (Ex _ a6) ⟨_,rfl,rfl,kQ ?_⟩;rw[dF.qy,M,decide_eq_true (p:=1≤f.block∧f.block≤1000) ⟨O,V⟩,decide_eq_true (p:=0≤f.sentence∧f.sentence≤299) ⟨a1,a2⟩];rfl
def E0 (lk:Lk)(f:dF)(v:aa):Prop:=
 ∃(u:dF) (tp:OA) (tc:Nat) (bp:OA) (bc:Nat) (ap:OA) (ac:Nat),v=.tuple #[.agg ⟨u.cells tp tc bp bc ap ac⟩,.bool f.lr]∧(f.lr=true→u=f.used)∧lv lk u tp tc bp bc ap ac
theorem sQ {f:dF}{l:List k9}(h:k6 f.kind=l):f.used=l.foldl (fun g x=>g.set x (f.get x)) (dF.bare f.n f.time f.kind):=by rw[dF.used,h]
theorem Cu {p:OA}:nh lk p []:=fun h=>absurd h (by simp)
theorem uN {p:OA}:mY lk p []:=fun h=>absurd h (by simp)
theorem M7 {p:OA}:lX lk p []:=fun h=>absurd h (by simp)
theorem ny:e0.size≤9223372036854775807:=by show 0≤_;omega
theorem kd {f:dF}{n:Int}{l:List k9}(h:f.kind=n)(e:k6 n=l):k6 f.kind=l:=by rw[h];exact e
theorem XJ {f:dF}(k:f.kind=1):({dF.bare f.n f.time f.kind with story:=f.story,lang:=f.lang,rev:=f.rev,base:=f.base,title:=f.title,author:=f.author,topics:=f.topics,blocks:=f.blocks,lab:=f.lab}:dF)=f.used:=by
 rw[sQ (kd (l:=[.story,.lang,.rev,.base,.title,.author,.topics,.blocks,.label]) k rfl)];simp only[bS,dh,dF.set,dF.get]
theorem Pe {f:dF}(k:f.kind=1):f.lr=(f.mX&&f.qd):=by
 unfold dF.lr;simp only[k,reduceIte,aV]
theorem PV {f:dF}(k:f.kind=2):({dF.bare f.n f.time f.kind with story:=f.story,editor:=f.editor}:dF)=f.used:=by
 rw[sQ (kd (l:=[.story,.editor]) k rfl)];simp only[bS,dh,dF.set,dF.get]
theorem We {f:dF}(k:f.kind=2):f.lr=(f.mX&&decide (1≤f.editor∧f.editor≤5)):=by
 unfold dF.lr;simp only[k,reduceIte,aV]
theorem S3 {f:dF}(k:f.kind=3):({dF.bare f.n f.time f.kind with story:=f.story,lab:=f.lab}:dF)=f.used:=by
 rw[sQ (kd (l:=[.story,.label]) k rfl)];simp only[bS,dh,dF.set,dF.get]
theorem VY {f:dF}(k:f.kind=3):f.lr=(f.mX&&f.lab.ok):=by
 unfold dF.lr;simp only[k,reduceIte,aV]
theorem Pj {f:dF}(k:f.kind=4):({dF.bare f.n f.time f.kind with story:=f.story,lang:=f.lang,block:=f.block,sentence:=f.sentence,text:=f.text}:dF)=f.used:=by
 rw[sQ (kd (l:=[.story,.lang,.block,.sentence,.text]) k rfl)];simp only[bS,dh,dF.set,dF.get]
theorem SC {f:dF}(k:f.kind=4):f.lr=(f.mX&&f.qy):=by
 unfold dF.lr;simp only[k,reduceIte,aV]
theorem Ua {f:dF}(k:f.kind=5):({dF.bare f.n f.time f.kind with story:=f.story,text:=f.text}:dF)=f.used:=by
 rw[sQ (kd (l:=[.story,.text]) k rfl)];simp only[bS,dh,dF.set,dF.get]
theorem VN {f:dF}(k:f.kind=5):f.lr=(f.mX&&mP f.text):=by
 unfold dF.lr;simp only[k,reduceIte,aV]
theorem SK {f:dF}(k:f.kind=6):({dF.bare f.n f.time f.kind with story:=f.story}:dF)=f.used:=by
 rw[sQ (kd (l:=[.story]) k rfl)];simp only[bS,dh,dF.set,dF.get]
theorem Zr {f:dF}(k:f.kind=6):f.lr=(f.mX):=by
 unfold dF.lr;simp only[k,reduceIte,aV]
theorem SH {f:dF}(k:f.kind=7):({dF.bare f.n f.time f.kind with name:=f.name,text:=f.text}:dF)=f.used:=by
 rw[sQ (kd (l:=[.name,.text]) k rfl)];simp only[bS,dh,dF.set,dF.get]
theorem TN {f:dF}(k:f.kind=7):f.lr=(mK f.name&&rI f.text):=by
 unfold dF.lr;simp only[k,reduceIte,aV]
theorem YW {f:dF}(k:f.kind=8):({dF.bare f.n f.time f.kind with partner:=f.partner,cls:=f.cls,unt:=f.unt}:dF)=f.used:=by
 rw[sQ (kd (l:=[.partner,.cls,.unt]) k rfl)];simp only[bS,dh,dF.set,dF.get]
theorem Xm {f:dF}(k:f.kind=8):f.lr=(f.qo&&decide (0≤f.cls∧f.cls≤3)):=by
 unfold dF.lr;simp only[k,reduceIte,aV]
theorem VJ {f:dF}(k:f.kind=9):({dF.bare f.n f.time f.kind with partner:=f.partner,unt:=f.unt}:dF)=f.used:=by
 rw[sQ (kd (l:=[.partner,.unt]) k rfl)];simp only[bS,dh,dF.set,dF.get]
theorem TW {f:dF}(k:f.kind=9):f.lr=(f.qo):=by
 unfold dF.lr;simp only[k,reduceIte,aV]
theorem Uz {f:dF}(k:f.kind=10):({dF.bare f.n f.time f.kind with story:=f.story}:dF)=f.used:=by
 rw[sQ (kd (l:=[.story]) k rfl)];simp only[bS,dh,dF.set,dF.get]
theorem Xp {f:dF}(k:f.kind=10):f.lr=(f.mX):=by
 unfold dF.lr;simp only[k,reduceIte,aV]
theorem sd {f u:dF}{b:Bool}(M:f.lr=b)(O:u=f.used)(h:lv lk u tp tc bp bc ap ac):E0 lk f (.tuple #[.agg ⟨u.cells tp tc bp bc ap ac⟩,.bool b]):=
 ⟨u,_,_,_,_,_,_,by rw[M],fun _=>O,h⟩
abbrev UR (W:aj)(lk:Lk)(f:dF):bJ→aj→Prop:=fun e W'=>∃v,e=.returned v∧Below W.heap.size W W'∧E0 lk f v
theorem qi {u:dF}(M:u.topics=[])(O:u.blocks=[])(V:u.lab.after=[])(a1:u.lang.size≤9223372036854775807∧u.title.size≤9223372036854775807∧u.author.size≤9223372036854775807∧u.text.size≤9223372036854775807∧u.name.size≤9223372036854775807):lv lk u none 0 none 0 none 0:=
 ⟨by rw[M];exact Cu,by rw[O];exact uN,by rw[V];exact M7,by rw[M];exact aD _,by rw[O];exact aD _,by rw[V];exact aD _,a1,by rw[M];exact⟨by simp,by simp⟩,by rw[O];simp,by rw[V];simp⟩
theorem JN {f:dF}(h:lv (kY W) f tp tc bp bc ap ac)(g:lv lk f tp tc bp bc ap ac){B3 a7 a8:Nat}{story partner:Bool}(b3:story=f.mX)(b1:partner=f.qo):
  Ai f tp tc bp bc ap ac B3 a7 a8 story partner W (UR W lk f):=by
 obtain⟨⟨a5,c6,c7,a1,a6⟩,⟨t1,c8⟩,a9,a2⟩:=h.fits;have z:=ny;have a4:(0:Nat)≤9223372036854775807:=by omega
 subst b3 b1;apply Uc;refine⟨fun k=>?_,fun k1=>⟨fun k=>?_,fun b5=>⟨fun k=>?_,fun b6=>⟨fun k=>?_,fun b7=>⟨fun k=>?_,fun b9=>⟨fun k=>?_,fun c2=>⟨fun k=>?_,fun b4=>⟨fun k=>?_,fun c3=>⟨fun k=>?_,fun c4=>⟨fun k=>?_,fun c5=>?_⟩⟩⟩⟩⟩⟩⟩⟩⟩⟩
 ·have ev:=Pe k
  have q:=fun(b:Bool) (O:f.lr=b)=>sd (lk:=lk) O (XJ k) ⟨g.tops,g.blks,g.ints,g.ct,g.cb,g.ca,⟨a5,c6,c7,z,z⟩,⟨t1,c8⟩,a9,a2⟩
  exact⟨fun M=>⟨_,m3.pw fun a3 V=>SW (h.mono (lK V)),oN (q _ (by rw[ev,M];rfl))⟩,fun M=>oN (q _ (by rw[ev,M];rfl))⟩
 ·have ev:=We k
  have q:=fun(b:Bool) (O:f.lr=b)=>sd (lk:=lk) O (PV k) (qi rfl rfl rfl ⟨z,z,z,z,z⟩)
  exact⟨fun M=>⟨_,m3.of (yH _ _ _),oN (q _ (by rw[ev,M];rfl))⟩,fun M=>oN (q _ (by rw[ev,M];rfl))⟩
 ·have ev:=VY k
  have q:=fun(b:Bool) (O:f.lr=b)=>sd (lk:=lk) (tp:=none) (tc:=0) (bp:=none) (bc:=0) (ap:=ap) (ac:=ac) O (S3 k) ⟨Cu,uN,g.ints,aD _,aD _,g.ca,⟨z,z,z,z,z⟩,⟨a4,by simp[dF.bare,dF.zero]⟩,a4,a2⟩
  exact⟨fun M=>⟨_,m3.pw fun a3 V=>Ee (h.ints.mono (lK V)) a2,oN (q _ (by rw[ev,M];rfl))⟩,fun M=>oN (q _ (by rw[ev,M];rfl))⟩
 ·have ev:=SC k
  have q:=fun(b:Bool) (O:f.lr=b)=>sd (lk:=lk) O (Pj k) (qi rfl rfl rfl ⟨a5,z,z,a1,z⟩)
  exact⟨fun M=>⟨_,m3.pw fun a3 V=>Q6 (h.mono (lK V)),oN (q _ (by rw[ev,M];rfl))⟩,fun M=>oN (q _ (by rw[ev,M];rfl))⟩
 ·have ev:=VN k
  have q:=fun(b:Bool) (O:f.lr=b)=>sd (lk:=lk) O (Ua k) (qi rfl rfl rfl ⟨z,z,z,a1,z⟩)
  exact⟨fun M=>⟨_,m3.of (Ex _ a1),oN (q _ (by rw[ev,M];rfl))⟩,fun M=>oN (q _ (by rw[ev,M];rfl))⟩
 ·have ev:=Zr k
  have q:=fun(b:Bool) (O:f.lr=b)=>sd (lk:=lk) O (SK k) (qi rfl rfl rfl ⟨z,z,z,z,z⟩)
  exact oN (q _ ev)
 ·have ev:=Xp k
  have q:=fun(b:Bool) (O:f.lr=b)=>sd (lk:=lk) O (Uz k) (qi rfl rfl rfl ⟨z,z,z,z,z⟩)
  exact oN (q _ ev)
 ·have ev:=TN k
  have q:=fun(b:Bool) (O:f.lr=b)=>sd (lk:=lk) O (SH k) (qi rfl rfl rfl ⟨z,z,z,a1,a6⟩)
  exact⟨_,m3.of (xE _ a6),fun M=>⟨_,m3.of (Pr _ a1),oN (q _ (by rw[ev,M];rfl))⟩,fun M=>oN (q _ (by rw[ev,M];rfl))⟩
 ·have ev:=Xm k
  have q:=fun(b:Bool) (O:f.lr=b)=>sd (lk:=lk) O (YW k) (qi rfl rfl rfl ⟨z,z,z,z,z⟩)
  exact⟨fun M=>⟨_,m3.of (yH _ _ _),oN (q _ (by rw[ev,M];rfl))⟩,fun M=>oN (q _ (by rw[ev,M];rfl))⟩
 ·have ev:=TW k
  have q:=fun(b:Bool) (O:f.lr=b)=>sd (lk:=lk) O (VJ k) (qi rfl rfl rfl ⟨z,z,z,z,z⟩)
  exact oN (q _ ev)
 ·have ev:f.lr=false:=by unfold dF.lr;simp only[k1,b5,b6,b7,b9,c2,c3,c4,c5,b4,if_false]
  exact oN ⟨({dF.bare f.n f.time f.kind with story:=f.story}:dF),none,0,none,0,none,0,by rw[ev];rfl,fun h=>absurd h (by rw[ev];decide),qi rfl rfl rfl ⟨z,z,z,z,z⟩⟩
theorem XE {f:dF}(h:lv (kY W) f tp tc bp bc ap ac)(g:lv lk f tp tc bp bc ap ac):
  aE TP 65 ⟨[.agg ⟨f.cells tp tc bp bc ap ac⟩]⟩ W (UR W lk f):=by
 refine Wx f tp tc bp bc ap ac (Mem.start [] W) fun B O B2=>?_
 refine eA.pure (yH _ _ _) ⟨_,rfl,rfl,?_⟩;refine eA.pure (yH _ _ _) ⟨_,rfl,rfl,fun M=>?_,fun M=>?_⟩
 ·refine eA.pure (yH _ _ _) ⟨_,rfl,rfl,JN h g rfl ?_⟩
  have M:=of_decide_eq_true M;rw[dF.qo,decide_eq_decide];constructor
  ·intro h;omega
  ·intro h;omega
 ·refine JN h g rfl ?_
  have M:=of_decide_eq_false M;rw[dF.qo,decide_eq_false];omega
theorem FP {f:dF}(h:lv (kY W) f tp tc bp bc ap ac):PW TP 24 ⟨[.agg ⟨f.cells tp tc bp bc ap ac⟩]⟩ W (.bool f.ok):=by
 have V:¬(0≤f.n∧f.n≤500∧0≤f.time∧f.time≤1000000000)→(Value.bool false)=.bool f.ok:=fun hn=>by rw[dF.ok,decide_eq_false hn,aF]
 refine Yt f tp tc bp bc ap ac (Mem.start [] W) fun B=>⟨fun a1=>⟨fun a2=>kQ (V (by omega)),fun a2=>⟨fun a3=>⟨fun a4=>kQ (V (by omega)),fun a4=>?_⟩,fun a3=>kQ (V (by omega))⟩⟩,fun a1=>kQ (V (by omega))⟩
 have e:f.ok=(f.lr&&decide (f=f.used)):=by rw[dF.ok,decide_eq_true (p:=0≤f.n∧f.n≤500∧0≤f.time∧f.time≤1000000000) ⟨a1,a2,a3,a4⟩,aH]
 rw[e];refine eA.ex (Q:=E0 (kY W) f) (fun a5 M=>XE (h.mono (lK M)) h) ?_;rintro v ⟨u,b5,b4,a9,a8,a7,a6,rfl,b1,b3⟩;refine⟨u,b5,b4,a9,a8,a7,a6,_,rfl,rfl,fun b6=>⟨fun O=>?_,fun O=>kQ (by rw[O];rfl)⟩⟩;refine eA.pw (fun a5 M=>VZ (h.mono (lK M)) (b3.mono (lK M))) ⟨_,rfl,rfl,kQ ?_⟩;rw[O,b1 O,aH]
def pP (lk:Lk)(p:OA)(l:List dF):Prop:=
 0<l.length→∃(b o:Nat) (c:List aa),p=some ⟨b,o,none⟩∧lk b c∧∀i (h:i<l.length),o+i*23+23≤c.length∧sD lk ((c.drop (o+i*23)).take 23) l[i]
theorem sD.mono {lk M:Lk}{cs:List aa}{f:dF}(h:sD lk cs f)(a1:∀b c,lk b c→M b c):sD M cs f:=by
 obtain⟨tp,tc,bp,bc,ap,ac,O,V⟩:=h;exact⟨tp,tc,bp,bc,ap,ac,O,V.mono a1⟩
theorem pP.mono {lk V:Lk}{p:OA}{l:List dF}(h:pP lk p l)(O:∀b c,lk b c→V b c):pP V p l:=by
 intro hp;obtain⟨b,o,c,a1,a2,M⟩:=h hp;exact⟨b,o,c,a1,O b c a2,fun i hi=>⟨(M i hi).1,(M i hi).2.mono O⟩⟩
theorem pP.get {p:OA}{l:List dF}(h:pP lk p l){i:Nat}(hi:i<l.length):
  ∃(b o:Nat) (c:List aa),p=some ⟨b,o,none⟩∧lk b c∧o+i*23+23≤c.length∧sD lk ((c.drop (o+i*23)).take 23) l[i]:=by
 obtain⟨b,o,c,O,V,M⟩:=h (by omega);exact⟨b,o,c,O,V,(M i hi).1,(M i hi).2⟩
abbrev zB9aa:Array aa:= #[IV 0,IV 0,sZ,IV 0,IV 0,IV 0,.slice none 0 0,IV 0,IV 0]
abbrev yB9aa (a:BA)(b x2:Int)(x3:Nat):aX:=[(x3,.cells #[.string a,IV b,IV x2] 235)]
abbrev yB9ab (a:BA)(b x2:Int)(x3:Nat)(x4:aX):aX:=(x3,.cells #[.string a,IV b,IV x2] 235)::x4
abbrev kEqq (x0):=([PP x0,.func (.func 83) #[] #[]]:List aa)
theorem ZD (a:Nat)(b:BA)(c re:Int)(hm:Mem (yB9aa b c re a) S w0 W)(H:VP S w0 R (.hp (yB9aa b c re a) fun d=>.ru [14,200]<|.I 2 13 (re=0) (.re 6 (IV 0) d)<|.r 3<|.dr 17<|.qu [4,100,3,100]<|.x3 fun e f g=>.qc 83 [.string b,IV c] d (kCrq e f g)<|.qu [7]<|.dn<|.I 7 30 (g=0) (.ru [6,200]<|.re 6 (IV 0) [(a,.cells #[.string b,IV c,IV 10] 235)])<|.ru [8,200]<|.re 6 (IV e) (yB9aa b f re a))):aE TP 198 ⟨(kEqq a)⟩ W R:=VC.cs Tryz.func198 hm _ H
abbrev kDxq (x0 x1 x2):=(.tuple #[.string x0,IV x1,IV x2]:aa)
theorem Qa (a:Nat)(b:BA)(c re:Int)(hm:Mem (yB9aa b c re a) S w0 W)(H:VP S w0 R (.hp (yB9aa b c re a) fun d=>.ru [14,200]<|.I 2 13 (re=0) (.re 6 (sZ) d)<|.r 3<|.dr 17<|.qu [4,100,3,100]<|.x3 fun e f g=>.qc 122 [.string b,IV c] d (kDxq e f g)<|.qu [7]<|.dn<|.I 7 30 (g=0) (.ru [6,200]<|.re 6 (sZ) [(a,.cells #[.string b,IV c,IV 10] 235)])<|.ru [8,200]<|.re 6 (.string e) (yB9aa b f re a))):aE TP 200 ⟨[PP a,.func (.func 122) #[] #[]]⟩ W R:=VC.cs Tryz.func200 hm _ H
theorem RW (a:Nat)(b:BA)(d re:Int)(hm:Mem (yB9aa b d re a) S w0 W)(H:VP S w0 R (.cl 7 198 (kEqq a) (yB9aa b d re a)<|.x3 fun c e f=>.rt (IV c) (yB9aa b e f a)<|.re 2 (IV c) (yB9aa b e f a))):aE TP 199 ⟨[PP a]⟩ W R:=VC.cs Tryz.func199 hm _ H
noncomputable def xr (B:Nat)(a b:Int)(c:BA)(d e:Int)(S:List Nat):Cut:=⟨TP,S,201,48,(KC Tryz.f201 500),[(0,PP B),(2,.func (.func 199) #[] #[]),(7,IV a),(8,.slice none 0 0),(9,IV b)],(yB9aa c d e B)⟩
noncomputable def CH (a b:Nat)(c:Int)(f e:Nat)(d:Int)(g:BA)(h i:Int)(cs:List aa)(S:List Nat):Cut:=⟨TP,S,201,48,(KC Tryz.f201 500),[(0,PP a),(2,.func (.func 199) #[] #[]),(7,IV c),(8,.slice (SO b) f e),(9,IV d)],[(a,.cells #[.string g,IV h,IV i] 235),(b,.cells ⟨cs⟩ 3)]⟩
theorem Qy (B:Nat)(c e:Int)(a:BA)(g f:Int)(H:VP S w0 R (.hp (yB9aa a g f B) fun d=>.P 7 32 (e<c) (.ru [3,200]<|.P 3 38 (f=0) (.cl 8 199 [PP B] d<|.x3 fun b h i=>.rt (IV b) (yB9aa a h i B)<|.ns false 1 (.cells #[IV b] 3) fun j=>.aN false 1 j 0 1 1 34 3 1 8 [IV b] fun(k l:Nat) (n:List aa)=>.li 7 9 (ab.wrap (e+1)) fun m=>.ct 2 [0,2] (CH B k c 1 l m a h i (([IV b]:List aa)++n) S))<|.re 7 (.slice none 0 0) d)<|.re 14 (.slice none 0 0) d)):xr B c e a g f S w0 R:=VC.go iU _ H
abbrev kAxq (x0 x1 x2 x3):=((x0,.cells #[.string x1,IV x2,IV x3] 235):Nat×Obj)
theorem Ti (c a:Nat)(g:Int)(b d:Nat)(i:Int)(e:BA)(k j:Int)(cs:List aa)(H:VP S w0 R (.hp [(kAxq c e k j),(a,.cells ⟨cs⟩ 3)] fun h=>.P 7 32 (i<g) (.ru [3,200]<|.P 3 38 (j=0) (.cl 8 199 [PP c] h<|.x3 fun f l m=>.rt (IV f) [(kAxq c e l m),(a,.cells ⟨cs⟩ 3)]<|.ns false 1 (.cells #[IV f] 3) fun n=>.aO false 1 a b d cs 2 n 0 1 1 34 3 1 8 [IV f] fun(o p:Nat) (s:List aa)=>.li 7 9 (ab.wrap (i+1)) fun q=>.ct 2 [0,2] (CH c o g (b+1) p q e l m ((cs).take (b*1)++([IV f]:List aa)++s) S))<|.re 7 (.slice (SO a) b d) h)<|.re 14 (.slice (SO a) b d) h)):CH c a g b d i e k j cs S w0 R:=VC.go iU _ H
theorem SJ (a:Nat)(f:Int)(c:BA)(g re:Int)(hm:Mem (yB9aa c g re a) S w0 W)(H:VP S w0 R (.cl 7 198 (kEqq a) (yB9aa c g re a)<|.x3 fun b d e=>.rt (IV b) (yB9aa c d e a)<|.ru [8,200]<|.P 2 17 (e=0) (.P 3 20 (b<0) (.ru [11,200]<|.ct 12 [0] (xr a b 0 c d 30 S))<|.P 6 25 (f<b) (.ru [5,200]<|.ct 12 [0] (xr a b 0 c d 30 S))<|.ct 13 [0] (xr a b 0 c d e S))<|.ct 22 [0] (xr a b 0 c d e S))):aE TP 201 ⟨[PP a,IV f,.func (.func 199) #[] #[]]⟩ W R:=VC.cs iU hm _ H
abbrev kChq (x0 x1 x2 x3):=((x0,.cells #[IV x1,IV x2,.string x3,IV 0,IV 0,IV 0,.slice none 0 0,IV 0,IV 0] 149):Nat×Obj)
abbrev kCiq (x0 x1):=((x0,.cells #[IV x1,IV 0,sZ,IV 0,IV 0,IV 0,.slice none 0 0,IV 0,IV 0] 149):Nat×Obj)
abbrev kClq (x0 x1 x2 x3 x4):=((x0,.cells #[IV x1,IV x2,.string x3,IV x4,IV 0,IV 0,.slice none 0 0,IV 0,IV 0] 149):Nat×Obj)
abbrev kCtq (x0 x1 x2 x3 x4 x5 x6):=((x0,.cells #[IV x1,IV x2,.string x3,IV x4,IV x5,IV x6,.slice none 0 0,IV 0,IV 0] 149):Nat×Obj)
abbrev kDhq (x0 x1 x2):=((x0,.cells #[IV x1,IV x2,sZ,IV 0,IV 0,IV 0,.slice none 0 0,IV 0,IV 0] 149):Nat×Obj)
abbrev kDjq (x0 x1 x2 x3 x4 x5):=((x0,.cells #[IV x1,IV x2,.string x3,IV x4,IV x5,IV 0,.slice none 0 0,IV 0,IV 0] 149):Nat×Obj)
theorem Xd (a:Nat)(c:BA)(p re:Int)(hm:Mem (yB9aa c p re a) S w0 W)(H:VP S w0 R (.np 2 (.cells zB9aa 149) fun B=>.np 3 (.cells zB9aa 149) fun d=>.cl 4 199 [PP a] [(kAxq a c p re),(B,.cells zB9aa 149),(d,.cells zB9aa 149)]<|.x3 fun b q C=>.rt (IV b) [(kAxq a c q C),(B,.cells zB9aa 149),(d,.cells zB9aa 149)]<|.ru [1,202]<|.cl 4 199 [PP a] [(kAxq a c q C),(B,.cells zB9aa 149),(kCiq d b)]<|.x3 fun e s D=>.rt (IV e) [(kAxq a c s D),(B,.cells zB9aa 149),(kCiq d b)]<|.ru [1,202]<|.cl 4 200 [PP a,.func (.func 122) #[] #[]] [(kAxq a c s D),(B,.cells zB9aa 149),(kDhq d b e)]<|.x3 fun f t E=>.rt (.string f) [(kAxq a c t E),(B,.cells zB9aa 149),(kDhq d b e)]<|.ru [1,202]<|.cl 4 199 [PP a] [(kAxq a c t E),(B,.cells zB9aa 149),(kChq d b e f)]<|.x3 fun g u F=>.rt (IV g) [(kAxq a c u F),(B,.cells zB9aa 149),(kChq d b e f)]<|.ru [1,202]<|.cl 4 199 [PP a] [(kAxq a c u F),(B,.cells zB9aa 149),(kClq d b e f g)]<|.x3 fun h w G=>.rt (IV h) [(kAxq a c w G),(B,.cells zB9aa 149),(kClq d b e f g)]<|.ru [1,202]<|.cl 4 199 [PP a] [(kAxq a c w G),(B,.cells zB9aa 149),(kDjq d b e f g h)]<|.x3 fun i x M=>.rt (IV i) [(kAxq a c x M),(B,.cells zB9aa 149),(kDjq d b e f g h)]<|.ru [2,202]<|.cl 4 201 [PP a,IV 64,.func (.func 199) #[] #[]] [(kAxq a c x M),(B,.cells zB9aa 149),(kCtq d b e f g h i)]<|.x5 fun l k j y N=>.ex fun m=>.rt (.slice l k j) ((kAxq a c y N)::(B,.cells zB9aa 149)::(kCtq d b e f g h i)::m)<|.ru [2,202]<|.cl 4 199 [PP a] ((kAxq a c y N)::(B,.cells zB9aa 149)::(d,.cells #[IV b,IV e,.string f,IV g,IV h,IV i,.slice l k j,IV 0,IV 0] 149)::m)<|.x3 fun n z O=>.rt (IV n) ((kAxq a c z O)::(B,.cells zB9aa 149)::(d,.cells #[IV b,IV e,.string f,IV g,IV h,IV i,.slice l k j,IV 0,IV 0] 149)::m)<|.ru [2,202]<|.cl 4 199 [PP a] ((kAxq a c z O)::(B,.cells zB9aa 149)::(d,.cells #[IV b,IV e,.string f,IV g,IV h,IV i,.slice l k j,IV n,IV 0] 149)::m)<|.x3 fun o A Q=>.rt (IV o) ((kAxq a c A Q)::(B,.cells zB9aa 149)::(d,.cells #[IV b,IV e,.string f,IV g,IV h,IV i,.slice l k j,IV n,IV 0] 149)::m)<|.ru [2,202,3,202,201]<|.r 1<|.rc 1 0 (.agg (kAeq b e f g h i l k j n o)) ((kAxq a c A Q)::(kBxq B b e f g h i l k j n o)::(kBxq d b e f g h i l k j n o)::m))):aE TP 184 ⟨[PP a]⟩ W R:=VC.cs Tryz.func184 hm _ H
noncomputable def wF (B:Nat)(b c:Int)(d:BA)(e f:Int)(a:aX)(S:List Nat):Cut:=⟨TP,S,183,48,(KC Tryz.f183 500),[(0,PP B),(2,.func (.func 184) #[] #[]),(7,IV b),(8,.slice none 0 0),(9,IV c)],(yB9ab d e f B a)⟩
noncomputable def Co (a b:Nat)(d:Int)(g f:Nat)(e:Int)(h:BA)(i j:Int)(cs:List aa)(c:aX)(S:List Nat):Cut:=⟨TP,S,183,48,(KC Tryz.f183 500),[(0,PP a),(2,.func (.func 184) #[] #[]),(7,IV d),(8,.slice (SO b) g f),(9,IV e)],((a,.cells #[.string h,IV i,IV j] 235)::(b,.cells ⟨cs⟩ 149)::c)⟩
theorem Th (B:Nat)(m o:Int)(a:BA)(t p:Int)(q:aX)(H:VP S w0 R (.hp (yB9ab a t p B q) fun n=>.P 7 32 (o<m) (.ru [3,200]<|.P 3 38 (p=0) (.cl 8 184 [PP B] n<|.x5 fun b c d e f=>.x5 fun g j i h k=>.x4 fun l u w s=>.rt (.agg (kAeq b c d e f g j i h k l)) (yB9ab a u w B s)<|.ns true 1 (.cells (kAeq b c d e f g j i h k l) 149) fun x=>.aN true 0 x 0 1 1 33 149 9 96 (kAwq b c d e f g j i h k l) fun(y z:Nat) (C:List aa)=>.li 7 9 (ab.wrap (o+1)) fun A=>.cT 2 [2,0] 3 (Co B y m 1 z A a u w (((kAwq b c d e f g j i h k l):List aa)++C) s S))<|.re 7 (.slice none 0 0) n)<|.re 14 (.slice none 0 0) n)):wF B m o a t p q S w0 R:=VC.go iV _ H
theorem Qe (c a:Nat)(q:Int)(b d:Nat)(t:Int)(e:BA)(y u:Int)(cs:List aa)(w:aX)(H:VP S w0 R (.hp ((kAxq c e y u)::(a,.cells ⟨cs⟩ 149)::w) fun s=>.P 7 32 (t<q) (.ru [3,200]<|.P 3 38 (u=0) (.cl 8 184 [PP c] s<|.x5 fun f g h i j=>.x5 fun k n m l o=>.x4 fun p z A x=>.rt (.agg (kAeq f g h i j k n m l o p)) ((kAxq c e z A)::(a,.cells ⟨cs⟩ 149)::x)<|.ns true 1 (.cells (kAeq f g h i j k n m l o p) 149) fun C=>.aO true 2 a b d cs 0 C 0 1 1 33 149 9 96 (kAwq f g h i j k n m l o p) fun(D E:Nat) (G:List aa)=>.li 7 9 (ab.wrap (t+1)) fun F=>.cT 2 [2,0] 3 (Co c D q (b+1) E F e z A ((cs).take (b*9)++((kAwq f g h i j k n m l o p):List aa)++G) x S))<|.re 7 (.slice (SO a) b d) s)<|.re 14 (.slice (SO a) b d) s)):Co c a q b d t e y u cs w S w0 R:=VC.go iV _ H
theorem Tm (a:Nat)(g:Int)(d:BA)(h re:Int)(b:aX)(hm:Mem (yB9ab d h re a b) S w0 W)(H:VP S w0 R (.cl 7 198 (kEqq a) (yB9ab d h re a b)<|.x3 fun c e f=>.rt (IV c) (yB9ab d e f a b)<|.ru [8,200]<|.P 2 17 (f=0) (.P 3 20 (c<0) (.ru [11,200]<|.cT 12 [0] 1 (wF a c 0 d e 30 b S))<|.P 6 25 (g<c) (.ru [5,200]<|.cT 12 [0] 1 (wF a c 0 d e 30 b S))<|.cT 13 [0] 1 (wF a c 0 d e f b S))<|.cT 22 [0] 1 (wF a c 0 d e f b S))):aE TP 183 ⟨[PP a,IV g,.func (.func 184) #[] #[]]⟩ W R:=VC.cs iV hm _ H
abbrev kDvq (x0):=(.tuple #[.slice none 0 0,IV x0]:aa)
abbrev kEuq:=(.tuple #[.slice none 0 0,IV 10]:aa)
abbrev kEvq:=(.tuple #[.slice none 0 0,IV 30]:aa)
theorem OI (b:BA)(hm:Mem [] [] w0 W)(H:VP [] w0 R (.np 9 (.cells #[.string b,IV 0,IV 0] 235) fun B=>.cl 5 183 [PP B,IV 24,.func (.func 184) #[] #[]] [(B,.cells #[.string b,IV 0,IV 0] 235)]<|.x5 fun e d c f re=>.ex fun g=>.rt (.slice e d c) (yB9ab b f re B g)<|.hp (yB9ab b f re B g) fun a=>.ru [9,200]<|.I 3 11 (re=0) (.r 2<|.dr 6<|.qu [3,100,2]<|.dn<|.re 1 (kDvq re) a)<|.ru [6,200]<|.P 5 21 (f<(b.size:Int)) (.re 6 kEuq a)<|.cl 4 141 [.slice e d c] a<|.ex fun h=>.rt (.bool h) a<|.B 0 31 h (.re 12 (.tuple #[.slice e d c,IV 0]) a)<|.re 9 kEvq a)):aE TP 170 ⟨[.string b]⟩ W R:=VC.cs Tryz.func170 hm _ H
abbrev rH (T Rb:Nat)(tx:BA)(st:RS):Nat×Obj:=(Rb,.cells #[.string tx,.int .i64 (st.1:Int),.int .i64 st.2] T)
def l7 (F:aX):Lk:=fun b c=>∃t fz,(b,bu ⟨c⟩ t fz)∈F
theorem mR {F F':aX}(h:∀x∈F,x∈F'):∀b c,l7 F b c→l7 F' b c:=fun _ _ ⟨t,fz,h1⟩=>⟨t,fz,h _ h1⟩
theorem qt {F L:aX}(hm:Mem L S w0 W)(h:∀x∈F,x∈L):∀b c,l7 F b c→kY W b c:=by
 rintro b c ⟨t,fz,M⟩;have:=hm.here _ (h _ M);simp only at this;simp[kY,lG,this]
theorem eA.one {x y:Nat×Obj}{rest:aX}{v:aa}{K':aa→aX→Prop}(h:lP P g args [x] (fun M L'=>M=v∧L'=[y]))(O:K' v (y::rest)):
  eA P g args (x::rest) S w0 K':=
 eA.lF (L0:=[x]) (L1:=rest) h (ah _) fun M L' ⟨hv,hl⟩=>⟨y::rest,by rw[hl];exact ah _,by rw[hv];exact O⟩
theorem eA.wM {x:Nat×Obj}{rest:aX}{K':aa→aX→Prop}(h:lP P g args [x] K)(O:∀v L',K v L'→∃y F,L'=y::F∧K' v (y::(rest++F))):
  eA P g args (x::rest) S w0 K':=
 eA.lF (L0:=[x]) (L1:=rest) h (ah _) fun a1 L' V=>by
  obtain⟨y,F,rfl,M⟩:=O a1 L' V;exact⟨_,eS y aw,M⟩
theorem yI (A:aX)(O:List Nat){T:aX}{L':aX}{v:aa}(M:(nE A O,o5 O)=(L',true))(h:K v (L'++T)):
  Fin (fun e V=>∃v L',e=.returned v∧Mem L' S W V∧K v L') (A++T) S W v:=by
 simp only[af]at M;obtain⟨rfl,a1⟩:=M;exact fun _ hm=>⟨v,_,rfl,hm.CG (rY a1),h⟩
theorem Oh {cs x r:List aa}{n sz i:Nat}(hi:i<n)(hn:n*sz≤cs.length):((cs.take (n*sz)++x++r).drop (i*sz)).take sz=(cs.drop (i*sz)).take sz:=by
 have M:i*sz+sz≤n*sz:=by rw[←Nat.succ_mul];exact bI _ hi
 rw[an,List.drop_append_of_le_length (by rw[ao];omega),List.take_append_of_le_length (by rw[List.length_drop,ao];omega),List.drop_take,List.take_take];congr 1;omega
theorem HP {cs x r:List aa}{n sz:Nat}(hn:n*sz≤cs.length)(O:x.length=sz):((cs.take (n*sz)++x++r).drop (n*sz)).take sz=x:=by
 have M:(cs.take (n*sz)).length=n*sz:=by rw[ao];omega
 rw[an,List.drop_left' M,List.take_left' O]
theorem IH {cs x r:List aa}{n i:Nat}(hi:i<n)(hn:n≤cs.length):(cs.take n++x++r)[i]?=cs[i]?:=by
 rw[an,List.getElem?_append_left (by rw[ao];omega),List.getElem?_take_of_lt hi]
theorem HM {cs r:List aa}{v:aa}{n:Nat}(hn:n≤cs.length):(cs.take n++[v]++r)[n]?=some v:=by
 have M:(cs.take n).length=n:=by rw[ao];omega
 rw[an,List.getElem?_append_right (by omega),M,jj];rfl
theorem sI {s:BA}{st:RS}(h:st.1≤(bb s).length)(M:st.2=0):oH s (st.1:Int)=match ml ((bb s).drop st.1)with
  |none=>.tuple #[.int .i64 0,.int .i64 0,.int .i64 10]
  |some (n,k)=>.tuple #[.int .i64 n,.int .i64 ((st.1+k:Nat):Int),.int .i64 0]:=by
 rw[lB]at h;rw[oH,if_neg (by omega),ai];cases ml ((bb s).drop st.1)with
 |none=>rfl
 |some p=>rfl
theorem wJ {s:BA}{st:RS}(h:st.1≤(bb s).length)(M:st.2=0):qe s (st.1:Int)=match rdStr ((bb s).drop st.1)with
  |none=>.tuple #[.string ⟨#[]⟩,.int .i64 0,.int .i64 10]
  |some (t,k)=>.tuple #[.string ⟨t.toArray⟩,.int .i64 ((st.1+k:Nat):Int),.int .i64 0]:=by
 rw[lB]at h;rw[qe,if_neg (by omega),ai];cases rdStr ((bb s).drop st.1)with
 |none=>rfl
 |some p=>rfl
theorem Fi {Rb:Nat}{M:BA}{st:RS}(a2:M.size<4611686018427387904)(h:st.1≤(bb M).length):
  lP TP 198 ⟨[.pointer (SO Rb),.func (.func 83) #[] #[]]⟩ [rH 235 Rb M st] (fun v L'=>v=.int .i64 (kP (bb M) st).1∧L'=[rH 235 Rb M (kP (bb M) st).2]):=by
 intro W hm;refine ZD Rb M st.1 st.2 hm ⟨fun O=>kR ?_,fun O=>?_⟩
 ·rw[kP,if_neg O];exact⟨rfl,rfl⟩
 ·have V:lV TP 83 ⟨[.string M,.int .i64 (st.1:Int)]⟩ [rH 235 Rb M st] ([rH 235 Rb M st].map (·.1)) W (oH M (st.1:Int)):=lV.of (xh M _ a2)
  rw[sI h O]at V;rw[kP,if_pos O];cases hr:ml ((bb M).drop st.1)with
  |none=>
   rw[hr]at V;exact⟨_,_,_,V,fun _=>kR ⟨rfl,rfl⟩,fun a1=>absurd a1 (by decide)⟩
  |some p=>
   rw[hr]at V;exact⟨_,_,_,V,fun a1=>absurd rfl a1,fun _=>kR ⟨rfl,by rw[O]⟩⟩
theorem Ug {Rb:Nat}{M:BA}{st:RS}(a2:M.size<4611686018427387904)(h:st.1≤(bb M).length):
  lP TP 200 ⟨[.pointer (SO Rb),.func (.func 122) #[] #[]]⟩ [rH 235 Rb M st] (fun v L'=>v=.string (lh (bb M) st).1∧L'=[rH 235 Rb M (lh (bb M) st).2]):=by
 intro W hm;refine Qa Rb M st.1 st.2 hm ⟨fun O=>kR ?_,fun O=>?_⟩
 ·rw[lh,if_neg O];exact⟨rfl,rfl⟩
 ·have V:lV TP 122 ⟨[.string M,.int .i64 (st.1:Int)]⟩ [rH 235 Rb M st] ([rH 235 Rb M st].map (·.1)) W (qe M (st.1:Int)):=lV.of (EP M _ a2)
  rw[wJ h O]at V;rw[lh,if_pos O];cases hr:rdStr ((bb M).drop st.1)with
  |none=>
   rw[hr]at V;exact⟨_,_,_,V,fun _=>kR ⟨rfl,rfl⟩,fun a1=>absurd a1 (by decide)⟩
  |some p=>
   rw[hr]at V;exact⟨_,_,_,V,fun a1=>absurd rfl a1,fun _=>kR ⟨rfl,by rw[O]⟩⟩
theorem tu {Rb:Nat}{M:BA}{st:RS}(O:M.size<4611686018427387904)(h:st.1≤(bb M).length):
  lP TP 199 ⟨[.pointer (SO Rb)]⟩ [rH 235 Rb M st] (fun v L'=>v=.int .i64 (kP (bb M) st).1∧L'=[rH 235 Rb M (kP (bb M) st).2]):=by
 intro W hm;exact RW Rb M st.1 st.2 hm (eA.one (Fi O h) ⟨_,_,_,rfl,rfl,kR ⟨rfl,rfl⟩⟩)
def yw (T Rb:Nat)(tx:BA)(r:List Int×RS)(v:aa)(L':aX):Prop:=
 ∃(p:OA) (c:Nat) (F:aX),v=.slice p r.1.length c∧r.1.length≤c∧L'=rH T Rb tx r.2::F∧lX (l7 F) p r.1
theorem KK {Rb:Nat}{M:BA}(a3:M.size<4611686018427387904){V:Int}(hc:V≤64){S:List Nat}{w0:aj}:∀(g:Nat) (l:List Int) (st:RS) (O cap:Nat) (cs:List aa),(g:Int)+l.length=V→st.1≤(bb M).length→l.length≤cap→cs.length=cap*1→(∀i (h:i<l.length),cs[i]?=some (.int .i64 l[i]))→
      CH Rb O V l.length cap (l.length:Int) M st.1 st.2 cs S w0 (fun e a5=>∃v L',e=.returned v∧Mem L' S w0 a5∧yw 235 Rb M (l++(lz (kP (bb M)) g st).1,(lz (kP (bb M)) g st).2) v L')
  | g, l, st,O,cap,cs,hg,hst,h1,h2,h3=>by
    apply Ti;have stop:yw 235 Rb M (l,st) (.slice (SO O) l.length cap) [rH 235 Rb M st,(O,.cells ⟨cs⟩ 3)]:=
      ⟨some ⟨O,0,none⟩,cap,[(O,.cells ⟨cs⟩ 3)],rfl,h1,rfl,fun _=>⟨O,0,cs,rfl,⟨3,_,cK.2 rfl⟩,fun i hi=>by rw[az];exact h3 i hi⟩⟩
    match g with
    | 0=>
      refine no (by omega) (kR ?_);simpa[lz]using stop
    | g + 1 =>
      refine yes (by omega) ⟨fun a1=>?_,fun a1=>kR ?_⟩
      · refine eA.one (tu a3 hst) ⟨_,_,_,rfl,rfl,fun a9=>⟨⟨h1,h2⟩,by omega,fun B6 a6 a8 a7 a4=>?_⟩⟩
        rintro _ rfl;rw[ez]at a4 ⊢;have a2:l.length≤cs.length:=by omega
        rw[kS (by omega),show(l.length:Int)+1=((l++[(kP (bb M) st).1]).length:Int)by simp,show l.length+1=(l++[(kP (bb M) st).1]).length by simp];have:=KK (Rb:=Rb) a3 hc (S:=S) (w0:=w0) g (l++[(kP (bb M) st).1]) (kP (bb M) st).2 B6 a6 (cs.take l.length++[.int .i64 (kP (bb M) st).1]++a8) (by simp;omega) (mo hst) (by simpa using a7) a4 (fun i hi=>?_)
        · rw[lz,if_pos a1]
          simpa using this
        · rcases cy i l.length with hi2|hi2
          · rw[IH hi2 a2,h3 i hi2,ek hi2]
          · have:i=l.length:=by simp at hi;omega
            subst this;rw[HM a2];simp
      · rw[oc a1]
        simpa using stop
theorem Ct {Rb:Nat}{M:BA}(a1:M.size<4611686018427387904){O:Int}{st:RS}(a2:st.1≤(bb M).length)(hc:st.2=0→O≤64):
  xr Rb O 0 M st.1 st.2 S w0 (fun e a3=>∃v L',e=.returned v∧Mem L' S w0 a3∧yw 235 Rb M (lz (kP (bb M)) O.toNat st) v L'):=by
 apply Qy;have stop:yw 235 Rb M ([],st) (.slice none 0 0) [rH 235 Rb M st]:=⟨none,0,[],rfl,aD _,rfl,fun h=>absurd h (by simp)⟩;refine⟨fun a6=>⟨fun V=>?_,fun V=>kR ?_⟩,fun a6=>kR ?_⟩
 ·refine eA.one (tu a1 a2) ⟨_,_,_,rfl,rfl,fun b1 B2 cap a9 a7 a8=>?_⟩
  rintro _ rfl;obtain⟨g,a5⟩:∃g:Nat,O.toNat=g+1:=⟨O.toNat-1,by omega⟩;have a4:=hc V;have:=KK (Rb:=Rb) a1 a4 (S:=S) (w0:=w0) g [(kP (bb M) st).1] (kP (bb M) st).2 B2 cap ([.int .i64 (kP (bb M) st).1]++a9) (by simp;omega) (mo a2) a7 a8 (fun i hi=>?_)
  ·rw[a5,lz,if_pos V]
   exact this
  ·have:i=0:=by simp at hi;omega
   subst this;rfl
 ·rw[oc V];exact stop
 ·have:O.toNat=0:=by omega
  rw[this];exact stop
theorem YB {Rb:Nat}{M:BA}{st:RS}(V:M.size<4611686018427387904)(h:st.1≤(bb M).length):
  lP TP 201 ⟨[.pointer (SO Rb),.int .i64 64,.func (.func 199) #[] #[]]⟩ [rH 235 Rb M st] (yw 235 Rb M (oK (kP (bb M)) (bb M) 64 st)):=by
 intro W hm;refine SJ Rb 64 M st.1 st.2 hm (eA.one (Fi V h) ⟨_,_,_,rfl,rfl,?_⟩);unfold oK mZ;refine⟨fun O=>⟨fun a2=>?_,fun a2=>⟨fun a3=>?_,fun a3=>?_⟩⟩,fun O=>?_⟩
 ·rw[if_pos ⟨O,.inl a2⟩]
  exact Ct V (st:=((kP (bb M) st).2.1,30)) (mo h) (fun h=>absurd h (by simp))
 ·rw[if_pos ⟨O,.inr a3⟩]
  exact Ct V (st:=((kP (bb M) st).2.1,30)) (mo h) (fun h=>absurd h (by simp))
 ·rw[if_neg (fun a1=>by rcases a1.2 with h3|h3<;>omega)]
  exact Ct V (mo h) (fun _=>by omega)
 ·rw[if_neg (fun a1=>O a1.1)]
  exact Ct V (mo h) (fun h=>absurd h O)
abbrev zB10aa (a:BA)(b x2 x3 x4 x5 c d:Int):Array aa:= #[IV b,IV x2,.string a,IV x3,IV x4,IV x5,.slice none 0 0,IV c,IV d]
abbrev zB10ab:Array aa:= #[IV 0,IV 0,sZ,IV 0,IV 0,IV 0,.slice none 0 0,IV 0,IV 0]
abbrev yB10aa (a:BA)(b x2:Int)(x3:Nat):aX:=[(x3,.cells #[.string a,IV b,IV x2] 256)]
theorem UI (a:Nat)(b:BA)(c re:Int)(hm:Mem (yB10aa b c re a) S w0 W)(H:VP S w0 R (.hp (yB10aa b c re a) fun d=>.ru [10,200]<|.I 2 10 (re=0) (.re 5 (IV 0) d)<|.r 3<|.dr 16<|.qu [3,100,3,100]<|.x3 fun e f g=>.qc 155 [.string b,IV c] d (kCrq e f g)<|.qu [7]<|.dn<|.I 7 25 (g=0) (.ru [6,200]<|.re 5 (IV 0) [(a,.cells #[.string b,IV c,IV 10] 256)])<|.ru [8,200]<|.re 6 (IV e) (yB10aa b f re a))):aE TP 219 ⟨[PP a]⟩ W R:=VC.cs Tryz.func219 hm _ H
theorem UU (a:Nat)(b:BA)(c re:Int)(hm:Mem (yB10aa b c re a) S w0 W)(H:VP S w0 R (.hp (yB10aa b c re a) fun d=>.ru [10,200]<|.I 2 10 (re=0) (.re 5 (sZ) d)<|.r 3<|.dr 16<|.qu [3,100,3,100]<|.x3 fun e f g=>.qc 156 [.string b,IV c] d (kDxq e f g)<|.qu [7]<|.dn<|.I 7 25 (g=0) (.ru [6,200]<|.re 5 (sZ) [(a,.cells #[.string b,IV c,IV 10] 256)])<|.ru [8,200]<|.re 6 (.string e) (yB10aa b f re a))):aE TP 220 ⟨[PP a]⟩ W R:=VC.cs Tryz.func220 hm _ H
theorem YY (a:Nat)(h:Int)(b:BA)(i re:Int)(hm:Mem (yB10aa b i re a) S w0 W)(H:VP S w0 R (.cl 7 219 [PP a] (yB10aa b i re a)<|.x3 fun d e c=>.rt (IV d) (yB10aa b e c a)<|.hp (yB10aa b e c a) fun g=>.ru [8,200]<|.r 2<|.bd 13 (c=0) _ decide_eq_true_iff (fun f=>.P 3 16 (d<0) (.ru [11,200,7,200]<|.re 7 (IV 0) [(a,.cells #[.string b,IV e,IV 30] 256)])<|.P 6 21 (h<d) (.ru [5,200,7,200]<|.re 7 (IV 0) [(a,.cells #[.string b,IV e,IV 30] 256)])<|.ru [8,200]<|.r 2<|.kn 29 (!decide (c=0)) false (by simp[f])<|.re 7 (IV d) g) fun f=>.ru [17,200]<|.r 2<|.kn 29 (!decide (c=0)) true (by simp[f])<|.re 5 (IV 0) g)):aE TP 210 ⟨[PP a,IV h]⟩ W R:=VC.cs Tryz.func210 hm _ H
abbrev BZ (b:Nat)(e:BA)(h k:Int)(c:Nat)(f i:Int)(l:BA)(n p s x z:Int)(d:Nat)(g j:Int)(m:BA)(o q t:Int)(a w u:Nat)(y A:Int)(cs:List aa):aX:=[(b,.cells #[.string e,IV h,IV k] 256),(c,.cells (zB10aa l f i n p s x z) 149),(d,.cells #[IV g,IV j,.string m,IV o,IV q,IV t,.slice (SO a) w u,IV y,IV A] 149),(a,.cells ⟨cs⟩ 3)]
abbrev zZ (a:Nat)(d:BA)(g j:Int)(b:Nat)(e h:Int)(k:BA)(m o q t w:Int)(c:Nat)(f i:Int)(l:BA)(n p s u x:Int):aX:=[(a,.cells #[.string d,IV g,IV j] 256),(b,.cells (zB10aa k e h m o q t w) 149),(c,.cells (zB10aa l f i n p s u x) 149)]
abbrev EZ (d:Nat)(g j:Int)(m:BA)(o q t:Int)(a w u:Nat)(y A:Int)(b:Nat)(e:BA)(h k:Int)(c:Nat)(f i:Int)(l:BA)(n p s x z:Int)(cs:List aa):aX:=[(d,.cells #[IV g,IV j,.string m,IV o,IV q,IV t,.slice (SO a) w u,IV y,IV A] 149),(b,.cells #[.string e,IV h,IV k] 256),(c,.cells (zB10aa l f i n p s x z) 149),(a,.cells ⟨cs⟩ 3)]
abbrev Dy (c:Nat)(f i:Int)(l:BA)(n p s u x:Int)(a:Nat)(d:BA)(g j:Int)(b:Nat)(e h:Int)(k:BA)(m o q t w:Int):aX:=[(c,.cells (zB10aa l f i n p s u x) 149),(a,.cells #[.string d,IV g,IV j] 256),(b,.cells (zB10aa k e h m o q t w) 149)]
abbrev JL (b:Nat)(g:BA)(e f:Int)(B a:Nat)(c d:Int):aX:=[(b,.cells #[.string g,IV e,IV f] 256),(B,.cells zB10ab 149),(a,.cells #[IV c,IV d,sZ,IV 0,IV 0,IV 0,.slice none 0 0,IV 0,IV 0] 149)]
abbrev K7 (b:Nat)(j:BA)(h i:Int)(B a:Nat)(c d:Int)(e:BA)(f g:Int):aX:=[(b,.cells #[.string j,IV h,IV i] 256),(B,.cells zB10ab 149),(a,.cells #[IV c,IV d,.string e,IV f,IV g,IV 0,.slice none 0 0,IV 0,IV 0] 149)]
abbrev pg:Array aa:=zB10ab
abbrev tk (a b:Int)(c:BA)(d e f g h:Int):Array aa:=(zB10aa c a b d e f g h)
abbrev ti (a b:Int)(c:BA)(d e f g h:Int):Array aa:=(zB10aa c a b d e f g h)
abbrev vm (b c:Int)(d:BA)(e f g:Int)(a i h:Nat)(j k:Int):Array aa:= #[IV b,IV c,.string d,IV e,IV f,IV g,.slice (SO a) i h,IV j,IV k]
abbrev vw (a b:Int)(c:BA)(d e f g h:Int):Array aa:=(zB10aa c a b d e f g h)
abbrev wU (b c:Int)(d:BA)(e f g:Int)(a i h:Nat)(j k:Int):Array aa:= #[IV b,IV c,.string d,IV e,IV f,IV g,.slice (SO a) i h,IV j,IV k]
abbrev vW (a b:Int)(c:BA)(d e f g h:Int):Array aa:=(zB10aa c a b d e f g h)
abbrev yy (b c:Int)(d:BA)(e f g:Int)(a i h:Nat)(j k:Int):Array aa:= #[IV b,IV c,.string d,IV e,IV f,IV g,.slice (SO a) i h,IV j,IV k]
abbrev yJ (a b:Int)(c:BA)(d e f g h:Int):Array aa:=(zB10aa c a b d e f g h)
def zN (a b c:Nat)(z d:Int)(e:BA)(h k f i:Int)(l:BA)(n p s u x g j:Int)(m:BA)(o q t w y:Int)(S:List Nat)(w0:aj)(R:bJ→aj→Prop):Prop:=
 kO TP 211 58 (KC dW 16372) [(0,PP a),(2,PP b),(3,PP c),(4,IV z),(5,IV d)] (zZ a e h k b f i l n p s u x c g j m o q t w y) S w0 (lN R)
def zv (a b c d:Nat)(n1 e:Int)(f:BA)(i l g j:Int)(m:BA)(o q t y A h k:Int)(n:BA)(p s u:Int)(x w:Nat)(z C:Int)(cs:List aa)(S:List Nat)(w0:aj)(R:bJ→aj→Prop):Prop:=
 kO TP 211 58 (KC dW 16372) [(0,PP a),(2,PP b),(3,PP c),(4,IV n1),(5,IV e)] (BZ a f i l b g j m o q t y A c h k n p s u d x w z C cs) S w0 (lN R)
abbrev kAmq (x0 x1 x2 x3):=((x0,.cells #[.string x1,IV x2,IV x3] 256):Nat×Obj)
theorem Ss (i k l:Nat)(V Q:Int)(n:BA)(U O p q:Int)(s:BA)(t u w x y b d:Int)(e:BA)(f g h C A:Int)
 (H:
 Br (Q<V)
 (Br (O=0)
 (eA TP 219 ⟨[PP i]⟩ (Dy l b d e f g h C A i n U O k p q s t u w x y) S w0 (fun v L'=>∃N,∃(a3:Int) (a6:Int),v=IV N∧L'=[(l,.cells (yJ b d e f g h C A) 149),(kAmq i n a3 a6),(k,.cells (tk p q s t u w x y) 149)]∧
 ∀Y:Nat,
 ∀(Z X:Nat) (a0:List aa),1≤X→(([IV N]:List aa)++a0).length=X*1→
 ∀a7:Int,a7=(ab.wrap (Q+(1:Int)))→
 zv i k l Z V a7 n a3 a6 p q s t u w x y b d e f g h 1 X C A (([IV N]:List aa)++a0) S w0 R))
 (eA TP 219 ⟨[PP i]⟩ (zZ i n U O k p q s t u w x y l b d e f g h C A) S w0 (fun v L'=>∃F,∃(a9:Int) (b1:Int),v=IV F∧L'=[(kAmq i n a9 b1),(k,.cells (tk p q s t u w x y) 149),(l,.cells (yJ b d e f g h C A) 149)]∧
 eA TP 219 ⟨[PP i]⟩ [(kAmq i n a9 b1),(k,.cells (tk p q s t u w x y) 149),(l,.cells (zB10aa e b d f g h F A) 149)] S w0 (fun v L'=>∃M,∃(a1:Int) (a4:Int),v=IV M∧L'=[(kAmq i n a1 a4),(k,.cells (tk p q s t u w x y) 149),(l,.cells (zB10aa e b d f g h F A) 149)]∧
 Fin R [(kAmq i n a1 a4),(k,.cells (vW b d e f g h F M) 149),(l,.cells (vW b d e f g h F M) 149)] S w0 (.agg (vW b d e f g h F M))))))
 (eA TP 219 ⟨[PP i]⟩ (zZ i n U O k p q s t u w x y l b d e f g h C A) S w0 (fun v L'=>∃D,∃(a8:Int) (b0:Int),v=IV D∧L'=[(kAmq i n a8 b0),(k,.cells (tk p q s t u w x y) 149),(l,.cells (yJ b d e f g h C A) 149)]∧
 eA TP 219 ⟨[PP i]⟩ [(kAmq i n a8 b0),(k,.cells (tk p q s t u w x y) 149),(l,.cells (zB10aa e b d f g h D A) 149)] S w0 (fun v L'=>∃G,∃(a2:Int) (a5:Int),v=IV G∧L'=[(kAmq i n a2 a5),(k,.cells (tk p q s t u w x y) 149),(l,.cells (zB10aa e b d f g h D A) 149)]∧
 Fin R [(kAmq i n a2 a5),(k,.cells (vw b d e f g h D G) 149),(l,.cells (vw b d e f g h D G) 149)] S w0 (.agg (vw b d e f g h D G)))))):
 zN i k l V Q n U O p q s t u w x y b d e f g h C A S w0 R:=by
 unfold zN;refine .ru 7 (.sP 31 H (fun H=>?_) fun H=>?_)
 ·refine .ru 3 (.ld 0 2 (.ru 3 (.sP 37 H (fun H=>?_) fun H=>?_)))
  ·refine .ru 4 (.nm (KC dW 130980) [(0,PP i),(2,PP k),(3,PP l),(4,IV V),(5,IV Q)] (zZ i n U O k p q s t u w x y l b d e f g h C A) (.cut [2,0,1] (k':=(KC dW 130980)) (e':=[(0,PP i),(2,PP k),(3,PP l),(4,IV V),(5,IV Q)]) (L':=(Dy l b d e f g h C A i n U O k p q s t u w x y)) ?_ (by kernel_rfl)))
   refine .dD (.nm [(0,PP i),(2,PP k),(3,PP l),(4,IV V),(5,IV Q)] (Dy l b d e f g h C A i n U O k p q s t u w x y) (.ph 6 [0,1,2,3] [4,5] [(l,.cells (yJ b d e f g h C A) 149)] (.pu (.pu (.ld 0 6 (.pu (.dn (.cl H ?_))))))));rintro _ _ ⟨N,a3,a6,rfl,rfl,H⟩;refine .new _ (fun B=>.slice (SO B) 1 1) (.cells #[IV N] 3) rfl (fun W=>by kernel_rfl) (by kernel_rfl) (fun Y=>?_)
   replace H:=H Y
   refine .dn (.nm [(0,PP i),(2,PP k),(3,PP l),(4,IV V),(5,IV Q),(42,.slice none 0 0),(45,.slice (SO Y) 1 1)] [(l,.cells (yJ b d e f g h C A) 149),(kAmq i n a3 a6),(k,.cells (tk p q s t u w x y) 149),(Y,.cells #[IV N] 3)] (.tl (.MO (T:=34) (E:=3) (z:=IV 0) (sz:=1) (bytes:=8) (a:=⟨Y,0,none⟩) (m:=1) (c:=1) ([IV N]:List aa) (by kernel_rfl) (show Src _ _ _ _ ([IV N]:List aa)from Src.own (j:=3) (o:=0) (n:=1) (c:=([IV N]:List aa)) (by kernel_rfl)) (by simp) (by omega) (by omega) (fun Z X a0 b3 b4=>?_))))
   replace H:=H Z X a0 b3 b4
   refine .ru 2 (.store 0 6 (T:=34) (v:=.slice (SO Z) 1 X) (by kernel_rfl) (.ru 6 (.lI 5 H fun a7 H=>(.ru 2 (.ct [1,2,0,4] H)))))
  ·refine .ru 5 (.cl H ?_)
   rintro _ _ ⟨F,a9,b1,rfl,rfl,H⟩;refine .ru 2 (.store 2 7 (T:=3) (v:=IV F) (by kernel_rfl) (.ru 4 (.cl H ?_)));rintro _ _ ⟨M,a1,a4,rfl,rfl,H⟩;refine .ru 2 (.store 2 8 (T:=3) (v:=IV M) (by kernel_rfl) (.nm (KR dW 8190 []) [(2,PP k),(3,PP l)] [(kAmq i n a1 a4),(k,.cells (tk p q s t u w x y) 149),(l,.cells (vW b d e f g h F M) 149)] (.ru 3 (.ld 2 0 (.store 1 0 (T:=149) (v:=.agg (vW b d e f g h F M)) (by kernel_rfl) (.ru 1 (.qI 1 0 (a:=2) (T:=149) (v:=.agg (vW b d e f g h F M)) fJ (by kernel_rfl) (by kernel_rfl) H)))))))
 ·refine .ru 12 (.cl H ?_)
  rintro _ _ ⟨D,a8,b0,rfl,rfl,H⟩;refine .ru 2 (.store 2 7 (T:=3) (v:=IV D) (by kernel_rfl) (.ru 4 (.cl H ?_)));rintro _ _ ⟨G,a2,a5,rfl,rfl,H⟩;refine .ru 2 (.store 2 8 (T:=3) (v:=IV G) (by kernel_rfl) (.ru 3 (.ld 2 0 (.store 1 0 (T:=149) (v:=.agg (vw b d e f g h D G)) (by kernel_rfl) (.nm (KR dW 16382 []) [(2,PP k)] [(kAmq i n a2 a5),(k,.cells (vw b d e f g h D G) 149),(l,.cells (vw b d e f g h D G) 149)] (.ru 1 (.qI 1 0 (a:=2) (T:=149) (v:=.agg (vw b d e f g h D G)) fJ (by kernel_rfl) (by kernel_rfl) H)))))))
abbrev kDdq (x0 x1 x2 x3 x4 x5 x6 x7 x8 x9 x10 x11):=((x0,.cells #[IV x1,IV x2,.string x3,IV x4,IV x5,IV x6,.slice (SO x7) x8 x9,IV x10,IV x11] 149):Nat×Obj)
theorem Y9 (p q s b:Nat)(n1 Y:Int)(t:BA)(Z X u w:Int)(x:BA)(y A C D F f g:Int)(h:BA)(i k l:Int)(d e:Nat)(M G:Int)(cs:List aa)
 (H:
 Br (Y<n1)
 (Br (X=0)
 (eA TP 219 ⟨[PP p]⟩ (EZ s f g h i k l b d e M G p t Z X q u w x y A C D F cs) S w0 (fun v L'=>∃U,∃(a4:Int) (a7:Int),v=IV U∧L'=[(s,.cells (yy f g h i k l b d e M G) 149),(kAmq p t a4 a7),(q,.cells (ti u w x y A C D F) 149),(b,.cells ⟨cs⟩ 3)]∧
 ∀a1:Nat,
 (d≤e∧(cs).length=e*1)∧((d+1)≤9223372036854775807∧(d+1)*8≤140737488355328)∧
 ∀(a2 a0:Nat) (a3:List aa),(d+1)≤a0→((cs).take (d*1)++([IV U]:List aa)++a3).length=a0*1→
 ∀b0:Int,b0=(ab.wrap (Y+(1:Int)))→
 zv p q s a2 n1 b0 t a4 a7 u w x y A C D F f g h i k l (d+1) a0 M G ((cs).take (d*1)++([IV U]:List aa)++a3) S w0 R))
 (eA TP 219 ⟨[PP p]⟩ (BZ p t Z X q u w x y A C D F s f g h i k l b d e M G cs) S w0 (fun v L'=>∃O,∃(b1:Int) (b4:Int),v=IV O∧L'=[(kAmq p t b1 b4),(q,.cells (ti u w x y A C D F) 149),(s,.cells (yy f g h i k l b d e M G) 149),(b,.cells ⟨cs⟩ 3)]∧
 eA TP 219 ⟨[PP p]⟩ [(kAmq p t b1 b4),(q,.cells (ti u w x y A C D F) 149),(kDdq s f g h i k l b d e O G),(b,.cells ⟨cs⟩ 3)] S w0 (fun v L'=>∃V,∃(a5:Int) (a8:Int),v=IV V∧L'=[(kAmq p t a5 a8),(q,.cells (ti u w x y A C D F) 149),(kDdq s f g h i k l b d e O G),(b,.cells ⟨cs⟩ 3)]∧
 Fin R [(kAmq p t a5 a8),(q,.cells (wU f g h i k l b d e O V) 149),(s,.cells (wU f g h i k l b d e O V) 149),(b,.cells ⟨cs⟩ 3)] S w0 (.agg (wU f g h i k l b d e O V))))))
 (eA TP 219 ⟨[PP p]⟩ (BZ p t Z X q u w x y A C D F s f g h i k l b d e M G cs) S w0 (fun v L'=>∃N,∃(b3:Int) (b5:Int),v=IV N∧L'=[(kAmq p t b3 b5),(q,.cells (ti u w x y A C D F) 149),(s,.cells (yy f g h i k l b d e M G) 149),(b,.cells ⟨cs⟩ 3)]∧
 eA TP 219 ⟨[PP p]⟩ [(kAmq p t b3 b5),(q,.cells (ti u w x y A C D F) 149),(kDdq s f g h i k l b d e N G),(b,.cells ⟨cs⟩ 3)] S w0 (fun v L'=>∃Q,∃(a6:Int) (a9:Int),v=IV Q∧L'=[(kAmq p t a6 a9),(q,.cells (ti u w x y A C D F) 149),(kDdq s f g h i k l b d e N G),(b,.cells ⟨cs⟩ 3)]∧
 Fin R [(kAmq p t a6 a9),(q,.cells (vm f g h i k l b d e N Q) 149),(s,.cells (vm f g h i k l b d e N Q) 149),(b,.cells ⟨cs⟩ 3)] S w0 (.agg (vm f g h i k l b d e N Q)))))):
 zv p q s b n1 Y t Z X u w x y A C D F f g h i k l d e M G cs S w0 R:=by
 unfold zv;refine .ru 7 (.sP 31 H (fun H=>?_) fun H=>?_)
 ·refine .ru 3 (.ld 0 2 (.ru 3 (.sP 37 H (fun H=>?_) fun H=>?_)))
  ·refine .ru 4 (.nm (KC dW 130980) [(0,PP p),(2,PP q),(3,PP s),(4,IV n1),(5,IV Y)] (BZ p t Z X q u w x y A C D F s f g h i k l b d e M G cs) (.cut [2,0,1,3] (k':=(KC dW 130980)) (e':=[(0,PP p),(2,PP q),(3,PP s),(4,IV n1),(5,IV Y)]) (L':=(EZ s f g h i k l b d e M G p t Z X q u w x y A C D F cs)) ?_ (by kernel_rfl)))
   refine .dD (.nm [(0,PP p),(2,PP q),(3,PP s),(4,IV n1),(5,IV Y)] (EZ s f g h i k l b d e M G p t Z X q u w x y A C D F cs) (.ph 6 [0,1,2,3] [4,5] [(s,.cells (yy f g h i k l b d e M G) 149)] (.pu (.pu (.ld 0 6 (.pu (.dn (.cl H ?_))))))));rintro _ _ ⟨U,a4,a7,rfl,rfl,H⟩;refine .new _ (fun B=>.slice (SO B) 1 1) (.cells #[IV U] 3) rfl (fun W=>by kernel_rfl) (by kernel_rfl) (fun a1=>?_)
   replace H:=H a1
   refine .dn (.nm [(0,PP p),(2,PP q),(3,PP s),(4,IV n1),(5,IV Y),(42,.slice (SO b) d e),(45,.slice (SO a1) 1 1)] [(s,.cells (yy f g h i k l b d e M G) 149),(kAmq p t a4 a7),(q,.cells (ti u w x y A C D F) 149),(b,.cells ⟨cs⟩ 3),(a1,.cells #[IV U] 3)] (.tl (.Ge 3 (T:=34) (E:=3) (z:=IV 0) (sz:=1) (bytes:=8) (n:=d) (cap:=e) (a:=⟨a1,0,none⟩) (m:=1) (c:=1) (cs:=cs) ([IV U]:List aa) (by kernel_rfl) (show Src _ _ _ _ ([IV U]:List aa)from Src.own (j:=4) (o:=0) (n:=1) (c:=([IV U]:List aa)) (by kernel_rfl)) (by simp) (by simp[Value.oneCell']) H.1 H.2.1 (fun a2 a0 a3 b6 b7=>?_))))
   replace H:=H.2.2 a2 a0 a3 b6 b7
   refine .ru 2 (.store 0 6 (T:=34) (v:=.slice (SO a2) (d+1) a0) (by kernel_rfl) (.ru 6 (.lI 5 H fun b0 H=>(.ru 2 (.ct [1,2,0,4] H)))))
  ·refine .ru 5 (.cl H ?_)
   rintro _ _ ⟨O,b1,b4,rfl,rfl,H⟩;refine .ru 2 (.store 2 7 (T:=3) (v:=IV O) (by kernel_rfl) (.ru 4 (.cl H ?_)));rintro _ _ ⟨V,a5,a8,rfl,rfl,H⟩;refine .ru 2 (.store 2 8 (T:=3) (v:=IV V) (by kernel_rfl) (.nm (KR dW 8190 []) [(2,PP q),(3,PP s)] [(kAmq p t a5 a8),(q,.cells (ti u w x y A C D F) 149),(s,.cells (wU f g h i k l b d e O V) 149),(b,.cells ⟨cs⟩ 3)] (.ru 3 (.ld 2 0 (.store 1 0 (T:=149) (v:=.agg (wU f g h i k l b d e O V)) (by kernel_rfl) (.ru 1 (.qI 1 0 (a:=2) (T:=149) (v:=.agg (wU f g h i k l b d e O V)) fJ (by kernel_rfl) (by kernel_rfl) H)))))))
 ·refine .ru 12 (.cl H ?_)
  rintro _ _ ⟨N,b3,b5,rfl,rfl,H⟩;refine .ru 2 (.store 2 7 (T:=3) (v:=IV N) (by kernel_rfl) (.ru 4 (.cl H ?_)));rintro _ _ ⟨Q,a6,a9,rfl,rfl,H⟩;refine .ru 2 (.store 2 8 (T:=3) (v:=IV Q) (by kernel_rfl) (.ru 3 (.ld 2 0 (.store 1 0 (T:=149) (v:=.agg (vm f g h i k l b d e N Q)) (by kernel_rfl) (.nm (KR dW 16382 []) [(2,PP q)] [(kAmq p t a6 a9),(q,.cells (vm f g h i k l b d e N Q) 149),(s,.cells (vm f g h i k l b d e N Q) 149),(b,.cells ⟨cs⟩ 3)] (.ru 1 (.qI 1 0 (a:=2) (T:=149) (v:=.agg (vm f g h i k l b d e N Q)) fJ (by kernel_rfl) (by kernel_rfl) H)))))))
theorem VH (a:Nat)(c:BA)(A re:Int)(hm:Mem (yB10aa c A re a) S w0 W)
 (H:
 ∀B b:Nat,
 eA TP 219 ⟨[PP a]⟩ [(kAmq a c A re),(B,.cells pg 149),(b,.cells pg 149)] S w0 (fun v L'=>∃d,∃(o:Int) (u:Int),v=IV d∧L'=[(kAmq a c o u),(B,.cells pg 149),(b,.cells pg 149)]∧
 eA TP 219 ⟨[PP a]⟩ [(kAmq a c o u),(B,.cells pg 149),(kCiq b d)] S w0 (fun v L'=>∃e,∃(j:Int) (l:Int),v=IV e∧L'=[(kAmq a c j l),(B,.cells pg 149),(kCiq b d)]∧
 eA TP 220 ⟨[PP a]⟩ (JL a c j l B b d e) S w0 (fun v L'=>∃f,∃(p:Int) (w:Int),v=.string f∧L'=[(kAmq a c p w),(B,.cells pg 149),(kDhq b d e)]∧
 eA TP 219 ⟨[PP a]⟩ [(kAmq a c p w),(B,.cells pg 149),(kChq b d e f)] S w0 (fun v L'=>∃g,∃(q:Int) (x:Int),v=IV g∧L'=[(kAmq a c q x),(B,.cells pg 149),(kChq b d e f)]∧
 eA TP 219 ⟨[PP a]⟩ [(kAmq a c q x),(B,.cells pg 149),(kClq b d e f g)] S w0 (fun v L'=>∃h,∃(s:Int) (y:Int),v=IV h∧L'=[(kAmq a c s y),(B,.cells pg 149),(kClq b d e f g)]∧
 eA TP 219 ⟨[PP a]⟩ [(kAmq a c s y),(B,.cells pg 149),(kDjq b d e f g h)] S w0 (fun v L'=>∃i,∃(k:Int) (m:Int),v=IV i∧L'=(K7 a c k m B b d e f g h)∧
 eA TP 210 ⟨[PP a,IV 64]⟩ [(kAmq a c k m),(B,.cells pg 149),(kCtq b d e f g h i)] S w0 (fun v L'=>∃n,∃(t:Int) (z:Int),v=IV n∧L'=[(kAmq a c t z),(B,.cells pg 149),(kCtq b d e f g h i)]∧
 zN a B b n (0:Int) c t z (0:Int) (0:Int) (⟨#[]⟩) (0:Int) (0:Int) (0:Int) (0:Int) (0:Int) d e f g h i (0:Int) (0:Int) S w0 R)))))))):
 aE TP 211 ⟨[PP a]⟩ W R:=by
 refine kO.cs 58 fJ hm (.ru 2 (.nH (.cells pg 149) H fun B H=>(.ru 4 (.nH (.cells pg 149) H fun b H=>(.st 2 0 (.ru 4 (.cl H ?_)))))));rintro _ _ ⟨d,o,u,rfl,rfl,H⟩;refine .ru 1 (.st 2 0 (.ru 4 (.cl H ?_)));rintro _ _ ⟨e,j,l,rfl,rfl,H⟩;refine .ru 1 (.st 2 1 (.nm (KR dW 30 []) [(0,PP a),(2,PP B),(3,PP b)] (JL a c j l B b d e) (.ru 4 (.cl H ?_))));rintro _ _ ⟨f,p,w,rfl,rfl,H⟩;refine .ru 1 (.st 2 2 (.ru 4 (.cl H ?_)));rintro _ _ ⟨g,q,x,rfl,rfl,H⟩;refine .ru 1 (.st 2 3 (.ru 4 (.cl H ?_)));rintro _ _ ⟨h,s,y,rfl,rfl,H⟩;refine .ru 1 (.st 2 4 (.ru 4 (.cl H ?_)));rintro _ _ ⟨i,k,m,rfl,rfl,H⟩;refine .nm (KR dW 510 [2,3,4]) [(0,PP a),(2,PP B),(3,PP b),(23,IV i)] (K7 a c k m B b d e f g h) (.ru 2 (.st 2 5 (.ru 4 (.cl H ?_))));rintro _ _ ⟨n,t,z,rfl,rfl,H⟩;refine .ru 9 (.ct [0,1,2] H)
noncomputable def L9 (a:Nat)(g:BA)(f b:Int)(c:BA)(d e:Int):Cut:=⟨TP,[],205,52,(KC Tryz.f205 500),[(0,.string g),(4,PP a),(5,.slice none 0 0),(6,IV f),(7,IV b)],(yB10aa c d e a)⟩
noncomputable def Aw (a b:Nat)(j:BA)(f e:Nat)(n1 d:Int)(g:BA)(h i:Int)(cs:List aa)(c:aX):Cut:=⟨TP,[],205,52,(KC Tryz.f205 500),[(0,.string j),(4,PP a),(5,.slice (SO b) f e),(6,IV n1),(7,IV d)],((a,.cells #[.string g,IV h,IV i] 256)::(b,.cells ⟨cs⟩ 149)::c)⟩
theorem UA (c:Nat)(t:BA)(s p:Int)(d:BA)(q b:Int)(H:VP [] w0 R (.hp (yB10aa d q b c) fun a=>.P 7 17 (p<s) (.ru [3,200]<|.r 3<|.bd 23 (b=0) _ decide_eq_true_iff (fun w=>.cl 7 211 [PP c] a<|.x5 fun e f g h i=>.x5 fun j m l k n=>.x4 fun o y z u=>.rt (.agg (kAeq e f g h i j m l k n o)) ((kAmq c d y z)::u)<|.ns true 1 (.cells (kAeq e f g h i j m l k n o) 149) fun A=>.aN true 0 A 0 1 1 33 149 9 96 (kAwq e f g h i j m l k n o) fun(C D:Nat) (F:List aa)=>.li 7 7 (ab.wrap (p+1)) fun E=>.cT 2 [2,0] 3 (Aw c C t 1 D s E d y z (((kAwq e f g h i j m l k n o):List aa)++F) u)) fun w=>.ru [8,200]<|.r 2<|.kn 35 (!decide (b=0)) true (by simp[w])<|.r 2<|.dr 6<|.qu [3,100,2]<|.dn<|.re 1 (kDvq b) a)<|.ru [15,200]<|.I 2 35 (b=0) (.r 2<|.dr 6<|.qu [3,100,2]<|.dn<|.re 1 (kDvq b) a)<|.ru [8,200]<|.I 4 46 (q=(t.size:Int)) (.re 6 kEuq a)<|.cl 5 164 [.slice none 0 0] a<|.ex fun x=>.rt (.bool x) a<|.B 6 49 x (.re 10 (.tuple #[.slice none 0 0,IV 0]) a)<|.re 8 kEvq a)):L9 c t s p d q b w0 R:=VC.go iW _ H
theorem Pb (e c:Nat)(w:BA)(d f:Nat)(n1 t:Int)(g:BA)(u b:Int)(cs:List aa)(x:aX)(H:VP [] w0 R (.hp ((kAmq e g u b)::(c,.cells ⟨cs⟩ 149)::x) fun a=>.P 7 17 (t<n1) (.ru [3,200]<|.r 3<|.bd 23 (b=0) _ decide_eq_true_iff (fun z=>.cl 7 211 [PP e] a<|.x5 fun h i j k l=>.x5 fun m p o n q=>.x4 fun s C D y=>.rt (.agg (kAeq h i j k l m p o n q s)) ((kAmq e g C D)::(c,.cells ⟨cs⟩ 149)::y)<|.ns true 1 (.cells (kAeq h i j k l m p o n q s) 149) fun E=>.aO true 2 c d f cs 0 E 0 1 1 33 149 9 96 (kAwq h i j k l m p o n q s) fun(F G:Nat) (N:List aa)=>.li 7 7 (ab.wrap (t+1)) fun M=>.cT 2 [2,0] 3 (Aw e F w (d+1) G n1 M g C D ((cs).take (d*9)++((kAwq h i j k l m p o n q s):List aa)++N) y)) fun z=>.ru [8,200]<|.r 2<|.kn 35 (!decide (b=0)) true (by simp[z])<|.r 2<|.dr 6<|.qu [3,100,2]<|.dn<|.re 1 (kDvq b) a)<|.ru [15,200]<|.I 2 35 (b=0) (.r 2<|.dr 6<|.qu [3,100,2]<|.dn<|.re 1 (kDvq b) a)<|.ru [8,200]<|.I 4 46 (u=(w.size:Int)) (.re 6 kEuq a)<|.cl 5 164 [.slice (SO c) d f] a<|.ex fun A=>.rt (.bool A) a<|.B 6 49 A (.re 10 (.tuple #[.slice (SO c) d f,IV 0]) a)<|.re 8 kEvq a)):Aw e c w d f n1 t g u b cs x w0 R:=VC.go iW _ H
theorem Wc (a:BA)(hm:Mem [] [] w0 W)(H:VP [] w0 R (.np 9 (.cells #[.string a,IV 0,IV 0] 256) fun B=>.cl 9 210 [PP B,IV 24] [(B,.cells #[.string a,IV 0,IV 0] 256)]<|.x3 fun b c re=>.rt (IV b) (yB10aa a c re B)<|.ct 9 [0] (L9 B a b 0 a c re))):aE TP 205 ⟨[.string a]⟩ W R:=VC.cs iW hm _ H
def A4 (T Rb:Nat)(tx:BA)(r:kT×RS)(v:aa)(L':aX):Prop:=
 ∃(p:OA) (c:Nat) (F:aX),v=.agg ⟨r.1.cells p c⟩∧L'=rH T Rb tx r.2::F∧lX (l7 F) p r.1.lab.after
theorem Kx {Rb:Nat}{O:BA}{st:RS}(M:O.size<4611686018427387904)(h:st.1≤(bb O).length):
  lP TP 184 ⟨[.pointer (SO Rb)]⟩ [rH 235 Rb O st] (A4 235 Rb O (mO (bb O) st)):=by
 intro W hm;obtain⟨V,a1,a2,a3,a4,a5,a6,a7,a9⟩:=Bg h;refine Xd Rb O st.1 st.2 hm fun B a8=>?_
 refine eA.one (tu M h) ⟨_,_,_,rfl,rfl,?_⟩;refine eA.one (tu M V) ⟨_,_,_,rfl,rfl,?_⟩;refine eA.one (Ug M a1) ⟨_,_,_,rfl,rfl,?_⟩;refine eA.one (tu M a2) ⟨_,_,_,rfl,rfl,?_⟩;refine eA.one (tu M a3) ⟨_,_,_,rfl,rfl,?_⟩;refine eA.one (tu M a4) ⟨_,_,_,rfl,rfl,?_⟩;refine eA.wM (YB M a5) fun v L' ⟨p,c,F,hv,hc,hL,hi⟩=>⟨_,F,hL,p,_,c,_,_,F,hv,rfl,?_⟩
 refine eA.one (tu M a6) ⟨_,_,_,rfl,rfl,?_⟩;refine eA.one (tu M a7) ⟨_,_,_,rfl,rfl,?_⟩;exact yI [_,_,_] [0] rfl ⟨p,c,F,rfl,rfl,hi⟩
def vZ (T Rb:Nat)(tx:BA)(r:List kT×RS)(v:aa)(L':aX):Prop:=
 ∃(p:OA) (c:Nat) (F:aX),v=.slice p r.1.length c∧r.1.length≤c∧L'=rH T Rb tx r.2::F∧mY (l7 F) p r.1
def pz (F:aX)(cs:List aa)(l:List kT):Prop:=∀i (h:i<l.length),i*9+9≤cs.length∧r9 (l7 F) ((cs.drop (i*9)).take 9) l[i]
theorem pz.mono {F F':aX}{cs:List aa}{l:List kT}(h:pz F cs l)(M:∀x∈F,x∈F'):pz F' cs l:=fun i hi=>⟨(h i hi).1,(h i hi).2.mono (mR M)⟩
theorem pz.app {F:aX}{cs r:List aa}{l:List kT}{b:kT}{p:OA}{c cap M:Nat}(h:pz F cs l)(O:l.length≤cap)(V:cs.length=cap*9)(a1:lX (l7 F) p b.lab.after)(a2:b.Fits)
  (a5:l.length+1≤M)(a3:(cs.take (l.length*9)++b.cells p c++r).length=M*9):pz F (cs.take (l.length*9)++b.cells p c++r) (l++[b]):=by
 have hn:l.length*9≤cs.length:=by rw[V];exact bI _ O
 intro i hi;have a4:i<l.length+1:=by simpa using hi
 refine⟨by rw[a3];omega,?_⟩;rcases cy i l.length with hlt|hge
 ·rw[Oh hlt hn,ek hlt]
  exact(h i hlt).2
 ·have:i=l.length:=by omega
  subst this;rw[HP hn rfl];simp only[List.getElem_append_right (aD _),jj,List.getElem_cons_zero];exact⟨p,c,rfl,a1,a2⟩
theorem pz.one {F:aX}{r:List aa}{b:kT}{p:OA}{c cap:Nat}(M:lX (l7 F) p b.lab.after)(O:b.Fits)(a1:1≤cap)(V:(b.cells p c++r).length=cap*9):pz F (b.cells p c++r) [b]:=by
 intro i hi;have:i=0:=by simp at hi;omega
 subst this;refine⟨by rw[V];omega,p,c,?_,M,O⟩;simp
theorem pz.sl {F:aX}{cs:List aa}{l:List kT}{M:Nat}(h:pz F cs l):mY (l7 ((M,.cells ⟨cs⟩ 149)::F)) (SO M) l:=
 fun _=>⟨M,0,cs,rfl,⟨149,_,au⟩,fun i hi=>⟨by rw[az];exact(h i hi).1,by rw[az];exact(h i hi).2.mono (mR fun x O=>ag _ O)⟩⟩
theorem K8 {Rb:Nat}{M:BA}(a3:M.size<4611686018427387904){V:Int}(hc:V≤24){S:List Nat}{w0:aj}:∀(g:Nat) (l:List kT) (st:RS) (O cap:Nat) (cs:List aa) (F:aX),(g:Int)+l.length=V→st.1≤(bb M).length→l.length≤cap→cs.length=cap*9→pz F cs l→
      Co Rb O V l.length cap (l.length:Int) M st.1 st.2 cs F S w0 (fun e a6=>∃v L',e=.returned v∧Mem L' S w0 a6∧vZ 235 Rb M (l++(lz (mO (bb M)) g st).1,(lz (mO (bb M)) g st).2) v L')
  | g,l,st,O,cap,cs,F,hg,hst,h1,h2,h3=>by
    apply Qe;have stop:vZ 235 Rb M (l,st) (.slice (SO O) l.length cap) (rH 235 Rb M st::(O,.cells ⟨cs⟩ 149)::F):=
      ⟨some ⟨O,0,none⟩,cap,(O,.cells ⟨cs⟩ 149)::F,rfl,h1,rfl,h3.sl⟩
    match g with
    | 0=>
      refine no (by omega) (kR ?_);simpa[lz]using stop
    | g +1=>
      refine yes (by omega) ⟨fun a1=>?_,fun a1=>kR ?_⟩
      · refine eA.wM (Kx a3 hst) fun v L' ⟨p,c,F4,hv,hL,hi⟩=>⟨_,F4,hL,_,_,_,_,_,_,p,_,c,_,_,_,_,F++F4,hv,rfl,fun b3=>⟨⟨h1,h2⟩,by omega,fun B6 a7 b4 a4 a5=>?_⟩⟩
        rintro _ rfl;have a8:pz (F++F4) cs l:=h3.mono fun x a2=>ay _ a2
        have a9:=hi.mono (mR (F':=F++F4) fun x a2=>ak _ a2);have b1:=a8.app h1 h2 a9 (zV hst) a4 a5;rw[kS (by omega),show(l.length:Int)+1=((l++[(mO (bb M) st).1]).length:Int)by simp];have:=K8 (Rb:=Rb) a3 hc (S:=S) (w0:=w0) g (l++[(mO (bb M) st).1]) (mO (bb M) st).2 B6 a7 _ (F++F4) (by simp;omega) (wD hst) (by simpa using a4) a5 b1;rw[lz,if_pos a1];have e:(l++[(mO (bb M) st).1]).length=l.length+1:=by simp
        rw[e]at this;simpa using this
      · rw[oc a1]
        simpa using stop
theorem zE {Rb:Nat}{M:BA}(a2:M.size<4611686018427387904){O:Int}{st:RS}(a1:st.1≤(bb M).length)(hc:st.2=0→O≤24):
  wF Rb O 0 M st.1 st.2 [] S w0 (fun e a5=>∃v L',e=.returned v∧Mem L' S w0 a5∧vZ 235 Rb M (lz (mO (bb M)) O.toNat st) v L'):=by
 apply Th;have stop:vZ 235 Rb M ([],st) (.slice none 0 0) [rH 235 Rb M st]:=⟨none,0,[],rfl,aD _,rfl,fun h=>absurd h (by simp)⟩;refine⟨fun a8=>⟨fun V=>?_,fun V=>kR ?_⟩,fun a8=>kR ?_⟩
 ·refine eA.wM (Kx a2 a1) fun v L' ⟨p,c,F4,hv,hL,hi⟩=>⟨_,F4,hL,_,_,_,_,_,_,p,_,c,_,_,_,_,F4,hv,rfl,fun b1 B2 cap b3 a3 a4=>?_⟩
  rintro _ rfl;obtain⟨g,a7⟩:∃g:Nat,O.toNat=g+1:=⟨O.toNat-1,by omega⟩;have a6:=hc V;have a9:=pz.one hi (zV a1) a3 a4;have:=K8 (Rb:=Rb) a2 a6 (S:=S) (w0:=w0) g [(mO (bb M) st).1] (mO (bb M) st).2 B2 cap _ F4 (by simp;omega) (wD a1) a3 a4 a9;rw[a7,lz,if_pos V];exact this
 ·rw[oc V];exact stop
 ·have:O.toNat=0:=by omega
  rw[this];exact stop
theorem Xo {Rb:Nat}{M:BA}{st:RS}(V:M.size<4611686018427387904)(h:st.1≤(bb M).length):
  lP TP 183 ⟨[.pointer (SO Rb),.int .i64 24,.func (.func 184) #[] #[]]⟩ [rH 235 Rb M st] (vZ 235 Rb M (oK (mO (bb M)) (bb M) 24 st)):=by
 intro W hm;refine Tm Rb 24 M st.1 st.2 [] hm (eA.one (Fi V h) ⟨_,_,_,rfl,rfl,?_⟩);unfold oK mZ;refine⟨fun O=>⟨fun a2=>?_,fun a2=>⟨fun a3=>?_,fun a3=>?_⟩⟩,fun O=>?_⟩
 ·rw[if_pos ⟨O,.inl a2⟩]
  exact zE V (st:=((kP (bb M) st).2.1,30)) (mo h) (fun h=>absurd h (by simp))
 ·rw[if_pos ⟨O,.inr a3⟩]
  exact zE V (st:=((kP (bb M) st).2.1,30)) (mo h) (fun h=>absurd h (by simp))
 ·rw[if_neg (fun a1=>by rcases a1.2 with h3|h3<;>omega)]
  exact zE V (mo h) (fun _=>by omega)
 ·rw[if_neg (fun a1=>O a1.1)]
  exact zE V (mo h) (fun h=>absurd h O)
def pq (r:List kT×Int)(v:aa)(F:aX):Prop:=∃(p:OA) (c:Nat),v=.tuple #[.slice p r.1.length c,.int .i64 r.2]∧r.1.length≤c∧mY (l7 F) p r.1
theorem pq.nil {e:Int}{F:aX}:pq ([],e) (.tuple #[.slice none 0 0,.int .i64 e]) F:=⟨none,0,rfl,aD _,fun h=>absurd h (by simp)⟩
theorem zU (s:List UInt8):(nU s).2.1≤s.length∧(nU s).1.length≤24:=zF (f:=mO s) (most:=24) (fun st=>wD) (bx _)
theorem Pt (s:BA)(a6:s.size<4611686018427387904):lP TP 170 ⟨[.string s]⟩ [] (pq (my (bb s))):=by
 intro W hm;refine OI s (Mem.start [] W) fun B=>?_
 have hE:lP TP 183 ⟨[.pointer (SO B),.int .i64 24,.func (.func 184) #[] #[]]⟩ [rH 235 B s (0,0)] (vZ 235 B s (nU (bb s))):=Xo (st:=(0,0)) a6 (bx _);refine eA.wM hE fun v L' ⟨p,c,F,hv,hc,hL,hb⟩=>⟨_,F,hL,p,_,c,_,_,F,hv,rfl,?_⟩
 have a9:=(zU (bb s)).1;have a8:(bb s).length=s.size:=lB s;have fin:∀r v,my (bb s)=r→pq r v F→Fin (fun e V=>∃v L',e=.returned v∧Mem L' [] W V∧pq (my (bb s)) v L') (rH 235 B s (nU (bb s)).2::F) [] W v:=fun r v a5 a3=>by
  rw[a5];exact yI [_] [] rfl a3
 refine⟨fun a2=>?_,fun a2=>⟨fun M=>?_,fun M=>?_⟩⟩
 ·exact fin _ _ (by rw[my,if_pos a2]) pq.nil
 ·exact fin _ _ (by rw[my,if_neg (by omega),if_pos (show(nU (bb s)).2.1<(bb s).length from by have:((nU (bb s)).2.1:Int)<(s.size:Int):=M;omega)]) pq.nil
 ·have a1:¬(nU (bb s)).2.1<(bb s).length:=by have:¬((nU (bb s)).2.1:Int)<(s.size:Int):=M;omega
  refine eA.pw (fun V a4=>FR (hb.mono (qt a4 fun x a7=>ag _ a7)) hc) ⟨_,rfl,rfl,fun O=>?_,fun O=>?_⟩
  ·exact fin _ _ (by rw[my,if_neg (by omega),if_neg a1,if_pos O]) ⟨p,c,rfl,hc,hb⟩
  ·exact fin _ _ (by rw[my,if_neg (by omega),if_neg a1,if_neg (by rw[O];simp)]) pq.nil
theorem eA.vx {a x y:Nat×Obj}{rest:aX}{v:aa}{K':aa→aX→Prop}(h:lP P g args [x] (fun M L'=>M=v∧L'=[y]))(O:K' v (a::y::rest)):
  eA P g args (a::x::rest) S w0 K':=
 eA.lF (L0:=[x]) (L1:=a::rest) h (dg a x rest) fun M L' ⟨hv,hl⟩=>⟨a::y::rest,by rw[hl];exact dg a y rest,by rw[hv];exact O⟩
theorem pj {Rb:Nat}{M:BA}{st:RS}(a2:M.size<4611686018427387904)(h:st.1≤(bb M).length):
  lP TP 219 ⟨[.pointer (SO Rb)]⟩ [rH 256 Rb M st] (fun v L'=>v=.int .i64 (kP (bb M) st).1∧L'=[rH 256 Rb M (kP (bb M) st).2]):=by
 intro W hm;refine UI Rb M st.1 st.2 hm ⟨fun O=>kR ?_,fun O=>?_⟩
 ·rw[kP,if_neg O];exact⟨rfl,rfl⟩
 ·have V:lV TP 155 ⟨[.string M,.int .i64 (st.1:Int)]⟩ [rH 256 Rb M st] ([rH 256 Rb M st].map (·.1)) W (oH M (st.1:Int)):=lV.of (wS M _ a2)
  rw[sI h O]at V;rw[kP,if_pos O];cases hr:ml ((bb M).drop st.1)with
  |none=>
   rw[hr]at V;exact⟨_,_,_,V,fun _=>kR ⟨rfl,rfl⟩,fun a1=>absurd a1 (by decide)⟩
  |some p=>
   rw[hr]at V;exact⟨_,_,_,V,fun a1=>absurd rfl a1,fun _=>kR ⟨rfl,by rw[O]⟩⟩
theorem Yc {Rb:Nat}{M:BA}{st:RS}(a2:M.size<4611686018427387904)(h:st.1≤(bb M).length):
  lP TP 220 ⟨[.pointer (SO Rb)]⟩ [rH 256 Rb M st] (fun v L'=>v=.string (lh (bb M) st).1∧L'=[rH 256 Rb M (lh (bb M) st).2]):=by
 intro W hm;refine UU Rb M st.1 st.2 hm ⟨fun O=>kR ?_,fun O=>?_⟩
 ·rw[lh,if_neg O];exact⟨rfl,rfl⟩
 ·have V:lV TP 156 ⟨[.string M,.int .i64 (st.1:Int)]⟩ [rH 256 Rb M st] ([rH 256 Rb M st].map (·.1)) W (qe M (st.1:Int)):=lV.of (Es M _ a2)
  rw[wJ h O]at V;rw[lh,if_pos O];cases hr:rdStr ((bb M).drop st.1)with
  |none=>
   rw[hr]at V;exact⟨_,_,_,V,fun _=>kR ⟨rfl,rfl⟩,fun a1=>absurd a1 (by decide)⟩
  |some p=>
   rw[hr]at V;exact⟨_,_,_,V,fun a1=>absurd rfl a1,fun _=>kR ⟨rfl,by rw[O]⟩⟩
def p8 (s:List UInt8)(most:Int)(st:RS):Int:=if(mZ s most st).2.2=0 then(mZ s most st).1 else 0
theorem Np {α:Type}{f:RS→α×RS}{s:List UInt8}{most:Int}{st:RS}:oK f s most st=lz f (p8 s most st).toNat (mZ s most st).2:=by
 unfold oK p8;split
 ·rfl
 ·next h=>rw[oc h,oc h]
theorem Jm {s:List UInt8}{most:Nat}{st:RS}:p8 s most st≤most:=by
 unfold p8;split
 ·next h=>exact(FU h).2
 ·omega
theorem Hh {Rb:Nat}{most:Int}{M:BA}{st:RS}(a4:M.size<4611686018427387904)(h:st.1≤(bb M).length):
  lP TP 210 ⟨[.pointer (SO Rb),.int .i64 most]⟩ [rH 256 Rb M st] (fun v L'=>v=.int .i64 (p8 (bb M) most st)∧L'=[rH 256 Rb M (mZ (bb M) most st).2]):=by
 intro W hm;refine YY Rb most M st.1 st.2 hm (eA.one (pj a4 h) ⟨_,_,_,rfl,rfl,?_⟩);have wv:(kP (bb M) st).2.2=0∧((kP (bb M) st).1<0∨most<(kP (bb M) st).1)→mZ (bb M) most st=((kP (bb M) st).1,((kP (bb M) st).2.1,30)):=fun h=>by rw[mZ,if_pos h]
 have a1:¬((kP (bb M) st).2.2=0∧((kP (bb M) st).1<0∨most<(kP (bb M) st).1))→mZ (bb M) most st=kP (bb M) st:=fun h=>by rw[mZ,if_neg h]
 refine⟨fun O=>⟨fun a2=>?_,fun a2=>⟨fun a3=>?_,fun a3=>?_⟩⟩,fun O=>?_⟩
 ·have e:=wv ⟨O,.inl a2⟩
  refine kR ⟨?_,?_⟩
  ·rw[p8,e];rfl
  ·rw[e]
 ·have e:=wv ⟨O,.inr a3⟩
  refine kR ⟨?_,?_⟩
  ·rw[p8,e];rfl
  ·rw[e]
 ·have e:=a1 (fun V=>by rcases V.2 with h3|h3<;>omega)
  refine kR ⟨?_,?_⟩
  ·rw[p8,e,if_pos O]
  ·rw[e]
 ·have e:=a1 (fun V=>O V.1)
  refine kR ⟨?_,?_⟩
  ·rw[p8,e,if_neg O]
  ·rw[e]
def xb (s:List UInt8)(i k:Int)(t:BA)(so r u:Int)(l:List Int)(st:RS):kT×RS:=
 (⟨i,k,t,so,r,⟨u,l,(kP s st).1,(kP s (kP s st).2).1⟩⟩,(kP s (kP s st).2).2)
theorem Hl {Rb B8 B9:Nat}{M:BA}(V:M.size<4611686018427387904){n:Int}(hc:n≤64){S:List Nat}{w0:aj}{z0 z1:Int}{z2:BA}{z3 z4 z5 z7 z8 i k:Int}{t:BA}{so r u:Int}:
  ∀(g:Nat) (l:List Int) (st:RS) (O cap:Nat) (cs:List aa),(g:Int)+l.length=n→st.1≤(bb M).length→l.length≤cap→cs.length=cap*1→(∀i (h:i<l.length),cs[i]?=some (.int .i64 l[i]))→
   zv Rb B8 B9 O n (l.length:Int) M st.1 st.2 z0 z1 z2 z3 z4 z5 z7 z8 i k t so r u l.length cap 0 0 cs S w0 (fun e a6=>∃v L',e=.returned v∧Mem L' S w0 a6∧A4 256 Rb M (xb (bb M) i k t so r u (l++(lz (kP (bb M)) g st).1) (lz (kP (bb M)) g st).2) v L')
 | g, l,st,O,cap,cs,hg,hst,h1,h2,h3=>by
  apply Y9;have a2:∀L',L'=[(O,bu ⟨cs⟩ 3)]→lX (l7 L') (SO O) l:=fun L' a8=>fun _=>⟨O,0,cs,rfl,by rw[a8];exact⟨3,_,cK.2 rfl⟩,fun i hi=>by rw[az];exact h3 i hi⟩
  match g with
  |0=>
   rw[show l++(lz (kP (bb M)) 0 st).1=l by simp[lz],show(lz (kP (bb M)) 0 st).2=st from rfl];refine no (by omega) ?_;refine eA.one (pj V hst) ⟨_,_,_,rfl,rfl,?_⟩;refine eA.one (pj V (mo hst)) ⟨_,_,_,rfl,rfl,?_⟩;exact zi [0,3] rfl ⟨some ⟨O,0,none⟩,cap,_,rfl,rfl,a2 _ rfl⟩
  | g +1=>
   refine yes (by omega) ⟨fun a1=>?_,fun a1=>?_⟩
   ·refine eA.vx (pj V hst) ⟨_,_,_,rfl,rfl,fun b3=>⟨⟨h1,h2⟩,by omega,fun a5 a7 b1 a9 a4=>?_⟩⟩
    rintro _ rfl;rw[ez]at a4 ⊢;have a3:l.length≤cs.length:=by omega
    rw[kS (by omega),show(l.length:Int)+1=((l++[(kP (bb M) st).1]).length:Int)by simp,show l.length+1=(l++[(kP (bb M) st).1]).length by simp];have:=Hl (Rb:=Rb) (B8:=B8) (B9:=B9) V hc (S:=S) (w0:=w0) (z0:=z0) (z1:=z1) (z2:=z2) (z3:=z3) (z4:=z4) (z5:=z5) (z7:=z7) (z8:=z8) (i:=i) (k:=k) (t:=t) (so:=so) (r:=r) (u:=u) g (l++[(kP (bb M) st).1]) (kP (bb M) st).2 a5 a7 (cs.take l.length++[.int .i64 (kP (bb M) st).1]++b1) (by simp;omega) (mo hst) (by simpa using a9) a4 (fun i hi=>?_)
    ·rw[lz,if_pos a1]
     simpa using this
    ·rcases cy i l.length with hi2|hi2
     ·rw[IH hi2 a3,h3 i hi2,ek hi2]
     ·have:i=l.length:=by simp at hi;omega
      subst this;rw[HM a3];simp
   ·rw[oc a1,aL]
    refine eA.one (pj V hst) ⟨_,_,_,rfl,rfl,?_⟩;refine eA.one (pj V (mo hst)) ⟨_,_,_,rfl,rfl,?_⟩;exact zi [0,3] rfl ⟨some ⟨O,0,none⟩,cap,_,rfl,rfl,a2 _ rfl⟩
theorem XX {Rb B8 B9:Nat}{M:BA}(O:M.size<4611686018427387904){n:Int}(hc:n≤64){z0 z1:Int}{z2:BA}{z3 z4 z5 z7 z8 i k:Int}{t:BA}{so r u:Int}{st:RS}(V:st.1≤(bb M).length):
  zN Rb B8 B9 n 0 M st.1 st.2 z0 z1 z2 z3 z4 z5 z7 z8 i k t so r u 0 0 S w0 (fun e a2=>∃v L',e=.returned v∧Mem L' S w0 a2∧A4 256 Rb M (xb (bb M) i k t so r u (lz (kP (bb M)) n.toNat st).1 (lz (kP (bb M)) n.toNat st).2) v L'):=by
 apply Ss;refine⟨fun a4=>⟨fun a1=>?_,fun a1=>?_⟩,fun a4=>?_⟩
 ·refine eA.vx (pj O V) ⟨_,_,_,rfl,rfl,fun a8 B6 cap a7 a5 a6=>?_⟩
  rintro _ rfl;obtain⟨g,a3⟩:∃g:Nat,n.toNat=g+1:=⟨n.toNat-1,by omega⟩;have:=Hl (Rb:=Rb) (B8:=B8) (B9:=B9) O hc (S:=S) (w0:=w0) (z0:=z0) (z1:=z1) (z2:=z2) (z3:=z3) (z4:=z4) (z5:=z5) (z7:=z7) (z8:=z8) (i:=i) (k:=k) (t:=t) (so:=so) (r:=r) (u:=u) g [(kP (bb M) st).1] (kP (bb M) st).2 B6 cap ([.int .i64 (kP (bb M) st).1]++a7) (by simp;omega) (mo V) a5 a6 (fun i hi=>?_)
  ·rw[a3,lz,if_pos a1]
   exact this
  ·have:i=0:=by simp at hi;omega
   subst this;rfl
 ·rw[oc a1]
  refine eA.one (pj O V) ⟨_,_,_,rfl,rfl,?_⟩;refine eA.one (pj O (mo V)) ⟨_,_,_,rfl,rfl,?_⟩;exact zi [0] rfl ⟨none,0,[],rfl,rfl,fun h=>absurd h (by simp[xb])⟩
 ·have:n.toNat=0:=by omega
  rw[this];refine eA.one (pj O V) ⟨_,_,_,rfl,rfl,?_⟩;refine eA.one (pj O (mo V)) ⟨_,_,_,rfl,rfl,?_⟩;exact zi [0] rfl ⟨none,0,[],rfl,rfl,fun h=>absurd h (by simp[xb,lz])⟩
theorem N7 {Rb:Nat}{M:BA}{st:RS}(O:M.size<4611686018427387904)(h:st.1≤(bb M).length):
  lP TP 211 ⟨[.pointer (SO Rb)]⟩ [rH 256 Rb M st] (A4 256 Rb M (mO (bb M) st)):=by
 intro W hm;obtain⟨a2,a3,a4,a5,a6,V,a7,a8,a9⟩:=Bg h;refine VH Rb M st.1 st.2 hm fun B a1=>?_
 refine eA.one (pj O h) ⟨_,_,_,rfl,rfl,?_⟩;refine eA.one (pj O a2) ⟨_,_,_,rfl,rfl,?_⟩;refine eA.one (Yc O a3) ⟨_,_,_,rfl,rfl,?_⟩;refine eA.one (pj O a4) ⟨_,_,_,rfl,rfl,?_⟩;refine eA.one (pj O a5) ⟨_,_,_,rfl,rfl,?_⟩;refine eA.one (pj O a6) ⟨_,_,_,rfl,rfl,?_⟩;refine eA.one (Hh O V) ⟨_,_,_,rfl,rfl,?_⟩;have:=XX (Rb:=Rb) (B8:=B) (B9:=a1) O (Jm (s:=bb M) (most:=64) (st:=(po (bb M) st).2)) (S:=[rH 256 Rb M st].map (·.1)) (w0:=W) (z0:=0) (z1:=0) (z2:=⟨#[]⟩) (z3:=0) (z4:=0) (z5:=0) (z7:=0) (z8:=0) (i:=(si (bb M) st).1) (k:=(sV (bb M) st).1) (t:=(qM (bb M) st).1) (so:=(sG (bb M) st).1) (r:=(sY (bb M) st).1) (u:=(po (bb M) st).1) (st:=(mZ (bb M) 64 (po (bb M) st).2).2) (DV V);have e:xb (bb M) (si (bb M) st).1 (sV (bb M) st).1 (qM (bb M) st).1 (sG (bb M) st).1 (sY (bb M) st).1 (po (bb M) st).1 (lz (kP (bb M)) (p8 (bb M) 64 (po (bb M) st).2).toNat (mZ (bb M) 64 (po (bb M) st).2).2).1 (lz (kP (bb M)) (p8 (bb M) 64 (po (bb M) st).2).toNat (mZ (bb M) 64 (po (bb M) st).2).2).2=mO (bb M) st:=by
  rw[←Np];rfl
 rw[←e];exact this
theorem Ly {Rb:Nat}{s:BA}(a7:s.size<4611686018427387904){n:Int}(hc:n≤24){w0:aj}:∀(g:Nat) (l:List kT) (st:RS) (a1 cap:Nat) (cs:List aa) (F:aX),(g:Int)+l.length=n→st.1≤(bb s).length→l.length≤cap→cs.length=cap*9→pz F cs l→nU (bb s)=(l++(lz (mO (bb s)) g st).1,(lz (mO (bb s)) g st).2)→
      Aw Rb a1 s l.length cap n (l.length:Int) s st.1 st.2 cs F w0 (fun e V=>∃v L',e=.returned v∧Mem L' [] w0 V∧pq (my (bb s)) v L')
  | g,l,st,a1,cap,cs,F,hg,hst,a3,h2,h3,hrun=>by
    apply Pb;have c3:(bb s).length=s.size:=lB s;have fin:∀r v,my (bb s)=r→pq r v ((a1,.cells ⟨cs⟩ 149)::F)→Fin (fun e V=>∃v L',e=.returned v∧Mem L' [] w0 V∧pq (my (bb s)) v L') (rH 256 Rb s st::(a1,.cells ⟨cs⟩ 149)::F) [] w0 v:=fun r v O b4=>by
      rw[O];exact yI [_] [] rfl b4
    have a4:∀e v,my (bb s)=([],e)→v=.tuple #[.slice none 0 0,.int .i64 e]→Fin (fun e V=>∃v L',e=.returned v∧Mem L' [] w0 V∧pq (my (bb s)) v L') (rH 256 Rb s st::(a1,.cells ⟨cs⟩ 149)::F) [] w0 v:=fun e v O a6=>by
      rw[a6];exact fin _ _ O pq.nil
    match g with
    | 0=>
      have O:nU (bb s)=(l,st):=by rw[hrun];simp[lz]
      have b6:=(zU (bb s)).1;rw[O]at b6;refine no (by omega) ⟨fun M=>a4 _ _ (by rw[my,O,if_pos M]) rfl,fun M=>⟨fun a3=>a4 _ _ (by rw[my,O,if_neg (fun h=>h M),if_pos (show st.1<(bb s).length by omega)]) rfl,fun c2=>?_⟩⟩;refine eA.pw (fun V b7=>Be (h3.sl.mono (qt b7 fun x a2=>ag _ a2))) ⟨_,rfl,rfl,fun a5=>?_,fun a5=>?_⟩
      · exact fin _ _ (by rw[my,O,if_neg (fun h=>h M),if_neg (show¬st.1<(bb s).length by omega),if_pos a5]) ⟨_,cap,rfl,a3,h3.sl⟩
      · exact a4 _ _ (by rw[my,O,if_neg (fun h=>h M),if_neg (show¬st.1<(bb s).length by omega),if_neg (by rw[a5];simp)]) rfl
    | g +1=>
      refine yes (by omega) ⟨fun M=>?_,fun M=>?_⟩
      · refine eA.wM (N7 a7 hst) fun v L' ⟨p,c,F4,a6,hL,hi⟩=>⟨_,F4,hL,_,_,_,_,_,_,p,_,c,_,_,_,_,F++F4,a6,rfl,fun B6=>⟨⟨a3,h2⟩,by omega,fun B7 b1 c4 a8 a9=>?_⟩⟩
        rintro _ rfl;have b3:pz (F++F4) cs l:=h3.mono fun x a2=>ay _ a2
        have b5:=hi.mono (mR (F':=F++F4) fun x a2=>ak _ a2);have b9:=b3.app a3 h2 b5 (zV hst) a8 a9;rw[kS (by omega),show(l.length:Int)+1=((l++[(mO (bb s) st).1]).length:Int)by simp];rw[lz,if_pos M]at hrun;have:=Ly (Rb:=Rb) a7 hc (w0:=w0) g (l++[(mO (bb s) st).1]) (mO (bb s) st).2 B7 b1 _ (F++F4) (by simp;omega) (wD hst) (by simpa using a8) a9 b9 (by rw[hrun];simp);have e:(l++[(mO (bb s) st).1]).length=l.length+1:=by simp
        rw[e]at this;simpa using this
      · rw[oc M,aL]at hrun
        exact a4 _ _ (by rw[my,hrun,if_pos M]) rfl
theorem Py (s:BA)(a5:s.size<4611686018427387904):lP TP 205 ⟨[.string s]⟩ [] (pq (my (bb s))):=by
 intro W hm;refine Wc s (Mem.start [] W) fun B=>eA.one (Hh (st:=(0,0)) a5 (bx _)) ⟨_,_,_,rfl,rfl,?_⟩
 have b6:(bb s).length=s.size:=lB s;have a6:(mZ (bb s) 24 (0,0)).2.1≤(bb s).length:=DV (bx _);have a1:nU (bb s)=lz (mO (bb s)) (p8 (bb s) 24 (0,0)).toNat (mZ (bb s) 24 (0,0)).2:=Np;have hc:p8 (bb s) 24 (0,0)≤24:=Jm (most:=24);generalize p8 (bb s) 24 (0,0)=n at*;generalize (mZ (bb s) 24 (0,0)).2=st at*;apply UA;have a3:∀e v,my (bb s)=([],e)→v=.tuple #[.slice none 0 0,.int .i64 e]→Fin (fun e O=>∃v L',e=.returned v∧Mem L' [] W O∧pq (my (bb s)) v L') [rH 256 B s st] [] W v:=fun e v V a2=>by
  rw[V,a2];exact zi [] rfl pq.nil
 refine⟨fun b3=>⟨fun M=>?_,fun M=>?_⟩,fun b3=>?_⟩
 ·refine eA.wM (N7 a5 a6) fun v L' ⟨p,c,F4,a2,hL,hi⟩=>⟨_,F4,hL,_,_,_,_,_,_,p,_,c,_,_,_,_,F4,a2,rfl,fun B2 B3 cap b7 a7 a8=>?_⟩
  rintro _ rfl;obtain⟨g,a9⟩:∃g:Nat,n.toNat=g+1:=⟨n.toNat-1,by omega⟩;rw[a9,lz,if_pos M]at a1;exact Ly (Rb:=B) a5 hc (w0:=W) g [(mO (bb s) st).1] (mO (bb s) st).2 B3 cap _ F4 (by simp;omega) (wD a6) a7 a8 (pz.one hi (zV a6) a7 a8) a1
 ·rw[oc M]at a1
  exact a3 _ _ (by rw[my,a1,if_pos M]) rfl
 ·have:n.toNat=0:=by omega
  rw[this]at a1;have V:nU (bb s)=([],st):=a1;have b1:=(zU (bb s)).1;rw[V]at b1;refine⟨fun M=>a3 _ _ (by rw[my,V,if_pos M]) rfl,fun M=>⟨fun b4=>a3 _ _ (by rw[my,V,if_neg (fun h=>h M),if_pos (show st.1<(bb s).length by omega)]) rfl,fun b5=>?_⟩⟩;have a2:∀O:aj,PW TP 164 ⟨[.slice none 0 0]⟩ O (.bool (m9 [])):=fun O=>Be (p:=none) (c:=0) (l:=[]) (fun h=>absurd h (by simp))
  refine eA.pw (fun O _=>a2 O) ⟨_,rfl,rfl,fun a4=>?_,fun a4=>absurd a4 (by decide)⟩;exact a3 _ _ (by rw[my,V,if_neg (fun h=>h M),if_neg (show¬st.1<(bb s).length by omega),if_pos a4]) rfl
abbrev kBoq (x0 x1 x2):=([(x0,.cells #[.bool false,.string x1,IV x2,.pointer (some ⟨x0,3,none⟩),.slice none 0 0] 105)]:aX)
abbrev kDcq (x0):=([.pointer (some ⟨x0,3,none⟩)]:List aa)
abbrev kDeq (x0 x1 x2):=([(x0,.cells #[.bool false,.string x1,IV x2,.pointer none,.slice none 0 0] 105)]:aX)
abbrev kDiq (x0 x1):=([.pointer (some ⟨x0,3,none⟩),.string x1]:List aa)
theorem Wb (B:Nat)(a c:BA)(b:Int)(hm:Mem (kDeq B c b) S w0 W)(H:VP S w0 R (.il 8 fZ (kDcq B)<|.ru [5,200]<|.r 6<|.pC 0 103 B 3 ([.bool false,.string c,IV b,.pointer none,.slice none 0 0]:List aa) 105 1<|.r 1<|.pB 0 103 B 3 5 ([.bool false,.string c,IV b,.pointer none,.slice none 0 0]:List aa) 105<|.ru [2,200]<|.rk 1<|.ru [7,200]<|.r 1<|.aS false 47 9 5 1 a (.ru [2,200]<|.li 6 4 (a.size:Int) fun f=>.re 2 (kCbq f) (kBoq B c b)) fun(d e:Nat) (r:List aa)=>.ru [2,200]<|.li 6 4 (a.size:Int) fun g=>.re 2 (kCbq g) [(B,.cells #[.bool false,.string c,IV b,.pointer (some ⟨B,3,none⟩),.slice (SO d) a.size e] 105),(d,.cells ⟨((kU a.data.toList)++r)⟩ 5)])):aE TP 109 ⟨(kDiq B a)⟩ W R:=VC.cs ga hm _ H
theorem X7 (B:Nat)(a c:BA)(b:Int)(hm:Mem (kBoq B c b) S w0 W)(H:VP S w0 R (.il 8 fZ (kDcq B)<|.ru [5,200,8,200]<|.r 1<|.nS 101 ⟨B,3,none⟩<|.rk 3<|.ru [7,200]<|.r 1<|.aS false 47 9 5 1 a (.ru [2,200]<|.li 6 4 (a.size:Int) fun f=>.re 2 (kCbq f) (kBoq B c b)) fun(d e:Nat) (r:List aa)=>.ru [2,200]<|.li 6 4 (a.size:Int) fun g=>.re 2 (kCbq g) [(B,.cells #[.bool false,.string c,IV b,.pointer (some ⟨B,3,none⟩),.slice (SO d) a.size e] 105),(d,.cells ⟨((kU a.data.toList)++r)⟩ 5)])):aE TP 109 ⟨(kDiq B a)⟩ W R:=VC.cs ga hm _ H
theorem PS (B:Nat)(a g:BA)(e:Int)(c b f:Nat)(cs:List aa)(hm:Mem [(B,.cells #[.bool false,.string g,IV e,.pointer (some ⟨B,3,none⟩),.slice (SO c) b (f+1)] 105),(c,.cells ⟨cs⟩ 5)] S w0 W)(H:VP S w0 R (.il 8 fZ (kDcq B)<|.ru [5,200,8,200]<|.r 1<|.nS 101 ⟨B,3,none⟩<|.rk 3<|.ru [7,200]<|.r 1<|.oS false 1 c b (f+1) cs 47 9 5 1 a fun(d h:Nat) (r:List aa)=>.ru [2,200]<|.li 6 4 (a.size:Int) fun i=>.re 2 (kCbq i) [(B,.cells #[.bool false,.string g,IV e,.pointer (some ⟨B,3,none⟩),.slice (SO d) (b+a.size) h] 105),(d,.cells ⟨((cs).take (b*1)++(kU a.data.toList)++r)⟩ 5)])):aE TP 109 ⟨(kDiq B a)⟩ W R:=VC.cs ga hm _ H
theorem RF (B:Nat)(b:BA)(a:Int)(hm:Mem (kDeq B b a) S w0 W)(H:VP S w0 R (.r 5<|.dr 10<|.qu [3,100,4,100,1]<|.dn<|.re 3 (sZ) (kDeq B b a))):aE TP 60 ⟨(kDcq B)⟩ W R:=VC.cs gw hm _ H
theorem Tx (B:Nat)(b:BA)(a:Int)(hm:Mem (kBoq B b a) S w0 W)(H:VP S w0 R (.r 5<|.dr 10<|.qu [3,100,4,100,1]<|.dn<|.re 3 (sZ) (kBoq B b a))):aE TP 60 ⟨(kDcq B)⟩ W R:=VC.cs gw hm _ H
theorem XS (B:Nat)(f:BA)(d:Int)(a b e:Nat)(cs:List aa)(hm:Mem [(B,.cells #[.bool false,.string f,IV d,.pointer (some ⟨B,3,none⟩),.slice (SO a) b (e+1)] 105),(a,.cells ⟨cs⟩ 5)] S w0 W)(H:VP S w0 R (.r 5<|.dr 10<|.qu [3,100,4,100,1]<|.dn<|.ex fun(c:List UInt8)=>.uS 1 a 5 158 3 b cs c<|.ls 1 2 (⟨c.toArray⟩) fun g=>.re 1 (.string g) [(B,.cells #[.bool false,.string f,IV d,.pointer (some ⟨B,3,none⟩),.slice (SO a) b (e+1)] 105)])):aE TP 60 ⟨(kDcq B)⟩ W R:=VC.cs gw hm _ H
abbrev kAcq (x0 x1 x2 x3 x4):=((x0,.cells #[.bool false,.string x1,IV x2,x3,x4] 105):Nat×Obj)
abbrev kCvq (x0 x1 x2):=([PP x0,.pointer (some ⟨x1,x2,none⟩)]:List aa)
theorem ZF (B e no:Nat)(b:BA)(a:Int)(h f:aa)(d:aX)(hm:Mem ((kAcq B b a h f)::d) S w0 W)(H:VP S w0 R (.hp ((kAcq B b a h f)::d) fun c=>.ru [6,200]<|.r 7<|.x2 fun(k:List aa) m1=>.mU e no 3 k (IV m1)<|.cl 0 48 [IV m1] c<|.x2 fun j l=>.rt (kBcq j l) c<|.cl 12 109 (kDiq B j) c<|.x5 fun r31 (m i g:aa) F1=>.rt (.tuple #[IV r31,m]) ((kAcq B b a i g)::F1)<|.re 1 (.tuple #[]) ((kAcq B b a i g)::F1))):aE TP 98 ⟨(kCvq B e no)⟩ W R:=VC.cs Tryz.func98 hm _ H
theorem P1 (B e no:Nat)(b:BA)(a:Int)(h f:aa)(d:aX)(hm:Mem ((kAcq B b a h f)::d) S w0 W)(H:VP S w0 R (.hp ((kAcq B b a h f)::d) fun c=>.ru [6,200]<|.r 7<|.x2 fun(k:List aa) m1=>.mU e no 9 k (.string m1)<|.cl 0 91 [.string m1] c<|.x2 fun j l=>.rt (kBcq j l) c<|.cl 12 109 (kDiq B j) c<|.x5 fun r31 (m i g:aa) F1=>.rt (.tuple #[IV r31,m]) ((kAcq B b a i g)::F1)<|.re 1 (.tuple #[]) ((kAcq B b a i g)::F1))):aE TP 133 ⟨(kCvq B e no)⟩ W R:=VC.cs Tryz.func133 hm _ H
theorem R2 (B:Nat)(a j:Int)(d:BA)(c:Int)(h f:aa)(e:aX)(hm:Mem ((kAcq B d c h f)::e) S w0 W)(H:VP S w0 R (.nf 2 (.cells #[IV a] 3) fun b=>.cl 5 98 [PP B,PP b] ((b,.cells #[IV a] 3)::(kAcq B d c h f)::e)<|.x3 fun(i g:aa) F1=>.rt (.tuple #[]) ((b,.cells #[IV a] 3)::(kAcq B d c i g)::F1)<|.ru [7,201,11,200]<|.re 2 (IV a) ((b,.cells #[IV a] 3)::(kAcq B d c i g)::F1))):aE TP 168 ⟨[PP B,IV a,IV j]⟩ W R:=VC.cs Tryz.func168 hm _ H
noncomputable def Ae (a c:Nat)(i j:Int)(d:Bool)(e:BA)(f:Int)(g h:aa)(b:aX)(S:List Nat):Cut:=⟨TP,S,135,35,(KC Tryz.f135 60),[(0,PP a),(1,.pointer (some ⟨c,9,none⟩)),(23,IV i),(24,IV j)],((a,.cells #[.bool d,.string e,IV f,g,h] 105)::b)⟩
abbrev kBgq (x0 x1 x2 x3 x4 x5 x6):=((x0,.cells #[.bool x1,.string x2,IV x3,x4,x5] 105)::x6:aX)
theorem KB (b g:Nat)(i a:Int)(c:Bool)(d:BA)(e:Int)(n o:aa)(j:aX)(H:VP S w0 R (.hp (kBgq b c d e n o j) fun m=>.P 5 25 (a<i) (.r 13<|.x4 fun(p:List aa) m51_p m51_l m51_c=>.mU g 9 32 p (.slice m51_p m51_l m51_c)<|.r 1<|.x2 fun h f=>.sp m51_p h f [30]<|.iL h f m51_l m51_c 1 a (f+(ad a))<|.cl 0 133 [PP b,.pointer (some ⟨h,(f+(ad a)),none⟩)] m<|.x3 fun(l k:aa) F3=>.rt (.tuple #[]) (kBgq b c d e l k F3)<|.cT 7 [0] 1 (Ae b g i (ab.wrap (a+1)) c d e l k F3 S))<|.re 2 (.tuple #[]) m)):Ae b g i a c d e n o j S w0 R:=VC.go gI _ H
abbrev kEpq (x0 x1):=([PP x0,.pointer (some ⟨x1,9,none⟩)]:List aa)
theorem SN (B a:Nat)(c:BA)(b:Int)(g e:aa)(d:aX)(hm:Mem ((kAcq B c b g e)::d) S w0 W)(H:VP S w0 R (.r 5<|.x4 fun(k:List aa) m1_p i m1_c=>.mU a 9 32 k (.slice m1_p i m1_c)<|.cl 1 168 [PP B,IV (i:Int),IV 4] ((kAcq B c b g e)::d)<|.x4 fun r1 (h f:aa) F1=>.rt (IV r1) ((kAcq B c b h f)::F1)<|.ru [8,200]<|.r 7<|.x4 fun(l:List aa) m21_p j m21_c=>.mU a 9 32 l (.slice m21_p j m21_c)<|.cT 5 [0] 1 (Ae B a (j:Int) 0 false c b h f F1 S))):aE TP 135 ⟨(kEpq B a)⟩ W R:=VC.cs gI hm _ H
abbrev kAtq (x0 x1):=((x0,.cells #[.string x1] 9):Nat×Obj)
abbrev kEmq (x0 x1):=([PP x0,.pointer (some ⟨x1,10,none⟩)]:List aa)
theorem WW (B h:Nat)(c:BA)(b:Int)(g f:aa)(e:aX)(hm:Mem ((kAcq B c b g f)::e) S w0 W)(H:VP S w0 R (.nf 2 (.cells #[sZ] 9) fun a=>.hp ((a,.cells #[sZ] 9)::(kAcq B c b g f)::e) fun k=>.ru [200,7,201]<|.r 6<|.x4 fun(l:List aa) m1_p m1_l m1_c=>.mU h 10 33 l (.slice m1_p m1_l m1_c)<|.cl 0 169 [.slice m1_p m1_l m1_c] k<|.x2 fun d m=>.rt (kBcq d m) k<|.ru [3,200]<|.cl 4 133 [PP B,PP a] ((kAtq a d)::(kAcq B c b g f)::e)<|.x3 fun(j i:aa) F1=>.rt (.tuple #[]) ((kAtq a d)::(kAcq B c b j i)::F1)<|.ru [6,201]<|.re 3 (.tuple #[]) ((kAtq a d)::(kAcq B c b j i)::F1))):aE TP 137 ⟨(kEmq B h)⟩ W R:=VC.cs Tryz.func137 hm _ H
noncomputable def Bp (a c:Nat)(i j:Int)(d:Bool)(e:BA)(f:Int)(g h:aa)(b:aX)(S:List Nat):Cut:=⟨TP,S,139,54,(KC Tryz.f139 244),[(0,PP a),(1,.pointer (some ⟨c,11,none⟩)),(31,IV i),(32,IV j)],((a,.cells #[.bool d,.string e,IV f,g,h] 105)::b)⟩
theorem Ko (a f:Nat)(i e:Int)(b:Bool)(c:BA)(d:Int)(s t:aa)(j:aX)(H:VP S w0 R (.hp (kBgq a b c d s t j) fun q=>.P 5 33 (e<i) (.r 14<|.x4 fun(u:List aa) m51_p m51_l m51_c=>.mU f 12 34 u (.slice m51_p m51_l m51_c)<|.r 1<|.x2 fun h g=>.sp m51_p h g [39]<|.iL h g m51_l m51_c 1 e (g+(ad e))<|.cl 0 98 [PP a,.pointer (some ⟨h,(g+(ad e)),none⟩)] q<|.x3 fun(n k:aa) F4=>.rt (.tuple #[]) (kBgq a b c d n k F4)<|.cT 7 [0] 1 (Bp a f i (ab.wrap (e+1)) b c d n k F4 S))<|.cl 8 98 [PP a,.pointer (some ⟨f,13,none⟩)] q<|.x3 fun(o l:aa) F5=>.rt (.tuple #[]) (kBgq a b c d o l F5)<|.cl 6 98 [PP a,.pointer (some ⟨f,14,none⟩)] (kBgq a b c d o l F5)<|.x3 fun(p m:aa) F6=>.rt (.tuple #[]) (kBgq a b c d p m F6)<|.re 1 (.tuple #[]) (kBgq a b c d p m F6))):Bp a f i e b c d s t j S w0 R:=VC.go gJ _ H
abbrev kDfq (x0 x1):=([PP x0,.pointer (some ⟨x1,11,none⟩)]:List aa)
theorem Wi (B c:Nat)(b:BA)(a:Int)(h e:aa)(d:aX)(hm:Mem ((kAcq B b a h e)::d) S w0 W)(H:VP S w0 R (.cl 6 98 (kDfq B c) ((kAcq B b a h e)::d)<|.x3 fun(i f:aa) F1=>.rt (.tuple #[]) ((kAcq B b a i f)::F1)<|.r 7<|.x4 fun(m:List aa) m1_p k m1_c=>.mU c 12 34 m (.slice m1_p k m1_c)<|.cl 1 168 [PP B,IV (k:Int),IV 64] ((kAcq B b a i f)::F1)<|.x4 fun r1 (j g:aa) F2=>.rt (IV r1) ((kAcq B b a j g)::F2)<|.ru [8,200]<|.r 9<|.x4 fun(n:List aa) m21_p l m21_c=>.mU c 12 34 n (.slice m21_p l m21_c)<|.cT 5 [0] 1 (Bp B c (l:Int) 0 false b a j g F2 S))):aE TP 139 ⟨(kDfq B c)⟩ W R:=VC.cs gJ hm _ H
theorem pH {L F:aX}(hm:Mem L S w0 W)(V:∀x∈F,x∈L):∀b c,qb S w0 b c→qb (F.map (·.1)) W b c:=by
 rintro b c ⟨O,M⟩;refine⟨fun a1=>?_,sh hm.kept O M⟩;obtain⟨q,a2,rfl⟩:=List.mem_map.1 a1;rcases hm.own q (V q a2)with h|h
 ·unfold lG at M
  rw[Array.getElem?_eq_none h]at M;cases M
 ·exact O h
theorem zD {told F:aX}(hm:Mem (told++F) S w0 W){b:Nat}{c:List aa}{t:TypeId}{fz:Nat×Nat}(h:(b,bu ⟨c⟩ t fz)∈told):qb (F.map (·.1)) W b c:=by
 refine⟨fun O=>?_,?_⟩
 ·have M:=hm.nodup
  rw[List.map_append,List.nodup_append]at M;exact M.2.2 b (List.mem_map_of_mem h) b O rfl
 ·have:=hm.here _ (ay F h)
  simp only at this;simp[lG,this]
theorem eA.pM {F:aX}{M:aj→Prop}(h:m0 P g args F M K)(a1:∀W,Mem F S w0 W→M W)(O:∀v F',K v F'→K' v F'):eA P g args F S w0 K':=
 eA.nX (L1:=[]) h a1 (by simp) fun v L' V=>⟨L',by simp,O v L' V⟩
abbrev DK (K:aa→aX→Prop)(S:List Nat)(w0:aj):bJ→aj→Prop:=fun e W'=>∃v L',e=.returned v∧Mem L' S w0 W'∧K v L'
abbrev kH (B:Nat)(p v:aa):Nat×Obj:=(B,.cells #[.bool false,.string ⟨#[]⟩,.int .i64 0,p,v] 105)
def n0 (B:Nat)(s:List UInt8)(p v:aa)(G:aX):Prop:=
 (s=[]∧p=.pointer none∧v=.slice none 0 0∧G=[])∨(s=[]∧p=.pointer (some ⟨B,3,none⟩)∧v=.slice none 0 0∧G=[])∨
 ∃(Q cap:Nat) (cs:List aa),0<s.length∧s.length≤cap+1∧cs.length=(cap+1)*1∧cs.take s.length=kU s∧
  p=.pointer (some ⟨B,3,none⟩)∧v=.slice (SO Q) s.length (cap+1)∧G=[(Q,.cells ⟨cs⟩ 5)]
def s6 (B:Nat)(s:List UInt8)(u:aa)(v:aa)(L':aX):Prop:=∃p' v' G',v=u∧L'=kH B p' v'::G'∧n0 B s p' v' G'
theorem n0.new (B:Nat):n0 B [] (.pointer none) (.slice none 0 0) []:=.inl ⟨rfl,rfl,rfl,rfl⟩
theorem n0.row {B Q cap:Nat}{s:List UInt8}{cs:List aa}(M:0<s.length)(O:s.length≤cap)(V:cs.length=cap*1)(a1:cs.take s.length=kU s):
  n0 B s (.pointer (some ⟨B,3,none⟩)) (.slice (SO Q) s.length cap) [(Q,.cells ⟨cs⟩ 5)]:=by
 obtain⟨c,rfl⟩:∃c,cap=c+1:=⟨cap-1,by omega⟩;exact .inr (.inr ⟨Q,c,cs,M,O,V,a1,rfl,rfl,rfl⟩)
theorem Ic {B:Nat}{l:List UInt8}{s:BA}{p v:aa}{G:aX}(h:n0 B l p v G)(a2:l.length+s.size≤140737488355328):
  lP TP 109 ⟨[.pointer (some ⟨B,3,none⟩),.string s]⟩ (kH B p v::G) (s6 B (l++bb s) (.tuple #[.int .i64 (s.size:Int),.nilIface])):=by
 intro W hm;have V:(bb s).length=s.size:=lB s;rcases h with⟨rfl,rfl,rfl,rfl⟩|⟨rfl,rfl,rfl,rfl⟩|⟨Q,cap,cs,h0,O,M,h3,rfl,rfl,rfl⟩
 ·simp only[bt,az]at a2
  refine Wb B s ⟨#[]⟩ 0 hm ⟨by omega,fun a5=>?_,fun hp a1 cap r O M=>?_⟩
  ·rintro _ rfl
   exact kR ⟨_,_,_,rfl,rfl,.inr (.inl ⟨by rw[aT];exact aQ.1 (by omega),rfl,rfl,rfl⟩)⟩
  ·rintro _ rfl
   refine kR ⟨_,_,_,rfl,rfl,?_⟩;rw[aT,←V];exact n0.row (by omega) (by omega) M (wB _ _)
 ·simp only[bt,az]at a2
  refine X7 B s ⟨#[]⟩ 0 hm ⟨by omega,fun a5=>?_,fun hp a1 cap r O M=>?_⟩
  ·rintro _ rfl
   exact kR ⟨_,_,_,rfl,rfl,.inr (.inl ⟨by rw[aT];exact aQ.1 (by omega),rfl,rfl,rfl⟩)⟩
  ·rintro _ rfl
   refine kR ⟨_,_,_,rfl,rfl,?_⟩;rw[aT,←V];exact n0.row (by omega) (by omega) M (wB _ _)
 ·refine PS B s ⟨#[]⟩ 0 Q l.length cap cs hm ⟨⟨O,M⟩,by omega,fun a1 a6 r a3 a4=>?_⟩
  rintro _ rfl;refine kR ⟨_,_,_,rfl,rfl,?_⟩;rw[ez,h3,←zy]at a4 ⊢;have e:l.length+s.size=(l++bb s).length:=by rw[ae,V]
  rw[e]at a3 ⊢;exact n0.row (by omega) a3 a4 (wB _ _)
theorem YC {B:Nat}{l:List UInt8}{p v:aa}{G:aX}(h:n0 B l p v G)(M:l.length≤9223372036854775807):lP TP 60 ⟨[.pointer (some ⟨B,3,none⟩)]⟩ (kH B p v::G) (fun u F'=>u=.string (ba l)):=by
 intro W hm;rcases h with⟨rfl,rfl,rfl,rfl⟩|⟨rfl,rfl,rfl,rfl⟩|⟨Q,cap,cs,h0,h1,h2,h3,rfl,rfl,rfl⟩
 ·exact RF B ⟨#[]⟩ 0 hm (kR rfl)
 ·exact Tx B ⟨#[]⟩ 0 hm (kR rfl)
 ·refine XS B ⟨#[]⟩ 0 Q l.length cap cs hm ⟨l,⟨h3,rfl,h0,M⟩,?_⟩
  rintro _ rfl;exact kR rfl
abbrev nm (B:Nat)(p v:aa)(G:aX):List Nat:=(kH B p v::G).map (·.1)
theorem tJ {B O no:Nat}{n:Int}{l:List UInt8}{p v:aa}{G:aX}(hn:lU n)(h:n0 B l p v G)(a4:l.length≤1000000000):
  m0 TP 98 ⟨[.pointer (SO B),.pointer (some ⟨O,no,none⟩)]⟩ (kH B p v::G) (fun W=>∃M,qb (nm B p v G) W O M∧M[no]?=some (.int .i64 n)) (s6 B (l++Wire.enc n) (.tuple #[])):=by
 rintro W hm ⟨M,⟨V,a1⟩,a2⟩;have a3:=lx n;refine ZF B O no ⟨#[]⟩ 0 p v G hm ⟨M,n,V,a1,a2,eA.pure (I2 hn) ⟨_,_,rfl,rfl,?_⟩⟩;refine eA.wY (Ic h (by rw[lY];omega)) fun u L' ⟨p',v',G',hu,hL,hR⟩=>⟨_,_,p',v',G',hu,hL,kR ⟨_,_,_,rfl,rfl,?_⟩⟩
 rwa[mA]at hR
theorem FG {B O no:Nat}{s:BA}{l:List UInt8}{p v:aa}{G:aX}(a4:s.size≤65536)(h:n0 B l p v G)(a5:l.length≤1000000000):
  m0 TP 133 ⟨[.pointer (SO B),.pointer (some ⟨O,no,none⟩)]⟩ (kH B p v::G) (fun W=>∃M,qb (nm B p v G) W O M∧M[no]?=some (.string s)) (s6 B (l++lL (bb s)) (.tuple #[])):=by
 rintro W hm ⟨M,⟨V,a1⟩,a2⟩;have a3:=pd (bb s);rw[lB]at a3;refine P1 B O no ⟨#[]⟩ 0 p v G hm ⟨M,s,V,a1,a2,eA.pure (Mn a4) ⟨_,_,rfl,rfl,?_⟩⟩;refine eA.wY (Ic h (by rw[lY];omega)) fun u L' ⟨p',v',G',hu,hL,hR⟩=>⟨_,_,p',v',G',hu,hL,kR ⟨_,_,_,rfl,rfl,?_⟩⟩
 rwa[mA]at hR
theorem HT {B:Nat}{n most:Int}{l:List UInt8}{p v:aa}{G:aX}(hn:lU n)(h:n0 B l p v G)(O:l.length≤1000000000):
  lP TP 168 ⟨[.pointer (SO B),.int .i64 n,.int .i64 most]⟩ (kH B p v::G) (s6 B (l++Wire.enc n) (.int .i64 n)):=by
 intro W hm;refine R2 B n most ⟨#[]⟩ 0 p v G hm fun M=>?_
 refine eA.va [(M,.cells #[.int .i64 n] 3)] (tJ hn h O) (fun a1 V=>⟨_,zD (c:=[.int .i64 n]) V (cK.2 rfl),rfl⟩) fun u F' ⟨p',v',G',hu,hL,hR⟩=>⟨p',v',G',hu,by rw[hL];rfl,?_⟩
 exact yI [_,kH B p' v'] [1] rfl ⟨_,_,_,rfl,rfl,hR⟩
def rW (S:List Nat)(f:dF)(FB:Nat)(W:aj):Prop:=∃cs,qb S W FB cs∧sD (qb S W) cs f
theorem rW.old {L F:aX}{f:dF}{FB:Nat}(h:rW S f FB w0)(hm:Mem L S w0 W)(M:∀x∈F,x∈L):rW (F.map (·.1)) f FB W:=by
 obtain⟨cs,O,V⟩:=h;exact⟨cs,pH hm M _ _ O,V.mono (pH hm M)⟩
theorem zg {α:Type}{e:α→List UInt8}{l:List α}{i:Nat}(h:i<l.length):(l.take (i+1)).flatMap e=(l.take i).flatMap e++e l[i]:=by
 rw[List.take_add_one,ar h,List.flatMap_append];simp
theorem rj {α:Type}{e:α→List UInt8}{m:Nat}:∀(l:List α),(∀x∈l,(e x).length≤m)→(l.flatMap e).length≤m*l.length
 |[],_=>by simp
 |x::l,h=>by
  have O:=h x au;have V:=rj l (fun y M=>h y (ag _ M));rw[bq,ae,aI,Nat.mul_succ];omega
theorem Ik {B FB:Nat}{f:dF}{S:List Nat}{w0:aj}(a5:rW S f FB w0)(M:oF .topics f.topics){l:List UInt8}(a6:l.length≤900000000):∀(g i:Nat) (p v:aa) (G:aX),g+i=f.topics.length→n0 B (l++(f.topics.take i).flatMap fun s:BA=>lL (bb s)) p v G→
  Ae B FB (f.topics.length:Int) (i:Int) false ⟨#[]⟩ 0 p v G S w0 (DK (s6 B (l++f.topics.flatMap fun s:BA=>lL (bb s)) (.tuple #[])) S w0)
 |0,i,p,v,G,hg,h=>by
  apply KB;rw[aK (by omega)]at h;exact no (by omega) (kR ⟨_,_,_,rfl,rfl,h⟩)
 | g+1,i,p,v,G,hg,h=>by
  apply KB;have hi:i<f.topics.length:=by omega
  obtain⟨cs,hcs,tp,tc,bp,bc,ap,ac,rfl,V⟩:=a5;obtain⟨b,o,cc,e1,a1,a2⟩:=V.tops.get hi;have a4:=M.2 _ (bH hi);have a7:=rj (e:=fun s:BA=>lL (bb s)) (m:=65546) (f.topics.take i) (fun x O=>by
   have:=M.2 x (ft O);have a3:=pd (bb x);rw[lB]at a3;omega)
  have b1:=M.1;rw[ao]at a7;refine yes (by omega) ⟨_,tp,f.topics.length,tc,hcs.1,hcs.2,rfl,b,o,e1,by omega,?_⟩;refine eA.pM (FG a4 h (by rw[ae];have:65546*min i f.topics.length≤65546*4:=eo _ (by omega);omega)) (fun a9 a8=>⟨cc,pH a8 (fun x O=>O) _ _ a1,by simpa using a2⟩) fun u F' ⟨p',v',G',hu,hL,hR⟩=>⟨p',v',G',hu,hL,?_⟩
  rw[kS (by omega),show(i:Int)+1=((i+1:Nat):Int)by omega];refine Ik ⟨_,hcs,tp,tc,bp,bc,ap,ac,rfl,V⟩ M a6 g (i+1) p' v' G' (by omega) ?_;rw[zg hi,←an];exact hR
theorem R0 {B FB:Nat}{f:dF}{l:List UInt8}{p v:aa}{G:aX}(M:oF .topics f.topics)(h:n0 B l p v G)(a3:l.length≤800000000):
  m0 TP 135 ⟨[.pointer (SO B),.pointer (some ⟨FB,9,none⟩)]⟩ (kH B p v::G) (rW (nm B p v G) f FB) (s6 B (l++f.put .topics) (.tuple #[])):=by
 intro W hm V;obtain⟨cs,hcs,tp,tc,bp,bc,ap,ac,rfl,O⟩:=V;have a1:=M.1;have a2:=lx (f.topics.length:Int);refine SN B FB ⟨#[]⟩ 0 p v G hm ⟨_,tp,f.topics.length,tc,hcs.1,hcs.2,rfl,?_⟩;refine eA.wY (HT (mg (by omega)) h (by omega)) fun u F' ⟨p',v',G',hu,hL,hR⟩=>⟨_,p',v',G',hu,hL,_,tp,f.topics.length,tc,hcs.1,hcs.2,rfl,?_⟩
 have:=Ik (B:=B) (f:=f) ⟨_,hcs,tp,tc,bp,bc,ap,ac,rfl,O⟩ M (l:=l++Wire.enc (f.topics.length:Int)) (by rw[ae];omega) f.topics.length 0 p' v' G' (by omega) (by simpa using hR);rw[an]at this;exact this
theorem WT {B FB:Nat}{f:dF}{l:List UInt8}{p v:aa}{G:aX}(a1:oF .blocks f.blocks)(h:n0 B l p v G)(V:l.length≤800000000):
  m0 TP 137 ⟨[.pointer (SO B),.pointer (some ⟨FB,10,none⟩)]⟩ (kH B p v::G) (rW (nm B p v G) f FB) (s6 B (l++f.put .blocks) (.tuple #[])):=by
 intro W hm a5;obtain⟨cs,hcs,tp,tc,bp,bc,ap,ac,rfl,O⟩:=a5;refine WW B FB ⟨#[]⟩ 0 p v G hm fun a2=>⟨_,bp,f.blocks.length,bc,hcs.1,hcs.2,rfl,?_⟩
 have a6:=yA a1;have a4:qR f.blocks=.tuple #[.string (ba (nG f.blocks)),.int .i64 0]:=by rw[qR,if_pos (show m9 f.blocks=true from a1)]
 refine eA.pw (v:=qR f.blocks) (fun a3 M=>V4 (O.blks.mono fun b c V=>(pH M (F:=[]) (by simp) b c V).2) O.cb) ⟨_,_,a4,rfl,?_⟩;refine eA.va [(a2,.cells #[.string (ba (nG f.blocks))] 9)] (FG (s:=ba (nG f.blocks)) (by rw[lY];omega) h (by omega)) (fun a3 M=>⟨_,zD (c:=[.string (ba (nG f.blocks))]) M (cK.2 rfl),rfl⟩) fun u F' ⟨p',v',G',hu,hL,hR⟩=>⟨p',v',G',hu,by rw[hL];rfl,?_⟩
 rw[mA]at hR;exact yI [_,kH B p' v'] [1] rfl ⟨_,_,_,rfl,rfl,hR⟩
theorem KE {B FB:Nat}{f:dF}{S:List Nat}{w0:aj}(a3:rW S f FB w0)(V:oF .label f.lab){l:List UInt8}(a7:l.length≤900000000):∀(g i:Nat) (p v:aa) (G:aX),g+i=f.lab.after.length→n0 B (l++(f.lab.after.take i).flatMap Wire.enc) p v G→
  Bp B FB (f.lab.after.length:Int) (i:Int) false ⟨#[]⟩ 0 p v G S w0 (DK (s6 B (l++(f.lab.after.flatMap Wire.enc++(Wire.enc f.lab.appr++Wire.enc f.lab.den))) (.tuple #[])) S w0)
 |0,i,p,v,G,hg,h=>by
  apply Ko;rw[aK (by omega)]at h;obtain⟨cs,hcs,tp,tc,bp,bc,ap,ac,rfl,a1⟩:=a3;obtain⟨b3,b4,b5,a8,a9⟩:=V;have a4:=rj (e:=Wire.enc) (m:=10) f.lab.after (fun x _=>lx x);have k1:=lx f.lab.appr;refine no (by omega) ?_;refine eA.pM (tJ a8 h (by rw[ae];omega)) (fun a2 M=>⟨_,pH M (fun x O=>O) _ _ hcs,rfl⟩) fun u F' ⟨p',v',G',hu,hL,hR⟩=>⟨p',v',G',hu,hL,?_⟩
  refine eA.pM (tJ a9 hR (by simp only[ae];omega)) (fun a2 M=>⟨_,pH M (fun x O=>O) _ _ hcs,rfl⟩) fun u F' ⟨p',v',G',hu,hL,hR⟩=>⟨p',v',G',hu,hL,kR ⟨_,_,_,rfl,rfl,?_⟩⟩
  simpa only[an]using hR
 |g+1,i,p,v,G,hg,h=>by
  apply Ko;have hi:i<f.lab.after.length:=by omega
  obtain⟨cs,hcs,tp,tc,bp,bc,ap,ac,rfl,a1⟩:=a3;obtain⟨b,o,cc,e1,a5,a6⟩:=a1.ints.get hi;have a4:=rj (e:=Wire.enc) (m:=10) (f.lab.after.take i) (fun x _=>lx x);rw[ao]at a4;have b1:=V.2.1;refine yes (by omega) ⟨_,ap,f.lab.after.length,ac,hcs.1,hcs.2,rfl,b,o,e1,by omega,?_⟩;refine eA.pM (tJ (V.2.2.1 _ (bH hi)) h (by rw[ae];omega)) (fun a2 M=>⟨cc,pH M (fun x O=>O) _ _ a5,by simpa using a6⟩) fun u F' ⟨p',v',G',hu,hL,hR⟩=>⟨p',v',G',hu,hL,?_⟩
  rw[kS (by omega),show(i:Int)+1=((i+1:Nat):Int)by omega];refine KE ⟨_,hcs,tp,tc,bp,bc,ap,ac,rfl,a1⟩ V a7 g (i+1) p' v' G' (by omega) ?_;rw[zg hi,←an];exact hR
theorem YK {B FB:Nat}{f:dF}{l:List UInt8}{p v:aa}{G:aX}(a2:oF .label f.lab)(h:n0 B l p v G)(b4:l.length≤800000000):
  m0 TP 139 ⟨[.pointer (SO B),.pointer (some ⟨FB,11,none⟩)]⟩ (kH B p v::G) (rW (nm B p v G) f FB) (s6 B (l++f.put .label) (.tuple #[])):=by
 intro W hm M;have V:=M;obtain⟨cs,hcs,tp,tc,bp,bc,ap,ac,rfl,b3⟩:=M;obtain⟨O,a4,a5,a6,a7⟩:=a2;have a9:=lx (f.lab.after.length:Int);have b1:=lx f.lab.unt;refine Wi B FB ⟨#[]⟩ 0 p v G hm ?_;refine eA.pM (tJ O h (by omega)) (fun a8 a1=>⟨_,pH a1 (fun x a3=>a3) _ _ hcs,rfl⟩) fun u F' ⟨p1,u1,G1,hu,hL,hR⟩=>⟨p1,u1,G1,hu,hL,_,ap,f.lab.after.length,ac,hcs.1,hcs.2,rfl,?_⟩
 refine eA.wY (HT (mg (by omega)) hR (by rw[ae];omega)) fun u F' ⟨p',v',G',hu,hL,hR⟩=>⟨_,p',v',G',hu,hL,_,ap,f.lab.after.length,ac,hcs.1,hcs.2,rfl,?_⟩
 have:=KE (B:=B) V ⟨O,a4,a5,a6,a7⟩ (l:=l++Wire.enc f.lab.unt++Wire.enc (f.lab.after.length:Int)) (by simp only[ae];omega) f.lab.after.length 0 p' v' G' (by omega) (by simpa using hR);simp only[an]at this;exact this
theorem RE (i kn B d no:Nat)(b:BA)(a:Int)(g e:aa)(c:aX)(hm:Mem ((kAcq B b a g e)::c) S w0 W)(H:VP S w0 R (.r 1<|.ex fun(j:List aa)=>.mU i 0 100 j (PP B)<|.ex fun(k:List aa)=>.mU kn 0 155 k (.pointer (some ⟨d,no,none⟩))<|.cl 0 98 (kCvq B d no) ((kAcq B b a g e)::c)<|.x3 fun(h f:aa) F1=>.rt (.tuple #[]) ((kAcq B b a h f)::F1)<|.re 1 (.tuple #[]) ((kAcq B b a h f)::F1))):aE TP 130 ⟨[PP i,PP kn]⟩ W R:=VC.cs iX hm _ H
theorem Xu (i kn B d no:Nat)(b:BA)(a:Int)(g e:aa)(c:aX)(hm:Mem ((kAcq B b a g e)::c) S w0 W)(H:VP S w0 R (.r 1<|.ex fun(j:List aa)=>.mU i 0 100 j (PP B)<|.ex fun(k:List aa)=>.mU kn 0 192 k (.pointer (some ⟨d,no,none⟩))<|.cl 0 133 (kCvq B d no) ((kAcq B b a g e)::c)<|.x3 fun(h f:aa) F1=>.rt (.tuple #[]) ((kAcq B b a h f)::F1)<|.re 1 (.tuple #[]) ((kAcq B b a h f)::F1))):aE TP 132 ⟨[PP i,PP kn]⟩ W R:=VC.cs iY hm _ H
theorem Sn (i j B d:Nat)(b:BA)(a:Int)(g e:aa)(c:aX)(hm:Mem ((kAcq B b a g e)::c) S w0 W)(H:VP S w0 R (.dr 4<|.ex fun(k:List aa)=>.mU i 0 100 k (PP B)<|.ex fun(l:List aa)=>.mU j 0 107 l (PP d)<|.qu [2]<|.dn<|.cl 0 135 (kEpq B d) ((kAcq B b a g e)::c)<|.x3 fun(h f:aa) F1=>.rt (.tuple #[]) ((kAcq B b a h f)::F1)<|.re 1 (.tuple #[]) ((kAcq B b a h f)::F1))):aE TP 134 ⟨[PP i,PP j]⟩ W R:=VC.cs iZ hm _ H
theorem Zh (i j B d:Nat)(b:BA)(a:Int)(g e:aa)(c:aX)(hm:Mem ((kAcq B b a g e)::c) S w0 W)(H:VP S w0 R (.dr 4<|.ex fun(k:List aa)=>.mU i 0 100 k (PP B)<|.ex fun(l:List aa)=>.mU j 0 107 l (PP d)<|.qu [2]<|.dn<|.cl 0 137 (kEmq B d) ((kAcq B b a g e)::c)<|.x3 fun(h f:aa) F1=>.rt (.tuple #[]) ((kAcq B b a h f)::F1)<|.re 1 (.tuple #[]) ((kAcq B b a h f)::F1))):aE TP 136 ⟨[PP i,PP j]⟩ W R:=VC.cs ja hm _ H
theorem Rl (i j B d:Nat)(b:BA)(a:Int)(g e:aa)(c:aX)(hm:Mem ((kAcq B b a g e)::c) S w0 W)(H:VP S w0 R (.dr 4<|.ex fun(k:List aa)=>.mU i 0 100 k (PP B)<|.ex fun(l:List aa)=>.mU j 0 107 l (PP d)<|.qu [2]<|.dn<|.cl 0 139 (kDfq B d) ((kAcq B b a g e)::c)<|.x3 fun(h f:aa) F1=>.rt (.tuple #[]) ((kAcq B b a h f)::F1)<|.re 1 (.tuple #[]) ((kAcq B b a h f)::F1))):aE TP 138 ⟨[PP i,PP j]⟩ W R:=VC.cs jb hm _ H
abbrev kBrq (x0 x1):=(.func (.func 130) #[] #[PP x0,PP x1]:aa)
theorem Ub (a no b:Nat)(hm:Mem [] [] w0 W)(H:VP [] w0 R (.np 2 (.cells #[.pointer (some ⟨a,no,none⟩)] 155) fun B=>.re 7 (kBrq b B) [(B,.cells #[.pointer (some ⟨a,no,none⟩)] 155)])):aE TP 129 ⟨[.pointer (some ⟨a,no,none⟩),PP b]⟩ W R:=VC.cs Tryz.func129 hm _ H
abbrev kCfq (x0 x1):=(.func (.func 132) #[] #[PP x0,PP x1]:aa)
theorem P8 (a no b:Nat)(hm:Mem [] [] w0 W)(H:VP [] w0 R (.np 2 (.cells #[.pointer (some ⟨a,no,none⟩)] 192) fun B=>.re 7 (kCfq b B) [(B,.cells #[.pointer (some ⟨a,no,none⟩)] 192)])):aE TP 131 ⟨[.pointer (some ⟨a,no,none⟩),PP b]⟩ W R:=VC.cs Tryz.func131 hm _ H
abbrev kAgq (x0 x1):=((x0,.cells #[.pointer (some ⟨x1,3,none⟩)] 155):Nat×Obj)
abbrev kAvq (x0 x1):=((x0,.cells #[.pointer (some ⟨x1,4,none⟩)] 192):Nat×Obj)
abbrev kBmq (x0 x1):=((x0,.cells #[.pointer (some ⟨x1,20,none⟩)] 155):Nat×Obj)
abbrev kBtq (x0 x1 x2 x3 x4 x5 x6 x7):=(#[.func (.func 130) #[] #[PP x0,PP x1],.func (.func 132) #[] #[PP x0,PP x2],.func (.func 130) #[] #[PP x0,PP x3],.func (.func 130) #[] #[PP x0,PP x4],.func (.func 132) #[] #[PP x0,PP x5],.func (.func 132) #[] #[PP x0,PP x6],.func (.func 134) #[] #[PP x0,PP x7],.func (.func 136) #[] #[PP x0,PP x7],.func (.func 138) #[] #[PP x0,PP x7]]:Array aa)
abbrev kBvq (x0 x1):=((x0,.cells #[.pointer (some ⟨x1,5,none⟩)] 155):Nat×Obj)
abbrev kCnq (x0 x1):=((x0,.cells #[.pointer (some ⟨x1,16,none⟩)] 155):Nat×Obj)
abbrev kCoq (x0 x1):=((x0,.cells #[.pointer (some ⟨x1,18,none⟩)] 192):Nat×Obj)
abbrev kCqq (x0 x1):=((x0,.cells #[.pointer (some ⟨x1,6,none⟩)] 155):Nat×Obj)
abbrev kCsq (x0 x1 x2):=(#[.func (.func 130) #[] #[PP x0,PP x1],.func (.func 130) #[] #[PP x0,PP x2]]:Array aa)
abbrev kCwq (x0 x1 x2 x3 x4 x5):=([(x0,.cells #[PP x1] 100),(x2,.cells #[PP x3] 107),(kAgq x4 x3),(kAvq x5 x3)]:aX)
abbrev kCxq (x0 x1 x2 x3 x4 x5):=([(x0,.cells #[PP x1] 100),(x2,.cells #[PP x3] 107),(kAgq x4 x3),(kBmq x5 x3)]:aX)
abbrev kDbq (x0 x1 x2 x3 x4 x5):=(#[.func (.func 130) #[] #[PP x0,PP x1],.func (.func 132) #[] #[PP x0,PP x2],.func (.func 130) #[] #[PP x0,PP x3],.func (.func 130) #[] #[PP x0,PP x4],.func (.func 132) #[] #[PP x0,PP x5]]:Array aa)
abbrev kDpq (x0 x1):=((x0,.cells #[.pointer (some ⟨x1,17,none⟩)] 155):Nat×Obj)
abbrev kDqq (x0 x1):=((x0,.cells #[.pointer (some ⟨x1,19,none⟩)] 192):Nat×Obj)
abbrev kDrq (x0 x1):=((x0,.cells #[.pointer (some ⟨x1,21,none⟩)] 155):Nat×Obj)
abbrev kDsq (x0 x1):=((x0,.cells #[.pointer (some ⟨x1,22,none⟩)] 155):Nat×Obj)
abbrev kDuq (x0 x1):=((x0,.cells #[.pointer (some ⟨x1,7,none⟩)] 192):Nat×Obj)
abbrev kEiq (x0 x1 x2 x3):=(#[.func (.func 130) #[] #[PP x0,PP x1],.func (.func 130) #[] #[PP x0,PP x2],.func (.func 130) #[] #[PP x0,PP x3]]:Array aa)
abbrev kEjq (x0 x1 x2 x3 x4 x5):=([(x0,.cells #[PP x1] 100),(x2,.cells #[PP x3] 107),(kAgq x4 x3),(x5,.cells #[.func (.func 130) #[] #[PP x0,PP x4]] 1)]:aX)
theorem WU (B a:Nat)(hm:Mem [] [] w0 W)(H:VP [] w0 R (.np 2 (.cells #[PP B] 100) fun b=>.np 0 (.cells #[PP a] 107) fun d=>.ru [30,201]<|.cl 2 129 [.pointer (some ⟨a,3,none⟩),PP b] [(b,.cells #[PP B] 100),(d,.cells #[PP a] 107)]<|.ex fun c=>.rt (kBrq b c) [(b,.cells #[PP B] 100),(d,.cells #[PP a] 107),(kAgq c a)]<|.hp [(b,.cells #[PP B] 100),(d,.cells #[PP a] 107),(kAgq c a)] fun l=>.ru [5,201]<|.r 2<|.x2 fun U f=>.lW a 2 3 U (IV f)<|.P 7 25 (f=1) (.r 2<|.dD<|.nm [3,5,6,7,8,9,10]<|.ph 30 [0,1,2,3,4,6,7,8,9,11,12,13,14,16,17,18,19,21,22,23,24,26,27,28] [5,10,15,20,25,29] 3<|.qu [2,101,3,101,3,101,3,101,3,101,5]<|.dn<|.cl 131 [.pointer (some ⟨a,4,none⟩),PP b] l<|.ex fun e=>.rt (kCfq b e) (kCwq b B d a c e)<|.cl 129 [.pointer (some ⟨a,5,none⟩),PP b] (kCwq b B d a c e)<|.ex fun g=>.rt (kBrq b g) [(b,.cells #[PP B] 100),(d,.cells #[PP a] 107),(kAgq c a),(kAvq e a),(kBvq g a)]<|.cl 129 [.pointer (some ⟨a,6,none⟩),PP b] [(b,.cells #[PP B] 100),(d,.cells #[PP a] 107),(kAgq c a),(kAvq e a),(kBvq g a)]<|.ex fun j=>.rt (kBrq b j) [(b,.cells #[PP B] 100),(d,.cells #[PP a] 107),(kAgq c a),(kAvq e a),(kBvq g a),(kCqq j a)]<|.cl 131 [.pointer (some ⟨a,7,none⟩),PP b] [(b,.cells #[PP B] 100),(d,.cells #[PP a] 107),(kAgq c a),(kAvq e a),(kBvq g a),(kCqq j a)]<|.ex fun p=>.rt (kCfq b p) [(b,.cells #[PP B] 100),(d,.cells #[PP a] 107),(kAgq c a),(kAvq e a),(kBvq g a),(kCqq j a),(kDuq p a)]<|.cl 131 [.pointer (some ⟨a,8,none⟩),PP b] [(b,.cells #[PP B] 100),(d,.cells #[PP a] 107),(kAgq c a),(kAvq e a),(kBvq g a),(kCqq j a),(kDuq p a)]<|.ex fun y=>.rt (kCfq b y) [(b,.cells #[PP B] 100),(d,.cells #[PP a] 107),(kAgq c a),(kAvq e a),(kBvq g a),(kCqq j a),(kDuq p a),(y,.cells #[.pointer (some ⟨a,8,none⟩)] 192)]<|.n2 9 (.cells (kBtq b c e g j p y d) 1) fun E=>.dn<|.tl<|.re 2 (.slice (SO E) 9 9) [(b,.cells #[PP B] 100),(d,.cells #[PP a] 107),(kAgq c a),(kAvq e a),(kBvq g a),(kCqq j a),(kDuq p a),(y,.cells #[.pointer (some ⟨a,8,none⟩)] 192),(E,.cells (kBtq b c e g j p y d) 1)])<|.P 6 57 (f=2) (.ru [5,201]<|.cl 2 129 [.pointer (some ⟨a,15,none⟩),PP b] l<|.ex fun z=>.rt (kBrq b z) [(b,.cells #[PP B] 100),(d,.cells #[PP a] 107),(kAgq c a),(z,.cells #[.pointer (some ⟨a,15,none⟩)] 155)]<|.ns false 2 (.cells (kCsq b c z) 1) fun F=>.re 2 (.slice (SO F) 2 2) [(b,.cells #[PP B] 100),(d,.cells #[PP a] 107),(kAgq c a),(z,.cells #[.pointer (some ⟨a,15,none⟩)] 155),(F,.cells (kCsq b c z) 1)])<|.P 6 66 (f=3) (.r 5<|.ns false 2 (.cells #[.func (.func 130) #[] #[PP b,PP c],.func (.func 138) #[] #[PP b,PP d]] 1) fun G=>.re 2 (.slice (SO G) 2 2) [(b,.cells #[PP B] 100),(d,.cells #[PP a] 107),(kAgq c a),(G,.cells #[.func (.func 130) #[] #[PP b,PP c],.func (.func 138) #[] #[PP b,PP d]] 1)])<|.P 6 71 (f=4) (.r 2<|.dD<|.nm [3,5,6,10]<|.ph 22 [0,1,2,3,4,6,7,8,9,11,12,13,14,16,17,18,19] [5,10,15,20,21] 3<|.qu [2,101,3,101,3,101,3,101,2]<|.dn<|.cl 131 [.pointer (some ⟨a,4,none⟩),PP b] l<|.ex fun h=>.rt (kCfq b h) (kCwq b B d a c h)<|.cl 129 [.pointer (some ⟨a,16,none⟩),PP b] (kCwq b B d a c h)<|.ex fun k=>.rt (kBrq b k) [(b,.cells #[PP B] 100),(d,.cells #[PP a] 107),(kAgq c a),(kAvq h a),(kCnq k a)]<|.cl 129 [.pointer (some ⟨a,17,none⟩),PP b] [(b,.cells #[PP B] 100),(d,.cells #[PP a] 107),(kAgq c a),(kAvq h a),(kCnq k a)]<|.ex fun q=>.rt (kBrq b q) [(b,.cells #[PP B] 100),(d,.cells #[PP a] 107),(kAgq c a),(kAvq h a),(kCnq k a),(kDpq q a)]<|.cl 131 [.pointer (some ⟨a,18,none⟩),PP b] [(b,.cells #[PP B] 100),(d,.cells #[PP a] 107),(kAgq c a),(kAvq h a),(kCnq k a),(kDpq q a)]<|.ex fun s=>.rt (kCfq b s) [(b,.cells #[PP B] 100),(d,.cells #[PP a] 107),(kAgq c a),(kAvq h a),(kCnq k a),(kDpq q a),(kCoq s a)]<|.n2 5 (.cells (kDbq b c h k q s) 1) fun M=>.dn<|.tl<|.re 2 (.slice (SO M) 5 5) [(b,.cells #[PP B] 100),(d,.cells #[PP a] 107),(kAgq c a),(kAvq h a),(kCnq k a),(kDpq q a),(kCoq s a),(M,.cells (kDbq b c h k q s) 1)])<|.P 6 95 (f=5) (.ru [5,201]<|.cl 2 131 [.pointer (some ⟨a,18,none⟩),PP b] l<|.ex fun t=>.rt (kCfq b t) [(b,.cells #[PP B] 100),(d,.cells #[PP a] 107),(kAgq c a),(kCoq t a)]<|.ns false 2 (.cells #[.func (.func 130) #[] #[PP b,PP c],.func (.func 132) #[] #[PP b,PP t]] 1) fun N=>.re 2 (.slice (SO N) 2 2) [(b,.cells #[PP B] 100),(d,.cells #[PP a] 107),(kAgq c a),(kCoq t a),(N,.cells #[.func (.func 130) #[] #[PP b,PP c],.func (.func 132) #[] #[PP b,PP t]] 1)])<|.P 7 104 (f=6) (.r 6<|.ns false 1 (.cells #[.func (.func 130) #[] #[PP b,PP c]] 1) fun O=>.re 2 (.slice (SO O) 1 1) (kEjq b B d a c O))<|.P 5 104 (f=10) (.r 4<|.ns false 1 (.cells #[.func (.func 130) #[] #[PP b,PP c]] 1) fun Q=>.re 2 (.slice (SO Q) 1 1) (kEjq b B d a c Q))<|.P 6 109 (f=7) (.r 2<|.dD<|.nm [3,6]<|.ph 11 [0,1,2,3,5,6,7,8] [4,9,10] 3<|.qu [1,101,3,101,2]<|.dn<|.cl 131 [.pointer (some ⟨a,19,none⟩),PP b] l<|.ex fun m=>.rt (kCfq b m) [(b,.cells #[PP B] 100),(d,.cells #[PP a] 107),(kAgq c a),(kDqq m a)]<|.cl 131 [.pointer (some ⟨a,18,none⟩),PP b] [(b,.cells #[PP B] 100),(d,.cells #[PP a] 107),(kAgq c a),(kDqq m a)]<|.ex fun u=>.rt (kCfq b u) [(b,.cells #[PP B] 100),(d,.cells #[PP a] 107),(kAgq c a),(kDqq m a),(kCoq u a)]<|.n2 2 (.cells #[.func (.func 132) #[] #[PP b,PP m],.func (.func 132) #[] #[PP b,PP u]] 1) fun A=>.dn<|.tl<|.re 2 (.slice (SO A) 2 2) [(b,.cells #[PP B] 100),(d,.cells #[PP a] 107),(kAgq c a),(kDqq m a),(kCoq u a),(A,.cells #[.func (.func 132) #[] #[PP b,PP m],.func (.func 132) #[] #[PP b,PP u]] 1)])<|.P 6 122 (f=8) (.r 2<|.dD<|.nm [3,5]<|.ph 16 [0,1,2,3,5,6,7,8,10,11,12,13] [4,9,14,15] 3<|.qu [1,101,3,101,3,101,2]<|.dn<|.cl 129 [.pointer (some ⟨a,20,none⟩),PP b] l<|.ex fun i=>.rt (kBrq b i) (kCxq b B d a c i)<|.cl 129 [.pointer (some ⟨a,21,none⟩),PP b] (kCxq b B d a c i)<|.ex fun n=>.rt (kBrq b n) [(b,.cells #[PP B] 100),(d,.cells #[PP a] 107),(kAgq c a),(kBmq i a),(kDrq n a)]<|.cl 129 [.pointer (some ⟨a,22,none⟩),PP b] [(b,.cells #[PP B] 100),(d,.cells #[PP a] 107),(kAgq c a),(kBmq i a),(kDrq n a)]<|.ex fun w=>.rt (kBrq b w) [(b,.cells #[PP B] 100),(d,.cells #[PP a] 107),(kAgq c a),(kBmq i a),(kDrq n a),(kDsq w a)]<|.n2 3 (.cells (kEiq b i n w) 1) fun C=>.dn<|.tl<|.re 2 (.slice (SO C) 3 3) [(b,.cells #[PP B] 100),(d,.cells #[PP a] 107),(kAgq c a),(kBmq i a),(kDrq n a),(kDsq w a),(C,.cells (kEiq b i n w) 1)])<|.P 6 140 (f=9) (.r 2<|.dD<|.nm [3,5]<|.ph 11 [0,1,2,3,5,6,7,8] [4,9,10] 3<|.qu [1,101,3,101,2]<|.dn<|.cl 129 [.pointer (some ⟨a,20,none⟩),PP b] l<|.ex fun o=>.rt (kBrq b o) (kCxq b B d a c o)<|.cl 129 [.pointer (some ⟨a,22,none⟩),PP b] (kCxq b B d a c o)<|.ex fun x=>.rt (kBrq b x) [(b,.cells #[PP B] 100),(d,.cells #[PP a] 107),(kAgq c a),(kBmq o a),(kDsq x a)]<|.n2 2 (.cells (kCsq b o x) 1) fun D=>.dn<|.tl<|.re 2 (.slice (SO D) 2 2) [(b,.cells #[PP B] 100),(d,.cells #[PP a] 107),(kAgq c a),(kBmq o a),(kDsq x a),(D,.cells (kCsq b o x) 1)])<|.re 7 (.slice none 0 0) l)):aE TP 99 ⟨[PP B,PP a]⟩ W R:=VC.cs Tryz.func99 hm _ H
def xY (a:Nat)(j:OA)(i h:Nat)(k l:Int)(c:Bool)(d:BA)(e:Int)(f:aa)(g:aa)(b:aX)(S:List Nat)(w0:aj)(R:bJ→aj→Prop):Prop:=
 kO TP 59 38 (KC Tryz.f59 508) [(29,.slice j i h),(30,IV k),(31,IV l)] ((a,.cells #[.bool c,.string d,IV e,f,g] 105)::b) S w0 (lN R)
theorem Kq (d:Nat)(A:OA)(q x:Nat)(y a:Int)(e:Bool)(f:BA)(g:Int)(m:aa)(n:aa)(k:aX)
 (H:
 Br (a<y)
 (∃h c:Nat,A=some ⟨h,c,none⟩∧
 (0≤a∧a<q)∧
 ∃(w:List aa) (p:aa),(∃N C,(h,bu ⟨w⟩ N C)∈(kBgq d e f g m n k))∧w[(c+(ad a))]?=some (p)∧
 ∃(j:Nat) (l:List aa),p=.func (.func j) ⟨[]⟩ ⟨l⟩∧uQ TP j∧
 mq TP j ⟨[]++l⟩ (kBgq d e f g m n k) S w0 (fun v L'=>∃(u:aa) (t:aa),∃s,v=.tuple #[]∧L'=(kBgq d e f g u t s)∧
 xY d (some ⟨h,c,none⟩) q x y (ab.wrap (a+(1:Int))) e f g u t s S w0 R) (fun z L'=>pU R L' S w0 z))
 (Fin R (kBgq d e f g m n k) S w0 (.tuple #[]))):
 xY d A q x y a e f g m n k S w0 R:=by
 unfold xY;refine .ru 5 (.sP 32 H ?_ ?_)<;>clear H<;>intro H
 ·refine .ru 6 ?_
  obtain⟨h,c,rfl,H⟩:=H;refine .nr (E:=1) (b:=h) (o:=c) (len:=q) (cap:=x) (sz:=1) (o':=(c+(ad a))) (kd:=.i64) (i:=a) (by kernel_rfl) H.1 (by omega) ?_
  replace H:=H.2
  obtain⟨w,p,G,M,H⟩:=H;refine .loadT (b:=h) (off:=(c+(ad a))) (T:=1) (v:=p) (by kernel_rfl) G (o4 M (by kernel_rfl)) (.ru 4 ?_);obtain⟨j,l,rfl,F,H⟩:=H;refine .Et j [] l [] (by kernel_rfl) F H ?_ (fun z L' D=>nK.lN dJ D);clear H;rintro _ _ ⟨u,t,s,rfl,rfl,H⟩;refine .ru 7 (.tT [0] 1 H)
 ·refine .ru 2 (.rt dJ H)
theorem Zx (B e:Nat)(b:BA)(a:Int)(u:aa)(s:aa)(q:aX)(hm:Mem ((kAcq B b a u s)::q) S w0 W)
 (H:
 eA TP 98 ⟨[PP B,PP e]⟩ ((kAcq B b a u s)::q) S w0 (fun v L'=>∃(m:aa) (k:aa),∃h,v=.tuple #[]∧L'=((kAcq B b a m k)::h)∧
 eA TP 98 ⟨[PP B,.pointer (some ⟨e,1,none⟩)]⟩ ((kAcq B b a m k)::h) S w0 (fun v L'=>∃(n:aa) (l:aa),∃i,v=.tuple #[]∧L'=((kAcq B b a n l)::i)∧
 eA TP 98 ⟨[PP B,.pointer (some ⟨e,2,none⟩)]⟩ ((kAcq B b a n l)::i) S w0 (fun v L'=>∃(d:aa) (c:aa),∃j,v=.tuple #[]∧L'=((kAcq B b a d c)::j)∧
 eA TP 99 ⟨[PP B,PP e]⟩ ((kAcq B b a d c)::j) S w0 (fun v L'=>∃(p:OA) (f:Nat) (o:Nat),∃g,v=(.slice p f o)∧L'=((kAcq B b a d c)::g)∧
 Br ((f:Int)=(0:Int))
 (pU R ((kAcq B b a d c)::g) S w0 [{v:=.iface 25 (IV 50),recovered:=false}])
 (xY B p f o (f:Int) (0:Int) false b a d c g S w0 R)))))):
 aE TP 59 ⟨[PP B,PP e]⟩ W R:=by
 refine kO.cs 38 dJ hm (.ru 6 (.cl H ?_));rintro _ _ ⟨m,k,h,rfl,rfl,H⟩;refine .ru 7 (.cl H ?_);rintro _ _ ⟨n,l,i,rfl,rfl,H⟩;refine .ru 7 (.cl H ?_);rintro _ _ ⟨d,c,j,rfl,rfl,H⟩;refine .ru 5 (.cl H ?_);rintro _ _ ⟨p,f,o,g,rfl,rfl,H⟩;refine .ru 9 (.sP 27 H (fun H=>?_) fun H=>?_)
 ·refine .ru 3 (.panic (t:=25) (v:=IV 50) (by kernel_rfl) ?_)
  exact nK.lN dJ H
 ·refine .ru 10 (.tT [0] 1 H)
abbrev zF17aa (a:dF)(b x2 x3:Nat)(x4 x5 c:OA):Array aa:= #[IV a.n,IV a.time,IV a.kind,IV a.story,.string a.lang,IV a.rev,IV a.base,.string a.title,.string a.author,.slice x4 a.topics.length b,.slice x5 a.blocks.length x2,IV a.lab.unt,.slice c a.lab.after.length x3,IV a.lab.appr,IV a.lab.den,IV a.editor,IV a.block,IV a.sentence,.string a.text,.string a.name,IV a.partner,IV a.cls,IV a.unt]
theorem VQ (a:dF)(g:OA)(f:Nat)(e:OA)(d:Nat)(c:OA)(b:Nat)(hm:Mem [] [] w0 W)(H:VP [] w0 R (.np 2 (.cells (zF17aa a f d b g e c) 38) fun B=>.hp [(B,.cells (zF17aa a f d b g e c) 38)] fun i=>.ru [6,200]<|.cl 0 24 [.agg (zF17aa a f d b g e c)] i<|.ex fun m=>.rt (.bool m) i<|.B 0 6 m (.np 7 (.cells #[.bool false,sZ,IV 0,.pointer none,.slice none 0 0] 105) fun h=>.cl 5 59 [PP h,PP B] [(B,.cells (zF17aa a f d b g e c) 38),(h,.cells #[.bool false,sZ,IV 0,.pointer none,.slice none 0 0] 105)]<|.x3 fun(l k:aa) F=>.rt (.tuple #[]) ((B,.cells (zF17aa a f d b g e c) 38)::(h,.cells #[.bool false,sZ,IV 0,l,k] 105)::F)<|.cl 6 60 (kDcq h) ((B,.cells (zF17aa a f d b g e c) 38)::(h,.cells #[.bool false,sZ,IV 0,l,k] 105)::F)<|.x2 fun n j=>.rt (.string n) ((B,.cells (zF17aa a f d b g e c) 38)::j)<|.re 3 (kCjq n) ((B,.cells (zF17aa a f d b g e c) 38)::j))<|.re 8 (.tuple #[sZ,IV 50]) i)):aE TP 20 ⟨[.agg (zF17aa a f d b g e c)]⟩ W R:=VC.cs Tryz.func20 hm _ H
abbrev pt (B o:Nat):aa:=.pointer (some ⟨B,o,none⟩)
abbrev qT (g kc kn:Nat):aa:=.func (.func g) #[] #[pt kc 0,pt kn 0]
def tR (F:aX)(B FB:Nat)(x:k9)(v:aa):Prop:=
  ∃ kc kn,(kc,.cells #[pt B 0] 100)∈F∧
    ((x.ty=.int∧v=qT 130 kc kn∧(kn,.cells #[pt FB x.off] 155)∈F)∨
     (x.ty=.str∧v=qT 132 kc kn∧(kn,.cells #[pt FB x.off] 192)∈F)∨
     (x=.topics∧v=qT 134 kc kn∧(kn,.cells #[pt FB 0] 107)∈F)∨
     (x=.blocks∧v=qT 136 kc kn∧(kn,.cells #[pt FB 0] 107)∈F)∨
     (x=.label∧v=qT 138 kc kn∧(kn,.cells #[pt FB 0] 107)∈F))
def r6 (F:aX)(B FB:Nat):List k9→List aa→Prop
 |[],[]=>True
 |x::l,v::vs=>tR F B FB x v∧r6 F B FB l vs
 |_,_=>False
theorem r6.len {F:aX}{B FB:Nat}:∀{l:List k9} {vs:List aa},r6 F B FB l vs→vs.length=l.length
 |[],[],_=>rfl
 |x::l,v::vs,h=>by rw[aI,aI,r6.len h.2]
 |[],_::_,h=>h.elim
 |_::_,[],h=>h.elim
theorem r6.get {F:aX}{B FB:Nat}:∀{l:List k9} {vs:List aa} (i:Nat) (hi:i<l.length),r6 F B FB l vs→∃v,vs[i]?=some v∧tR F B FB l[i] v
 |x::l,v::vs,0,_,h=>⟨v,rfl,h.1⟩
 |x::l,v::vs,i+1,hi,h=>by
  obtain⟨u,M,O⟩:=r6.get i (by simpa using hi) h.2;exact⟨u,by simpa using M,by simpa using O⟩
 |[],_,i,hi,_=>absurd hi (by simp)
 |_::_,[],_,_,h=>h.elim
def IC (F:aX)(B FB:Nat)(k:Int)(v:aa):Prop:=
 (k6 k=[]∧v=.slice none 0 0)∨∃Bs vs,v=.slice (SO Bs) (k6 k).length (k6 k).length∧(Bs,.cells ⟨vs⟩ 1)∈F∧r6 F B FB (k6 k) vs
theorem eA.more {L:aX}(h:lP P g args [] K)(M:∀v F,K v F→K' v (L++F)):eA P g args L S w0 K':=
 eA.lF (L0:=[]) (L1:=L) h (by simp) fun v L' O=>⟨L++L',aw,M v L' O⟩
theorem rL (M no kc:Nat):lP TP 129 ⟨[pt M no,pt kc 0]⟩ [] (fun v F=>∃O,v=qT 130 kc O∧F=[(O,.cells #[pt M no] 155)]):=
 fun W hm=>Ub M no kc hm fun B=>kR ⟨B,rfl,rfl⟩
theorem uf (M no kc:Nat):lP TP 131 ⟨[pt M no,pt kc 0]⟩ [] (fun v F=>∃O,v=qT 132 kc O∧F=[(O,.cells #[pt M no] 192)]):=
 fun W hm=>P8 M no kc hm fun B=>kR ⟨B,rfl,rfl⟩
theorem o7 {F:aX}{B FB kc kn:Nat}{x:k9}(M:(kc,.cells #[pt B 0] 100)∈F)(O:(kn,.cells #[pt FB x.off] 155)∈F)(V:x.ty=.int):tR F B FB x (qT 130 kc kn):=⟨kc,kn,M,.inl ⟨V,rfl,O⟩⟩
theorem uh {F:aX}{B FB kc kn:Nat}{x:k9}(M:(kc,.cells #[pt B 0] 100)∈F)(O:(kn,.cells #[pt FB x.off] 192)∈F)(V:x.ty=.str):tR F B FB x (qT 132 kc kn):=⟨kc,kn,M,.inr (.inl ⟨V,rfl,O⟩)⟩
theorem Sj {F:aX}{B FB kc kn:Nat}(M:(kc,.cells #[pt B 0] 100)∈F)(O:(kn,.cells #[pt FB 0] 107)∈F):tR F B FB .topics (qT 134 kc kn):=⟨kc,kn,M,.inr (.inr (.inl ⟨rfl,rfl,O⟩))⟩
theorem Yo {F:aX}{B FB kc kn:Nat}(M:(kc,.cells #[pt B 0] 100)∈F)(O:(kn,.cells #[pt FB 0] 107)∈F):tR F B FB .blocks (qT 136 kc kn):=⟨kc,kn,M,.inr (.inr (.inr (.inl ⟨rfl,rfl,O⟩)))⟩
theorem It {F:aX}{B FB kc kn:Nat}(M:(kc,.cells #[pt B 0] 100)∈F)(O:(kn,.cells #[pt FB 0] 107)∈F):tR F B FB .label (qT 138 kc kn):=⟨kc,kn,M,.inr (.inr (.inr (.inr ⟨rfl,rfl,O⟩)))⟩
theorem sF {F:aX}{B FB Bs:Nat}{k:Int}{l:List k9}{vs:List aa}(h:k6 k=l)(hm:F.getLast?=some (Bs,.cells ⟨vs⟩ 1))(hc:r6 F B FB l vs):IC F B FB k (.slice (SO Bs) l.length l.length):=
 .inr ⟨Bs,vs,by rw[h],List.mem_of_getLast? hm,by rw[h];exact hc⟩
theorem Kz {B FB:Nat}{k:Int}:m0 TP 99 ⟨[pt B 0,pt FB 0]⟩ [] (fun W=>∃cs,lG W FB=some cs∧cs[2]?=some (.int .i64 k)) (fun v F=>IC F B FB k v):=by
 rintro W hm ⟨cs,a7,a8⟩;refine WU B FB hm fun a9 B2=>eA.more (rL _ _ _) fun v F ⟨nb,hv,hF⟩=>⟨nb,hv,by rw[hF];rfl,cs,k,a7,a8,?_⟩
 refine⟨fun e=>?_,fun e1=>⟨fun e=>?_,fun O=>⟨fun e=>?_,fun V=>⟨fun e=>?_,fun a1=>⟨fun e=>?_,fun a2=>⟨fun e=>?_,fun a3=>⟨fun e=>?_,fun M=>⟨fun e=>?_,fun a4=>⟨fun e=>?_,fun a5=>⟨fun e=>?_,fun a6=>?_⟩⟩⟩⟩⟩⟩⟩⟩⟩⟩
 ·refine eA.more (uf _ _ _) fun v F ⟨n1,hv,hF⟩=>⟨n1,hv,by rw[hF];rfl,?_⟩
  refine eA.more (rL _ _ _) fun v F ⟨n2,hv,hF⟩=>⟨n2,hv,by rw[hF];rfl,?_⟩
  refine eA.more (rL _ _ _) fun v F ⟨n3,hv,hF⟩=>⟨n3,hv,by rw[hF];rfl,?_⟩
  refine eA.more (uf _ _ _) fun v F ⟨n4,hv,hF⟩=>⟨n4,hv,by rw[hF];rfl,?_⟩
  refine eA.more (uf _ _ _) fun v F ⟨n5,hv,hF⟩=>⟨n5,hv,by rw[hF];rfl,fun B3=>kR ?_⟩
  exact sF (l:=[.story,.lang,.rev,.base,.title,.author,.topics,.blocks,.label]) (by rw[e];rfl) rfl ⟨o7 (by simp) (by simp[k9.off]) rfl,uh (by simp) (by simp[k9.off]) rfl,o7 (by simp) (by simp[k9.off]) rfl,o7 (by simp) (by simp[k9.off]) rfl,uh (by simp) (by simp[k9.off]) rfl,uh (by simp) (by simp[k9.off]) rfl,Sj (by simp) (by simp),Yo (by simp) (by simp),It (by simp) (by simp),trivial⟩
 ·refine eA.more (rL _ _ _) fun v F ⟨n1,hv,hF⟩=>⟨n1,hv,by rw[hF];rfl,fun B3=>kR ?_⟩
  exact sF (l:=[.story,.editor]) (by rw[e];rfl) rfl ⟨o7 (by simp) (by simp[k9.off]) rfl,o7 (by simp) (by simp[k9.off]) rfl,trivial⟩
 ·exact fun B3=>kR (sF (l:=[.story,.label]) (by rw[e];rfl) rfl ⟨o7 (by simp) (by simp[k9.off]) rfl,It (by simp) (by simp),trivial⟩)
 ·refine eA.more (uf _ _ _) fun v F ⟨n1,hv,hF⟩=>⟨n1,hv,by rw[hF];rfl,?_⟩
  refine eA.more (rL _ _ _) fun v F ⟨n2,hv,hF⟩=>⟨n2,hv,by rw[hF];rfl,?_⟩
  refine eA.more (rL _ _ _) fun v F ⟨n3,hv,hF⟩=>⟨n3,hv,by rw[hF];rfl,?_⟩
  refine eA.more (uf _ _ _) fun v F ⟨n4,hv,hF⟩=>⟨n4,hv,by rw[hF];rfl,fun B3=>kR ?_⟩
  exact sF (l:=[.story,.lang,.block,.sentence,.text]) (by rw[e];rfl) rfl ⟨o7 (by simp) (by simp[k9.off]) rfl,uh (by simp) (by simp[k9.off]) rfl,o7 (by simp) (by simp[k9.off]) rfl,o7 (by simp) (by simp[k9.off]) rfl,uh (by simp) (by simp[k9.off]) rfl,trivial⟩
 ·refine eA.more (uf _ _ _) fun v F ⟨n1,hv,hF⟩=>⟨n1,hv,by rw[hF];rfl,fun B3=>kR ?_⟩
  exact sF (l:=[.story,.text]) (by rw[e];rfl) rfl ⟨o7 (by simp) (by simp[k9.off]) rfl,uh (by simp) (by simp[k9.off]) rfl,trivial⟩
 ·exact fun B3=>kR (sF (l:=[.story]) (by rw[e];rfl) rfl ⟨o7 (by simp) (by simp[k9.off]) rfl,trivial⟩)
 ·exact fun B3=>kR (sF (l:=[.story]) (by rw[e];rfl) rfl ⟨o7 (by simp) (by simp[k9.off]) rfl,trivial⟩)
 ·refine eA.more (uf _ _ _) fun v F ⟨n1,hv,hF⟩=>⟨n1,hv,by rw[hF];rfl,?_⟩
  refine eA.more (uf _ _ _) fun v F ⟨n2,hv,hF⟩=>⟨n2,hv,by rw[hF];rfl,fun B3=>kR ?_⟩
  exact sF (l:=[.name,.text]) (by rw[e];rfl) rfl ⟨uh (by simp) (by simp[k9.off]) rfl,uh (by simp) (by simp[k9.off]) rfl,trivial⟩
 ·refine eA.more (rL _ _ _) fun v F ⟨n1,hv,hF⟩=>⟨n1,hv,by rw[hF];rfl,?_⟩
  refine eA.more (rL _ _ _) fun v F ⟨n2,hv,hF⟩=>⟨n2,hv,by rw[hF];rfl,?_⟩
  refine eA.more (rL _ _ _) fun v F ⟨n3,hv,hF⟩=>⟨n3,hv,by rw[hF];rfl,fun B3=>kR ?_⟩
  exact sF (l:=[.partner,.cls,.unt]) (by rw[e];rfl) rfl ⟨o7 (by simp) (by simp[k9.off]) rfl,o7 (by simp) (by simp[k9.off]) rfl,o7 (by simp) (by simp[k9.off]) rfl,trivial⟩
 ·refine eA.more (rL _ _ _) fun v F ⟨n1,hv,hF⟩=>⟨n1,hv,by rw[hF];rfl,?_⟩
  refine eA.more (rL _ _ _) fun v F ⟨n2,hv,hF⟩=>⟨n2,hv,by rw[hF];rfl,fun B3=>kR ?_⟩
  exact sF (l:=[.partner,.unt]) (by rw[e];rfl) rfl ⟨o7 (by simp) (by simp[k9.off]) rfl,o7 (by simp) (by simp[k9.off]) rfl,trivial⟩
 ·refine kR (.inl ⟨?_,rfl⟩)
  unfold k6;simp only[e1,O,V,a1,a2,a3,a4,a5,a6,M,if_false]
theorem MR {f:dF}{x:k9}(h:x.ty=.int):∃n,f.put x=Wire.enc n∧(∀tp tc bp bc ap ac,(f.cells tp tc bp bc ap ac)[x.off]?=some (.int .i64 n))∧(oF x.ty (f.get x)→lU n):=by
 cases x<;>first|exact absurd h (by decide)|exact⟨_,rfl,fun _ _ _ _ _ _=>rfl,id⟩
theorem Nx {f:dF}{x:k9}(h:x.ty=.str):∃s:BA,f.put x=lL (bb s)∧(∀tp tc bp bc ap ac,(f.cells tp tc bp bc ap ac)[x.off]?=some (.string s))∧(oF x.ty (f.get x)→s.size≤65536):=by
 cases x<;>first|exact absurd h (by decide)|exact⟨_,rfl,fun _ _ _ _ _ _=>rfl,id⟩
def zz (S:List Nat)(X:aX)(W:aj):Prop:=∀b c t fz,(b,bu ⟨c⟩ t fz)∈X→qb S W b c
theorem Zq {X:aX}{B FB:Nat}{x:k9}{v:aa}(h:tR X B FB x v){f:dF}(a8:oF x.ty (f.get x)):∃g b4,v=.func (.func g) ⟨[]⟩ ⟨b4⟩∧uQ TP g∧
  ∀{l:List UInt8} {p u:aa} {G:aX},n0 B l p u G→l.length≤800000000→m0 TP g ⟨b4⟩ (kH B p u::G) (fun W=>zz (nm B p u G) X W∧rW (nm B p u G) f FB W) (s6 B (l++f.put x) (.tuple #[])):=by
 obtain⟨kc,kn,a6,⟨a2,rfl,a3⟩|⟨a2,rfl,a3⟩|⟨rfl,rfl,a3⟩|⟨rfl,rfl,a3⟩|⟨rfl,rfl,a3⟩⟩:=h
 ·obtain⟨n,e1,b1,b3⟩:=MR (f:=f) a2
  refine⟨_,_,rfl,⟨_,iX,by kernel_rfl,by kernel_rfl⟩,?_⟩;rintro l p u G M a5 W hm ⟨O,cs,hcs,tp,tc,bp,bc,ap,ac,rfl,b5⟩;have V:=O _ _ _ _ a6;have a1:=O _ _ _ _ a3;rw[e1];refine RE kc kn B FB x.off ⟨#[]⟩ 0 p u G hm ⟨_,V.1,V.2,rfl,_,a1.1,a1.2,rfl,?_⟩;exact eA.pM (tJ (b3 a8) M (by omega)) (fun a9 a4=>⟨_,pH a4 (fun x a2=>a2) _ _ hcs,b1 _ _ _ _ _ _⟩) fun _ F' ⟨p',v',G',hu,hL,M⟩=>⟨p',v',G',hu,hL,kR ⟨_,_,_,rfl,rfl,M⟩⟩
 ·obtain⟨n,e1,b1,b3⟩:=Nx (f:=f) a2
  refine⟨_,_,rfl,⟨_,iY,by kernel_rfl,by kernel_rfl⟩,?_⟩;rintro l p u G M a5 W hm ⟨O,cs,hcs,tp,tc,bp,bc,ap,ac,rfl,b5⟩;have V:=O _ _ _ _ a6;have a1:=O _ _ _ _ a3;rw[e1];refine Xu kc kn B FB x.off ⟨#[]⟩ 0 p u G hm ⟨_,V.1,V.2,rfl,_,a1.1,a1.2,rfl,?_⟩;exact eA.pM (FG (b3 a8) M (by omega)) (fun a9 a4=>⟨_,pH a4 (fun x a2=>a2) _ _ hcs,b1 _ _ _ _ _ _⟩) fun _ F' ⟨p',v',G',hu,hL,M⟩=>⟨p',v',G',hu,hL,kR ⟨_,_,_,rfl,rfl,M⟩⟩
 ·refine⟨_,_,rfl,⟨_,iZ,by kernel_rfl,by kernel_rfl⟩,?_⟩
  rintro l p u G M a5 W hm ⟨O,a7⟩;have V:=O _ _ _ _ a6;have a1:=O _ _ _ _ a3;refine Sn kc kn B FB ⟨#[]⟩ 0 p u G hm ⟨_,V.1,V.2,rfl,_,a1.1,a1.2,rfl,?_⟩;exact eA.pM (R0 a8 M a5) (fun a9 a4=>a7.old a4 fun x a2=>a2) fun _ F' ⟨p',v',G',hu,hL,M⟩=>⟨p',v',G',hu,hL,kR ⟨_,_,_,rfl,rfl,M⟩⟩
 ·refine⟨_,_,rfl,⟨_,ja,by kernel_rfl,by kernel_rfl⟩,?_⟩
  rintro l p u G M a5 W hm ⟨O,a7⟩;have V:=O _ _ _ _ a6;have a1:=O _ _ _ _ a3;refine Zh kc kn B FB ⟨#[]⟩ 0 p u G hm ⟨_,V.1,V.2,rfl,_,a1.1,a1.2,rfl,?_⟩;exact eA.pM (WT a8 M a5) (fun a9 a4=>a7.old a4 fun x a2=>a2) fun _ F' ⟨p',v',G',hu,hL,M⟩=>⟨p',v',G',hu,hL,kR ⟨_,_,_,rfl,rfl,M⟩⟩
 ·refine⟨_,_,rfl,⟨_,jb,by kernel_rfl,by kernel_rfl⟩,?_⟩
  rintro l p u G M a5 W hm ⟨O,a7⟩;have V:=O _ _ _ _ a6;have a1:=O _ _ _ _ a3;refine Rl kc kn B FB ⟨#[]⟩ 0 p u G hm ⟨_,V.1,V.2,rfl,_,a1.1,a1.2,rfl,?_⟩;exact eA.pM (YK a8 M a5) (fun a9 a4=>a7.old a4 fun x a2=>a2) fun _ F' ⟨p',v',G',hu,hL,M⟩=>⟨p',v',G',hu,hL,kR ⟨_,_,_,rfl,rfl,M⟩⟩
theorem BV {f:dF}{x:k9}(h:oF x.ty (f.get x)):(f.put x).length≤400000:=by
 cases M:x.ty with
 |int=>
  obtain⟨n,e1,_,_⟩:=MR (f:=f) M;rw[e1];have:=lx n;omega
 |str=>
  obtain⟨s,e1,_,a1⟩:=Nx (f:=f) M;have:=a1 h;rw[e1];have O:=pd (bb s);rw[lB]at O;omega
 | topics=>
  have M:x=.topics:=by cases x<;>first|rfl|exact absurd M (by decide)
  subst M;have h:oF .topics f.topics:=h;have V:=h.1;have O:=rj (e:=fun s:BA=>lL (bb s)) (m:=65546) f.topics (fun x M=>by
   have:=h.2 x M;have O:=pd (bb x);rw[lB]at O;omega)
  have a2:65546*f.topics.length≤65546*4:=eo _ V;have a3:=lx (f.topics.length:Int);show(Wire.enc (f.topics.length:Int)++f.topics.flatMap fun s:BA=>lL (bb s)).length≤_;rw[ae];omega
 |blocks=>
  have M:x=.blocks:=by cases x<;>first|rfl|exact absurd M (by decide)
  subst M;have h:m9 f.blocks=true:=h;have V:=yA h;have O:=pd (nG f.blocks);show(lL (nG f.blocks)).length≤_;omega
 |label=>
  have M:x=.label:=by cases x<;>first|rfl|exact absurd M (by decide)
  subst M;have h:oF .label f.lab:=h;obtain⟨a6,a7,a8,a9,b1⟩:=h;have O:=rj (e:=Wire.enc) (m:=10) f.lab.after (fun x _=>lx x);have a2:=lx f.lab.unt;have a3:=lx (f.lab.after.length:Int);have a4:=lx f.lab.appr;have a5:=lx f.lab.den;show(Wire.enc f.lab.unt++(Wire.enc (f.lab.after.length:Int)++(f.lab.after.flatMap Wire.enc++(Wire.enc f.lab.appr++Wire.enc f.lab.den)))).length≤_;simp only[ae];omega
theorem xk (k:Int):(k6 k).length≤9:=by
 unfold k6
 repeat' split
 all_goals decide
theorem VV {f:dF}(h:f.Good):(mE f).length≤4000000:=by
 have O:=rj (e:=f.put) (m:=400000) (k6 f.kind) (fun x M=>BV (h.fields x M));have V:400000*(k6 f.kind).length≤400000*9:=eo _ (xk _);have a1:=lx f.n;have a2:=lx f.time;have a3:=lx f.kind;rw[mE,dF.head];simp only[ae];omega
def J5 (B:Nat)(s:List UInt8)(v:aa)(L':aX):Prop:=∃p' v' G' X,v=.tuple #[]∧L'=kH B p' v'::(G'++X)∧n0 B s p' v' G'
theorem Fe {X L0:aX}(hm:Mem (L0++X) S w0 W):zz (L0.map (·.1)) X W:=
 fun b c t fz h=>zD (told:=X) (F:=L0) (hm.perm aw) h
theorem Ls {B FB Bs:Nat}{f:dF}{X:aX}{vs:List aa}(a1:rW S f FB w0)(M:f.Good)(a3:(Bs,.cells ⟨vs⟩ 1)∈X)(hc:r6 X B FB (k6 f.kind) vs){l:List UInt8}(a7:l.length≤1000):
  ∀(g i:Nat) (p v:aa) (G:aX),g+i=(k6 f.kind).length→n0 B (l++((k6 f.kind).take i).flatMap f.put) p v G→
   xY B (SO Bs) (k6 f.kind).length (k6 f.kind).length ((k6 f.kind).length:Int) (i:Int) false ⟨#[]⟩ 0 p v (G++X) S w0 (DK (J5 B (l++(k6 f.kind).flatMap f.put)) S w0)
 |0,i,p,v,G,hi,h=>by
  apply Kq;rw[aK (by omega)]at h;exact no (by omega) (kR ⟨_,_,_,_,rfl,rfl,h⟩)
 |g+1,i,p,v,G,hi,h=>by
  apply Kq;have O:i<(k6 f.kind).length:=by omega
  obtain⟨u,a9,b1⟩:=hc.get i O;have b3:=M.fields _ (bH O);obtain⟨gf,a4,e1,a5,a6⟩:=Zq b1 (f:=f) b3;have a8:=rj (e:=f.put) (m:=400000) ((k6 f.kind).take i) (fun x V=>BV (M.fields x (ft V)));have b5:=xk f.kind;rw[ao]at a8;have b6:400000*min i (k6 f.kind).length≤400000*9:=eo _ (by omega);refine yes (by omega) ⟨Bs,0,rfl,by omega,vs,u,⟨_,_,ag _ (ak _ a3)⟩,by simpa using a9,gf,a4,e1,a5,?_⟩;refine mq.of ?_;refine eA.nX (L0:=kH B p v::G) (L1:=X) (a6 h (by rw[ae];omega)) (fun b4 a2=>⟨Fe a2,a1.old a2 fun x V=>ay _ V⟩) (ah _) fun _ F' ⟨p',v',G',hu,hL,hR⟩=>⟨kH B p' v'::(G'++X),by rw[hL];exact ah _,p',v',G'++X,hu,rfl,?_⟩
  rw[kS (by omega),show(i:Int)+1=((i+1:Nat):Int)by omega];refine Ls a1 M a3 hc a7 g (i+1) p' v' G' (by omega) ?_;rw[zg O,←an];exact hR
theorem Ty {B FB:Nat}{f:dF}{p v:aa}{G:aX}(O:f.Good)(h:n0 B [] p v G):
  m0 TP 59 ⟨[.pointer (SO B),.pointer (SO FB)]⟩ (kH B p v::G) (rW (nm B p v G) f FB) (J5 B (mE f)):=by
 intro W hm a3;have a5:=a3;obtain⟨cs,hcs,tp,tc,bp,bc,ap,ac,rfl,a9⟩:=a3;have i1:=O.n;have b1:=O.time;have b3:=O.kind;have a6:=lx f.n;have a7:=lx f.time;have a8:=lx f.kind;refine Zx B FB ⟨#[]⟩ 0 p v G hm ?_;refine eA.pM (tJ (n:=f.n) (mg (by omega)) h (by simp)) (fun a1 M=>⟨_,pH M (fun x V=>V) _ _ hcs,rfl⟩) fun u F' ⟨p1,v1,G1,hu,hL,hR⟩=>⟨p1,v1,G1,hu,hL,?_⟩
 refine eA.pM (tJ (n:=f.time) (mg (by omega)) hR (by rw[ae,bt];omega)) (fun a1 M=>⟨_,pH M (fun x V=>V) _ _ hcs,rfl⟩) fun u F' ⟨p2,v2,G2,hu,hL,hR⟩=>⟨p2,v2,G2,hu,hL,?_⟩
 refine eA.pM (tJ (n:=f.kind) (mg (by omega)) hR (by simp only[ae,bt];omega)) (fun a1 M=>⟨_,pH M (fun x V=>V) _ _ hcs,rfl⟩) fun u F' ⟨p3,v3,G3,hu,hL,hR⟩=>⟨p3,v3,G3,hu,hL,?_⟩
 refine eA.nX (L0:=[]) (L1:=kH B p3 v3::G3) (Kz (k:=f.kind)) (fun a1 M=>⟨_,(pH M (F:=[]) (by simp) _ _ hcs).2,rfl⟩) (by simp) fun u X a4=>?_
 rcases a4 with⟨a2,_⟩|⟨Bs,vs,rfl,hrow,hc⟩
 ·exact absurd a2 (CU O.kind)
 refine⟨kH B p3 v3::(G3++X),aw,_,_,_,G3++X,rfl,rfl,fun a2=>?_,fun a2=>?_⟩
 ·have:=List.length_pos_iff.2 (CU O.kind)
  omega
 have:=Ls (B:=B) (FB:=FB) a5 O hrow hc (l:=f.head) (by rw[dF.head];simp only[ae];omega) (k6 f.kind).length 0 p3 v3 G3 (by omega) (by simpa[dF.head]using hR);exact this
def u6 (f:dF):aa:=if f.ok=true then .tuple #[.string (ba (mE f)),.int .i64 0]else .tuple #[.string ⟨#[]⟩,.int .i64 50]
theorem ZC {f:dF}(h:lv (kY W) f tp tc bp bc ap ac):PW TP 20 ⟨[.agg ⟨f.cells tp tc bp bc ap ac⟩]⟩ W (u6 f):=by
 refine VQ f tp tc bp bc ap ac (Mem.start [] W) fun B=>?_
 refine eA.pw (fun a3 O=>FP (h.mono (lK O))) ⟨_,rfl,rfl,fun V=>fun M=>?_,fun V=>kQ (by rw[u6,V];rfl)⟩;have a2:=dF.ot V;have a5:=VV a2;refine eA.va [(B,bu ⟨f.cells tp tc bp bc ap ac⟩ 38)] (Ty a2 (n0.new M)) (fun a3 O=>⟨_,zD O (cK.2 rfl),_,_,_,_,_,_,rfl,h.mono fun b c a4=>tQ O b c (.inr a4)⟩) fun u F' ⟨p',v',G',X,a1,hL,hR⟩=>⟨p',v',G'++X,a1,by rw[hL];rfl,?_⟩
 refine eA.lF (L0:=kH M p' v'::G') (L1:=X++[(B,bu ⟨f.cells tp tc bp bc ap ac⟩ 38)]) (YC hR (by omega)) ?_ fun u F' a1=>⟨(B,bu ⟨f.cells tp tc bp bc ap ac⟩ 38)::(F'++X),?_,_,F'++X,a1,rfl,kQ ?_⟩
 ·show(kH M p' v'::G'++(X++[(B,bu ⟨f.cells tp tc bp bc ap ac⟩ 38)])).Perm ([(B,bu ⟨f.cells tp tc bp bc ap ac⟩ 38)]++(kH M p' v'::(G'++X)))
  rw[←an];exact aw
 ·rw[←an]
  exact aw (l₁:=F'++X) (l₂:=[(B,bu ⟨f.cells tp tc bp bc ap ac⟩ 38)])
 ·rw[u6,V];rfl
abbrev zF12aa (a:BA)(b:Int):Array aa:= #[.bool true,.string a,IV b,.pointer none,.slice none 0 0]
theorem Yg (B a no:Nat)(b:BA)(c:Int)(e:Nat)(cs:List aa)(hm:Mem [(B,.cells (zF12aa b c) 105),(a,.cells ⟨cs⟩ e)] S w0 W)(H:VP S w0 R (.hp [(B,.cells (zF12aa b c) 105),(a,.cells ⟨cs⟩ e)] fun f=>.ru [6,200]<|.r 5<|.dr 16<|.qu [3,100,3,100]<|.x3 fun d g h=>.qc 83 [.string b,IV c] f (kCrq d g h)<|.qu [7]<|.dn<|.I 7 40 (h=0) (.r 3<|.pn 25 (IV 10) f)<|.r 8<|.sr 1 a no 3 (IV d) cs<|.ru [2,200]<|.re 1 (.tuple #[]) [(B,.cells (zF12aa b g) 105),(a,.cells ⟨((cs).set no (IV d))⟩ e)])):aE TP 98 ⟨(kCvq B a no)⟩ W R:=VC.cs Tryz.func98 hm _ H
theorem Zv (B a no:Nat)(b:BA)(c:Int)(e:Nat)(cs:List aa)(hm:Mem [(B,.cells (zF12aa b c) 105),(a,.cells ⟨cs⟩ e)] S w0 W)(H:VP S w0 R (.hp [(B,.cells (zF12aa b c) 105),(a,.cells ⟨cs⟩ e)] fun f=>.ru [6,200]<|.r 5<|.dr 16<|.qu [3,100,3,100]<|.x3 fun d g h=>.qc 122 [.string b,IV c] f (kDxq d g h)<|.qu [7]<|.dn<|.I 7 40 (h=0) (.r 3<|.pn 25 (IV 10) f)<|.r 8<|.sr 1 a no 9 (.string d) cs<|.ru [2,200]<|.re 1 (.tuple #[]) [(B,.cells (zF12aa b g) 105),(a,.cells ⟨((cs).set no (.string d))⟩ e)])):aE TP 133 ⟨(kCvq B a no)⟩ W R:=VC.cs Tryz.func133 hm _ H
theorem Si (B:Nat)(f e:Int)(c:BA)(g:Int)(hm:Mem [(B,.cells (zF12aa c g) 105)] S w0 W)(H:VP S w0 R (.np 2 (.cells #[IV f] 3) fun b=>.r 5<|.cP 98 [PP B,PP b] [(B,.cells (zF12aa c g) 105),(b,.cells #[IV f] 3)]<|.x2 fun h a=>.rt (.tuple #[]) [(B,.cells (zF12aa c h) 105),(b,.cells #[IV a] 3)]<|.hp [(B,.cells (zF12aa c h) 105),(b,.cells #[IV a] 3)] fun d=>.ru [7,200,1,201]<|.il 1 dI [IV a,IV 0,IV e]<|.P 10 10 (0≤a) (.rk 6<|.I 3 18 (a≤e) (.r 3<|.pn 25 (IV 50) d)<|.ru [4,201]<|.re 2 (IV a) d)<|.rk 6<|.r 6<|.pn 25 (IV 50) d)):aE TP 168 ⟨[PP B,IV f,IV e]⟩ W R:=VC.cs Tryz.func168 hm _ H
abbrev zF13aa (a:BA)(b:Int):Array aa:= #[.bool true,.string a,IV b,.pointer none,.slice none 0 0]
abbrev zF13ab (a:dF)(b x2 x3:Nat)(x4 x5 c:OA):Array aa:= #[IV a.n,IV a.time,IV a.kind,IV a.story,.string a.lang,IV a.rev,IV a.base,.string a.title,.string a.author,.slice x4 a.topics.length b,.slice x5 a.blocks.length x2,IV a.lab.unt,.slice c a.lab.after.length x3,IV a.lab.appr,IV a.lab.den,IV a.editor,IV a.block,IV a.sentence,.string a.text,.string a.name,IV a.partner,IV a.cls,IV a.unt]
abbrev zF13ac (a:dF)(b x2 x3 x4 x5:Nat)(c d:OA):Array aa:= #[IV a.n,IV a.time,IV a.kind,IV a.story,.string a.lang,IV a.rev,IV a.base,.string a.title,.string a.author,.slice (SO b) x2 x3,.slice c a.blocks.length x4,IV a.lab.unt,.slice d a.lab.after.length x5,IV a.lab.appr,IV a.lab.den,IV a.editor,IV a.block,IV a.sentence,.string a.text,.string a.name,IV a.partner,IV a.cls,IV a.unt]
noncomputable def BT (j:dF)(p:OA)(o:Nat)(n:OA)(m:Nat)(l:OA)(k:Nat)(i:BA)(a b c:Nat)(g h d:Int)(f e:Nat)(cs:List aa)(S:List Nat):Cut:=⟨TP,S,135,35,(KC Tryz.f135 60),[(0,PP a),(1,.pointer (some ⟨b,9,none⟩)),(23,IV g),(24,IV h)],[(a,.cells (zF13aa i d) 105),(b,.cells (zF13ac j c f e m k n l) 38),(c,.cells ⟨cs⟩ 9)]⟩
theorem Oa (h:dF)(s:OA)(q:Nat)(l:OA)(k:Nat)(j:OA)(i:Nat)(g:BA)(c f a:Nat)(m b p:Int)(e d:Nat)(cs:List aa)(H:VP S w0 R (.hp [(c,.cells (zF13aa g p) 105),(f,.cells (zF13ac h a e d k i l j) 38),(a,.cells ⟨cs⟩ 9)] fun o=>.P 5 25 (b<m) (.ru [13,201]<|.r 1<|.iL a 0 e d 1 b (ad b)<|.cP 133 [PP c,.pointer (some ⟨a,(ad b),none⟩)] o<|.x2 fun ca2 (n:List aa)=>.rt (.tuple #[]) [(c,.cells (zF13aa g ca2) 105),(f,.cells (zF13ac h a e d k i l j) 38),(a,.cells ⟨n⟩ 9)]<|.ct 7 [0,1,2] (BT h s q l k j i g c f a m (ab.wrap (b+1)) ca2 e d n S))<|.re 2 (.tuple #[]) o)):BT h s q l k j i g c f a m b p e d cs S w0 R:=VC.go gI _ H
theorem SQ (B b:Nat)(d:BA)(k:Int)(c:dF)(j:OA)(i:Nat)(h:OA)(g:Nat)(f:OA)(e:Nat)(hm:Mem [(B,.cells (zF13aa d k) 105),(b,.cells (zF13ab c i g e j h f) 38)] S w0 W)(H:VP S w0 R (.ru [5,201]<|.r 1<|.cP 168 [PP B,IV (c.topics.length:Int),IV 4] [(B,.cells (zF13aa d k) 105),(b,.cells (zF13ab c i g e j h f) 38)]<|.x2 fun a l=>.rt (IV a) [(B,.cells (zF13aa d l) 105),(b,.cells (zF13ab c i g e j h f) 38)]<|.ru [8,200]<|.r 5<|.mk' false 9 .i64 .i64 a a (sZ) 16 fun m=>.ru [1,201,5,201]<|.ct 5 [0,1,2] (BT c j i h g f e d B b m ((ad a):Int) 0 l (ad a) (ad a) (aA (ad a) (sZ)) S))):aE TP 135 ⟨(kEpq B b)⟩ W R:=VC.cs gI hm _ H
theorem RL (B b:Nat)(d:BA)(o:Int)(a:dF)(h:OA)(g:Nat)(k:OA)(j:Nat)(f:OA)(e:Nat)(hm:Mem [(B,.cells (zF13aa d o) 105),(b,.cells (zF13ab a g j e h k f) 38)] S w0 W)(H:VP S w0 R (.np 2 (.cells #[sZ] 9) fun c=>.ru [202,7,200]<|.r 7<|.cP 133 [PP B,PP c] [(B,.cells (zF13aa d o) 105),(b,.cells (zF13ab a g j e h k f) 38),(c,.cells #[sZ] 9)]<|.x2 fun l i=>.rt (.tuple #[]) [(B,.cells (zF13aa d l) 105),(b,.cells (zF13ab a g j e h k f) 38),(kAtq c i)]<|.ru [6,200,4,202]<|.cl 0 170 [.string i] [(B,.cells (zF13aa d l) 105),(b,.cells (zF13ab a g j e h k f) 38),(kAtq c i)]<|.x5 fun s q p t m=>.rt (.tuple #[.slice s q p,IV t]) ((B,.cells (zF13aa d l) 105)::(b,.cells (zF13ab a g j e h k f) 38)::(kAtq c i)::m)<|.I 12 31 (t=0) (.r 3<|.pn 25 (IV 50) ((B,.cells (zF13aa d l) 105)::(b,.cells (zF13ab a g j e h k f) 38)::(kAtq c i)::m))<|.ru [6,201]<|.re 1 (.tuple #[]) ((B,.cells (zF13aa d l) 105)::(b,.cells #[IV a.n,IV a.time,IV a.kind,IV a.story,.string a.lang,IV a.rev,IV a.base,.string a.title,.string a.author,.slice h a.topics.length g,.slice s q p,IV a.lab.unt,.slice f a.lab.after.length e,IV a.lab.appr,IV a.lab.den,IV a.editor,IV a.block,IV a.sentence,.string a.text,.string a.name,IV a.partner,IV a.cls,IV a.unt] 38)::(kAtq c i)::m))):aE TP 137 ⟨(kEmq B b)⟩ W R:=VC.cs Tryz.func137 hm _ H
abbrev zF14aa (a:BA)(b:Int):Array aa:= #[.bool true,.string a,IV b,.pointer none,.slice none 0 0]
abbrev zF14ab (a:dF)(b:Int)(x2 x3 x4 x5 c:Nat)(d e:OA):Array aa:= #[IV a.n,IV a.time,IV a.kind,IV a.story,.string a.lang,IV a.rev,IV a.base,.string a.title,.string a.author,.slice d a.topics.length x2,.slice e a.blocks.length x3,IV b,.slice (SO x4) x5 c,IV a.lab.appr,IV a.lab.den,IV a.editor,IV a.block,IV a.sentence,.string a.text,.string a.name,IV a.partner,IV a.cls,IV a.unt]
abbrev zF14ac (a:dF)(b:Int)(x2 x3 x4:Nat)(x5 c d:OA):Array aa:= #[IV a.n,IV a.time,IV a.kind,IV a.story,.string a.lang,IV a.rev,IV a.base,.string a.title,.string a.author,.slice x5 a.topics.length x2,.slice c a.blocks.length x3,IV b,.slice d a.lab.after.length x4,IV a.lab.appr,IV a.lab.den,IV a.editor,IV a.block,IV a.sentence,.string a.text,.string a.name,IV a.partner,IV a.cls,IV a.unt]
abbrev zF14ad (a:dF)(b x2 x3:Nat)(x4 x5 c:OA):Array aa:= #[IV a.n,IV a.time,IV a.kind,IV a.story,.string a.lang,IV a.rev,IV a.base,.string a.title,.string a.author,.slice x4 a.topics.length b,.slice x5 a.blocks.length x2,IV a.lab.unt,.slice c a.lab.after.length x3,IV a.lab.appr,IV a.lab.den,IV a.editor,IV a.block,IV a.sentence,.string a.text,.string a.name,IV a.partner,IV a.cls,IV a.unt]
noncomputable def BL (k:dF)(o:OA)(n:Nat)(m:OA)(l:Nat)(q:OA)(p:Nat)(j:BA)(a b c:Nat)(h i g d:Int)(f e:Nat)(cs:List aa)(S:List Nat):Cut:=⟨TP,S,139,54,(KC Tryz.f139 244),[(0,PP a),(1,.pointer (some ⟨b,11,none⟩)),(31,IV h),(32,IV i)],[(a,.cells (zF14aa j g) 105),(b,.cells (zF14ab k d n l c f e o m) 38),(c,.cells ⟨cs⟩ 3)]⟩
abbrev kBuq (x0)(x1:dF)(x2 x3 x4 x5 x6 x7 x8 x9 x10):=((x0,.cells #[IV x1.n,IV x1.time,IV x1.kind,IV x1.story,.string x1.lang,IV x1.rev,IV x1.base,.string x1.title,.string x1.author,.slice x2 x1.topics.length x3,.slice x4 x1.blocks.length x5,IV x6,.slice (SO x7) x8 x9,IV x10,IV x1.lab.den,IV x1.editor,IV x1.block,IV x1.sentence,.string x1.text,.string x1.name,IV x1.partner,IV x1.cls,IV x1.unt] 38):Nat×Obj)
abbrev kByq (x0)(x1:dF)(x2 x3 x4 x5 x6 x7 x8 x9 x10 x11):=((x0,.cells #[IV x1.n,IV x1.time,IV x1.kind,IV x1.story,.string x1.lang,IV x1.rev,IV x1.base,.string x1.title,.string x1.author,.slice x2 x1.topics.length x3,.slice x4 x1.blocks.length x5,IV x6,.slice (SO x7) x8 x9,IV x10,IV x11,IV x1.editor,IV x1.block,IV x1.sentence,.string x1.text,.string x1.name,IV x1.partner,IV x1.cls,IV x1.unt] 38):Nat×Obj)
theorem Ob (a:dF)(l:OA)(k:Nat)(j:OA)(i:Nat)(z:OA)(y:Nat)(h:BA)(c d b:Nat)(p m w g:Int)(f e:Nat)(cs:List aa)(H:VP S w0 R (.hp [(c,.cells (zF14aa h w) 105),(d,.cells (zF14ab a g k i b f e l j) 38),(b,.cells ⟨cs⟩ 3)] fun u=>.P 5 33 (m<p) (.ru [14,201]<|.r 1<|.iL b 0 f e 1 m (ad m)<|.cP 98 [PP c,.pointer (some ⟨b,(ad m),none⟩)] u<|.x2 fun ca3 (t:List aa)=>.rt (.tuple #[]) [(c,.cells (zF14aa h ca3) 105),(d,.cells (zF14ab a g k i b f e l j) 38),(b,.cells ⟨t⟩ 3)]<|.ct 7 [0,1,2] (BL a l k j i z y h c d b p (ab.wrap (m+1)) ca3 g f e t S))<|.r 8<|.cP 98 [PP c,.pointer (some ⟨d,13,none⟩)] u<|.x2 fun q o=>.rt (.tuple #[]) [(c,.cells (zF14aa h q) 105),(kBuq d a l k j i g b f e o),(b,.cells ⟨cs⟩ 3)]<|.r 6<|.cP 98 [PP c,.pointer (some ⟨d,14,none⟩)] [(c,.cells (zF14aa h q) 105),(kBuq d a l k j i g b f e o),(b,.cells ⟨cs⟩ 3)]<|.x2 fun s x=>.rt (.tuple #[]) [(c,.cells (zF14aa h s) 105),(kByq d a l k j i g b f e o x),(b,.cells ⟨cs⟩ 3)]<|.re 1 (.tuple #[]) [(c,.cells (zF14aa h s) 105),(kByq d a l k j i g b f e o x),(b,.cells ⟨cs⟩ 3)])):BL a l k j i z y h c d b p m w g f e cs S w0 R:=VC.go gJ _ H
theorem Za (B a:Nat)(d:BA)(l:Int)(c:dF)(j:OA)(i:Nat)(h:OA)(g:Nat)(f:OA)(e:Nat)(hm:Mem [(B,.cells (zF14aa d l) 105),(a,.cells (zF14ad c i g e j h f) 38)] S w0 W)(H:VP S w0 R (.r 6<|.cP 98 (kDfq B a) [(B,.cells (zF14aa d l) 105),(a,.cells (zF14ad c i g e j h f) 38)]<|.x2 fun m k=>.rt (.tuple #[]) [(B,.cells (zF14aa d m) 105),(a,.cells (zF14ac c k i g e j h f) 38)]<|.ru [7,201]<|.r 1<|.cP 168 [PP B,IV (c.lab.after.length:Int),IV 64] [(B,.cells (zF14aa d m) 105),(a,.cells (zF14ac c k i g e j h f) 38)]<|.x2 fun b n=>.rt (IV b) [(B,.cells (zF14aa d n) 105),(a,.cells (zF14ac c k i g e j h f) 38)]<|.ru [8,200]<|.r 5<|.mk' false 3 .i64 .i64 b b (IV 0) 8 fun o=>.ru [2,201,7,201]<|.ct 5 [0,1,2] (BL c j i h g f e d B a o ((ad b):Int) 0 n k (ad b) (ad b) (aA (ad b) (IV 0)) S))):aE TP 139 ⟨(kDfq B a)⟩ W R:=VC.cs gJ hm _ H
abbrev PK (K:aa→aX→Prop)(K':List cf→aX→Prop)(S:List Nat)(w0:aj):bJ→aj→Prop:=
 fun e W'=>(∃v L',e=.returned v∧Mem L' S w0 W'∧K v L')∨∃ch L',e=.panicked ch∧Mem L' S w0 W'∧K' ch L'
theorem sf {K':List cf→aX→Prop}{L:aX}{v:aa}(h:K v L):Fin (PK K K' S w0) L S w0 v:=fun _ hm=>.inl ⟨v,L,rfl,hm,h⟩
theorem ob {K':List cf→aX→Prop}{L:aX}{M:List cf}(h:K' M L):pU (PK K K' S w0) L S w0 M:=fun _ hm=>.inr ⟨M,L,rfl,hm,h⟩
theorem Sc (O:List Nat){K':List cf→aX→Prop}{L L':aX}{v:aa}(M:(nE L O,o5 O)=(L',true))(h:K v L'):Fin (PK K K' S w0) L S w0 v:=by
 simp only[af]at M;obtain⟨rfl,V⟩:=M;exact fun _ hm=>.inl ⟨v,_,rfl,hm.vB (rY V),h⟩
theorem E5 (V:List Nat){K':List cf→aX→Prop}{L L':aX}{M:List cf}(O:(nE L V,o5 V)=(L',true))(h:K' M L'):pU (PK K K' S w0) L S w0 M:=by
 simp only[af]at O;obtain⟨rfl,a1⟩:=O;exact fun _ hm=>.inr ⟨M,_,rfl,hm.vB (rY a1),h⟩
theorem R8 (A:aX)(O:List Nat){T:aX}{K':List cf→aX→Prop}{L':aX}{v:aa}(M:(nE A O,o5 O)=(L',true))(h:K v (L'++T)):Fin (PK K K' S w0) (A++T) S w0 v:=by
 simp only[af]at M;obtain⟨rfl,V⟩:=M;exact fun _ hm=>.inl ⟨v,_,rfl,hm.CG (rY V),h⟩
abbrev vS (e:Int):List cf:=[{v:=.iface 25 (.int .i64 e),recovered:=false}]
theorem mq.zR {L0 L1:aX}{V:aj→Prop}{K k1:aa→aX→Prop}{K' a1:List cf→aX→Prop}(h:ri P g args L0 V K K')(a4:∀W,Mem (L0++L1) S w0 W→V W)
  (a2:∀v L',K v L'→k1 v (L'++L1))(a3:∀M L',K' M L'→a1 M (L'++L1)):mq P g args (L0++L1) S w0 k1 a1:=
 mq.lF h a4 (ah _) (fun v L' O=>⟨L'++L1,ah _,a2 v L' O⟩) (fun M L' O=>⟨L'++L1,ah _,a3 M L' O⟩)
theorem mq.st {L0 L V N a1 M:aX}{u:aa}{c:List cf}{A O:Prop}{a2:aj→Prop}{k1:aa→aX→Prop}{a4:List cf→aX→Prop}(L1:aX)
  (h:ri P g args L0 a2 (fun v L'=>A∧v=u∧L'=V) (fun a3 L'=>O∧a3=c∧L'=a1))(a7:∀W,Mem L S w0 W→a2 W)(p1:(L0++L1).Perm L)(a8:(V++L1).Perm N)(a9:(a1++L1).Perm M)(a5:A→k1 u N)(a6:O→a4 c M):mq P g args L S w0 k1 a4:=
 mq.lF h a7 p1 (fun v L' ⟨h0,hv,hL⟩=>⟨N,hL▸a8,hv▸a5 h0⟩) (fun a3 L' ⟨h0,hc,hL⟩=>⟨M,hL▸a9,hc▸a6 h0⟩)
theorem tN {a b c:Nat×Obj}:([a,b]++[c]:aX).Perm [a,c,b]:=eS _ (dg _ _ _)
theorem oo {a b:Nat×Obj}:([a,b]++[]:aX).Perm [a,b]:=ah _
theorem wT {a b:Nat×Obj}:([a]++[b]:aX).Perm [a,b]:=ah _
abbrev rK (B:Nat)(tx:BA)(a:Nat):Nat×Obj:=(B,.cells #[.bool true,.string tx,.int .i64 (a:Int),.pointer none,.slice none 0 0] 105)
theorem tE {B O no tn a:Nat}{M:BA}{cs:List aa}(a5:M.size<4611686018427387904)(a3:a≤(bb M).length)(a4:no<cs.length):
  ri TP 98 ⟨[pt B 0,pt O no]⟩ [rK B M a,(O,.cells ⟨cs⟩ tn)] (fun _=>True)
   (fun v L'=>(kP (bb M) (a,0)).2.2=0∧v=.tuple #[]∧L'=[rK B M (kP (bb M) (a,0)).2.1,(O,.cells ⟨cs.set no (.int .i64 (kP (bb M) (a,0)).1)⟩ tn)])
   (fun a2 L'=>(kP (bb M) (a,0)).2.2=10∧a2=vS 10∧L'=[rK B M a,(O,.cells ⟨cs⟩ tn)]):=by
 intro W hm _;refine Yg B O no M a tn cs hm ?_;have V:lV TP 83 ⟨[.string M,.int .i64 (a:Int)]⟩ [rK B M a,(O,.cells ⟨cs⟩ tn)] (([rK B M a,(O,.cells ⟨cs⟩ tn)]:aX).map (·.1)) W (oH M (a:Int)):=lV.of (xh M _ a5);rw[sI (st:=(a,0)) a3 rfl]at V;rw[kP,if_pos rfl];cases hr:ml ((bb M).drop a)with
 |none=>
  rw[hr]at V;exact⟨_,_,_,V,fun _=>ob ⟨rfl,rfl,rfl⟩,fun a1=>absurd a1 (by decide)⟩
 |some p=>
  rw[hr]at V;exact⟨_,_,_,V,fun a1=>absurd rfl a1,fun _=>⟨a4,sf ⟨rfl,rfl,rfl⟩⟩⟩
theorem ET {B O no tn a:Nat}{M:BA}{cs:List aa}(a5:M.size<4611686018427387904)(a3:a≤(bb M).length)(a4:no<cs.length):
  ri TP 133 ⟨[pt B 0,pt O no]⟩ [rK B M a,(O,.cells ⟨cs⟩ tn)] (fun _=>True)
   (fun v L'=>(lh (bb M) (a,0)).2.2=0∧v=.tuple #[]∧L'=[rK B M (lh (bb M) (a,0)).2.1,(O,.cells ⟨cs.set no (.string (lh (bb M) (a,0)).1)⟩ tn)])
   (fun a2 L'=>(lh (bb M) (a,0)).2.2=10∧a2=vS 10∧L'=[rK B M a,(O,.cells ⟨cs⟩ tn)]):=by
 intro W hm _;refine Zv B O no M a tn cs hm ?_;have V:lV TP 122 ⟨[.string M,.int .i64 (a:Int)]⟩ [rK B M a,(O,.cells ⟨cs⟩ tn)] (([rK B M a,(O,.cells ⟨cs⟩ tn)]:aX).map (·.1)) W (qe M (a:Int)):=lV.of (EP M _ a5);rw[wJ (st:=(a,0)) a3 rfl]at V;rw[lh,if_pos rfl];cases hr:rdStr ((bb M).drop a)with
 |none=>
  rw[hr]at V;exact⟨_,_,_,V,fun _=>ob ⟨rfl,rfl,rfl⟩,fun a1=>absurd a1 (by decide)⟩
 |some p=>
  rw[hr]at V;exact⟨_,_,_,V,fun a1=>absurd rfl a1,fun _=>⟨a4,sf ⟨rfl,rfl,rfl⟩⟩⟩
theorem CD {s:List UInt8}{m:Int}{st:RS}(h:(kP s st).2.2=0)(M:(kP s st).1<0∨m<(kP s st).1):mh s m st=((kP s st).1,((kP s st).2.1,50)):=by rw[mh,if_pos ⟨h,M⟩]
theorem Bw {s:List UInt8}{m:Int}{st:RS}(h:¬((kP s st).2.2=0∧((kP s st).1<0∨m<(kP s st).1))):mh s m st=kP s st:=by rw[mh,if_neg h]
theorem RU {s:List UInt8}{a:Nat}(h:(kP s (a,0)).2.2=10):(kP s (a,0)).2.1=a:=by
 rw[kP,if_pos rfl]at*;split at h
 ·rfl
 ·simp at h
theorem Kf {B a:Nat}{n most:Int}{M:BA}(a5:M.size<4611686018427387904)(a4:a≤(bb M).length):
  ri TP 168 ⟨[pt B 0,.int .i64 n,.int .i64 most]⟩ [rK B M a] (fun _=>True)
   (fun v L'=>(mh (bb M) most (a,0)).2.2=0∧v=.int .i64 (mh (bb M) most (a,0)).1∧L'=[rK B M (mh (bb M) most (a,0)).2.1])
   (fun a1 L'=>(mh (bb M) most (a,0)).2.2≠0∧a1=vS (mh (bb M) most (a,0)).2.2∧L'=[rK B M (kP (bb M) (a,0)).2.1]):=by
 intro W hm _;refine Si B n most M a hm fun a6=>?_
 refine mq.st [] (tE (tn:=3) (cs:=[.int .i64 n]) a5 a4 (by simp)) (fun _ _=>trivial) oo oo oo (fun O=>⟨_,_,rfl,rfl,?_⟩) (fun O=>?_)
 ·refine⟨fun a2=>⟨fun a3=>?_,fun a3=>?_⟩,fun a2=>?_⟩
  ·refine E5 [0] rfl ?_
   rw[CD O (.inr (by omega))];exact⟨show(50:Int)≠0 by decide,rfl,rfl⟩
  ·refine Sc [0] rfl ?_
   rw[Bw (fun V=>by rcases V.2 with h|h<;>omega)];exact⟨O,rfl,rfl⟩
  ·refine E5 [0] rfl ?_
   rw[CD O (.inl (by omega))];exact⟨show(50:Int)≠0 by decide,rfl,rfl⟩
 ·refine E5 [0] rfl ?_
  rw[Bw (fun V=>by rw[O]at V;exact absurd V.1 (by decide)),O,RU O];exact⟨by decide,rfl,rfl⟩
abbrev fH (FB:Nat)(cs:List aa):Nat×Obj:=(FB,.cells ⟨cs⟩ 38)
theorem Lf {z v:aa}(l:List aa)(g:Nat):(l++aA (g+1) z).set l.length v=l++[v]++aA g z:=by
 rw[List.set_append_right _ _ (aD _),jj,List.replicate_succ,List.set_cons_zero,an];rfl
def M8 (B FB:Nat)(tx:BA)(x:dF)(bp:OA)(bc:Nat)(ap:OA)(ac:Nat)(r:List BA×RS)(v:aa)(L':aX):Prop:=
 r.2.2=0∧v=.tuple #[]∧∃Bn,L'=[rK B tx r.2.1,fH FB (({x with topics:=r.1}:dF).cells (SO Bn) r.1.length bp bc ap ac),(Bn,.cells ⟨r.1.map .string⟩ 9)]
def uI (B FB:Nat)(tx:BA)(e:Int)(ch:List cf)(L':aX):Prop:=
 e≠0∧ch=vS e∧∃a cs N,L'=rK B tx a::fH FB cs::N∧cs.length=23
theorem GK {B FB Bn:Nat}{M:BA}(a2:M.size<4611686018427387904){x:dF}{tp bp ap:OA}{tc bc ac n:Nat}{S:List Nat}{w0:aj}{r:List BA×RS}(hn:n≤4):
  ∀(g:Nat) (l:List BA) (a:Nat),l.length+g=n→a≤(bb M).length→r=(l++(lz (lh (bb M)) g (a,0)).1,(lz (lh (bb M)) g (a,0)).2)→
   BT x tp tc bp bc ap ac M B FB Bn (n:Int) (l.length:Int) (a:Int) n n (l.map .string++aA g (.string ⟨#[]⟩)) S w0 (PK (M8 B FB M x bp bc ap ac r) (uI B FB M r.2.2) S w0)
 |0,l,a,hg,ha,O=>by
  apply Oa;have O:r=(l,(a,0)):=by rw[O];simp[lz]
  have a3:l.length=n:=by omega
  refine no (by omega) (sf ?_);rw[O];refine⟨rfl,rfl,Bn,?_⟩;rw[←a3];simp
 | g+1,l,a,hg,ha,O=>by
  apply Oa;rw[lz,if_pos rfl]at O;refine yes (by omega) ⟨by omega,?_⟩;refine mq.st [fH FB _] (ET a2 ha (by simp)) (fun _ _=>trivial) tN tN tN (fun V=>⟨_,_,rfl,rfl,?_⟩) (fun V=>?_)
  ·have e1:ad (l.length:Int)=(l.map Value.string).length:=by simp
   rw[e1,Lf,kS (by omega),show(l.length:Int)+1=((l++[(lh (bb M) (a,0)).1]).length:Int)by simp];have a1:(lh (bb M) (a,0)).2=((lh (bb M) (a,0)).2.1,0):=eU rfl V;have:=GK (B:=B) (FB:=FB) (Bn:=Bn) a2 (x:=x) (tp:=tp) (tc:=tc) (bp:=bp) (bc:=bc) (ap:=ap) (ac:=ac) (S:=S) (w0:=w0) (r:=r) hn g (l++[(lh (bb M) (a,0)).1]) (lh (bb M) (a,0)).2.1 (by simp;omega) (o3 (st:=(a,0)) ha).1 (by rw[O,a1];simp);simpa using this
  ·have a1:r.2.2=10:=by rw[O];simp only;rw[oc (by rw[V];decide)];exact V
   refine ob ?_;rw[a1];exact⟨by decide,rfl,_,_,_,rfl,rfl⟩
theorem Zs {B FB a:Nat}{M:BA}(a1:M.size<4611686018427387904)(V:a≤(bb M).length){x:dF}:
  ri TP 135 ⟨[pt B 0,pt FB 9]⟩ [rK B M a,fH FB (x.cells tp tc bp bc ap ac)] (fun _=>True) (M8 B FB M x bp bc ap ac (mB (bb M) .topics (a,0))) (uI B FB M (mB (bb M) .topics (a,0)).2.2):=by
 intro W hm _;refine SQ B FB M a x tp tc bp bc ap ac hm ?_;refine mq.st [fH FB _] (Kf a1 V) (fun _ _=>trivial) wT wT wT (fun O=>⟨_,_,rfl,rfl,?_⟩) (fun O=>?_)
 ·have hc:=zW O
  refine⟨by omega,fun a2=>?_⟩;generalize hq:(mh (bb M) 4 (a,0))=q at*;have a3:q.2=(q.2.1,0):=eU rfl O;have a4:q.2.1≤(bb M).length:=by rw[←hq];exact w8 V
  have:=GK (B:=B) (FB:=FB) (Bn:=a2) a1 (x:=x) (tp:=tp) (tc:=tc) (bp:=bp) (bc:=bc) (ap:=ap) (ac:=ac) (S:=[rK B M a,fH FB (x.cells tp tc bp bc ap ac)].map (·.1)) (w0:=W) (n:=q.1.toNat) (r:=mB (bb M) .topics (a,0)) (by omega) q.1.toNat [] q.2.1 (by simp) a4
   (by show nv (lh (bb M)) (bb M) 4 (a,0)=_;rw[nv,hq,a3];simp)
  exact this
 ·refine ob ?_
  have e:(mB (bb M) .topics (a,0)).2=(mh (bb M) 4 (a,0)).2:=by show(nv _ _ _ _).2=_;rw[nv,oc O]
  rw[e];exact⟨O,rfl,_,_,[],rfl,rfl⟩
def Qf (B FB:Nat)(tx:BA)(x:dF)(tp:OA)(tc:Nat)(ap:OA)(ac:Nat)(r:List kT×RS)(v:aa)(L':aX):Prop:=
 r.2.2=0∧v=.tuple #[]∧∃bp bc N,L'=rK B tx r.2.1::fH FB (({x with blocks:=r.1}:dF).cells tp tc bp bc ap ac)::N∧mY (l7 N) bp r.1∧r.1.length≤bc∧r.1.length≤24
theorem S0 {B FB a:Nat}{M:BA}(a2:M.size<4611686018427387904)(a1:a≤(bb M).length){x:dF}:
  ri TP 137 ⟨[pt B 0,pt FB 10]⟩ [rK B M a,fH FB (x.cells tp tc bp bc ap ac)] (fun _=>True) (Qf B FB M x tp tc ap ac (mB (bb M) .blocks (a,0))) (uI B FB M (mB (bb M) .blocks (a,0)).2.2):=by
 intro W hm _;refine RL B FB M a x tp tc bp bc ap ac hm fun a3=>?_
 refine mq.st [fH FB (x.cells tp tc bp bc ap ac)] (ET (tn:=9) (cs:=[.string ⟨#[]⟩]) a2 a1 (by simp)) (fun _ _=>trivial) tN tN tN (fun O=>⟨_,(lh (bb M) (a,0)).1,rfl,rfl,?_⟩) (fun O=>?_)
 ·have a4:=(o3 (s:=bb M) (st:=(a,0)) a1).2
  refine eA.more (Pt (lh (bb M) (a,0)).1 (by omega)) fun v F ⟨p,c,hv,hc,hb⟩=>⟨p,_,c,_,F,hv,rfl,fun V=>?_,fun V=>?_⟩
  ·have e:mB (bb M) .blocks (a,0)=([],((lh (bb M) (a,0)).2.1,50)):=by show nB _ _=_;rw[nB,if_pos O,if_neg V]
   rw[e];exact ob ⟨show(50:Int)≠0 by decide,rfl,_,_,_,rfl,rfl⟩
  ·have e:mB (bb M) .blocks (a,0)=((my (bb (lh (bb M) (a,0)).1)).1,(lh (bb M) (a,0)).2):=by show nB _ _=_;rw[nB,if_pos O,if_pos V]
   rw[e];refine R8 [_,_,_] [0,1] rfl ⟨O,rfl,p,c,F,rfl,hb,hc,Xi _⟩
 ·have e:(mB (bb M) .blocks (a,0)).2=(lh (bb M) (a,0)).2:=by show(nB _ _).2=_;rw[nB,if_neg (by rw[O];decide)]
  rw[e,O];exact ob ⟨by decide,rfl,_,_,_,rfl,rfl⟩
def KQ (B FB:Nat)(tx:BA)(x:dF)(tp:OA)(tc:Nat)(bp:OA)(bc:Nat)(r:mi×RS)(v:aa)(L':aX):Prop:=
 r.2.2=0∧v=.tuple #[]∧∃Bn,L'=[rK B tx r.2.1,fH FB (({x with lab:=r.1}:dF).cells tp tc bp bc (SO Bn) r.1.after.length),(Bn,.cells ⟨r.1.after.map (.int .i64)⟩ 3)]∧r.1.after.length≤64
def vg (s:List UInt8)(u:Int)(r:List Int×RS):mi×RS:=(⟨u,r.1,(kP s r.2).1,(kP s (kP s r.2).2).1⟩,(kP s (kP s r.2).2).2)
theorem FH {s:List UInt8}{u:Int}{r:List Int×RS}(h:¬r.2.2=0):(vg s u r).2=r.2:=by
 show(kP s (kP s r.2).2).2=_;have M:=rX (s:=s) h;rw[M,M]
theorem Iq {B FB Bn:Nat}{M:BA}(a3:M.size<4611686018427387904){x:dF}{tp bp ap:OA}{tc bc ac n:Nat}{u:Int}{S:List Nat}{w0:aj}{r:List Int×RS}(hn:n≤64):
  ∀(g:Nat) (l:List Int) (a:Nat),l.length+g=n→a≤(bb M).length→r=(l++(lz (kP (bb M)) g (a,0)).1,(lz (kP (bb M)) g (a,0)).2)→
   BL x tp tc bp bc ap ac M B FB Bn (n:Int) (l.length:Int) (a:Int) u n n (l.map (.int .i64)++aA g (.int .i64 0)) S w0 (PK (KQ B FB M x tp tc bp bc (vg (bb M) u r)) (uI B FB M (vg (bb M) u r).2.2) S w0)
 | 0,l,a,hg,ha,a1=>by
  apply Ob;have a1:r=(l,(a,0)):=by rw[a1];simp[lz]
  have a4:l.length=n:=by omega
  subst a1;refine no (by omega) ?_;refine mq.st [(Bn,_)] (tE a3 ha (by simp)) (fun _ _=>trivial) (ah _) (ah _) (ah _) (fun O=>⟨_,(kP (bb M) (a,0)).1,rfl,rfl,?_⟩) (fun O=>?_)
  ·have V:(kP (bb M) (a,0)).2=((kP (bb M) (a,0)).2.1,0):=eU rfl O
   refine mq.st [(Bn,_)] (tE a3 (mo (st:=(a,0)) ha) (by simp)) (fun _ _=>trivial) (ah _) (ah _) (ah _) (fun a2=>⟨_,(kP (bb M) ((kP (bb M) (a,0)).2.1,0)).1,rfl,rfl,sf ?_⟩) (fun a2=>ob ?_)
   ·rw[←V]at a2 ⊢
    refine⟨a2,rfl,Bn,?_,by show l.length≤64;omega⟩;rw[←a4];simp[vg]
   ·rw[←V]at a2
    have e:(vg (bb M) u (l,(a,0))).2.2=10:=a2;rw[e];exact⟨by decide,rfl,_,_,_,rfl,rfl⟩
  ·have e:(vg (bb M) u (l,(a,0))).2.2=10:=by
    show(kP (bb M) (kP (bb M) (a,0)).2).2.2=10;rw[rX (by rw[O];decide)];exact O
   refine ob ?_;rw[e];exact⟨by decide,rfl,_,_,_,rfl,rfl⟩
 | g+1,l,a,hg,ha,a1=>by
  apply Ob;rw[lz,if_pos rfl]at a1;refine yes (by omega) ⟨by omega,?_⟩;refine mq.st [fH FB _] (tE a3 ha (by simp)) (fun _ _=>trivial) tN tN tN (fun O=>⟨_,_,rfl,rfl,?_⟩) (fun O=>?_)
  ·have e1:ad (l.length:Int)=(l.map (Value.int .i64)).length:=by simp
   rw[e1,Lf,kS (by omega),show(l.length:Int)+1=((l++[(kP (bb M) (a,0)).1]).length:Int)by simp];have V:(kP (bb M) (a,0)).2=((kP (bb M) (a,0)).2.1,0):=eU rfl O;have:=Iq (B:=B) (FB:=FB) (Bn:=Bn) a3 (x:=x) (tp:=tp) (tc:=tc) (bp:=bp) (bc:=bc) (ap:=ap) (ac:=ac) (u:=u) (S:=S) (w0:=w0) (r:=r) hn g (l++[(kP (bb M) (a,0)).1]) (kP (bb M) (a,0)).2.1 (by simp;omega) (mo (st:=(a,0)) ha) (by rw[a1,V];simp);simpa using this
  ·have V:r.2.2=10:=by rw[a1];simp only;rw[oc (by rw[O];decide)];exact O
   refine ob ?_;rw[FH (by rw[V];decide),V];exact⟨by decide,rfl,_,_,_,rfl,rfl⟩
theorem Y3 {B FB a:Nat}{M:BA}(a1:M.size<4611686018427387904)(a3:a≤(bb M).length){x:dF}:
  ri TP 139 ⟨[pt B 0,pt FB 11]⟩ [rK B M a,fH FB (x.cells tp tc bp bc ap ac)] (fun _=>True) (KQ B FB M x tp tc bp bc (mB (bb M) .label (a,0))) (uI B FB M (mB (bb M) .label (a,0)).2.2):=by
 intro W hm _;refine Za B FB M a x tp tc bp bc ap ac hm ?_;have ev:mB (bb M) .label (a,0)=vg (bb M) (kP (bb M) (a,0)).1 (nv (kP (bb M)) (bb M) 64 (kP (bb M) (a,0)).2):=rfl;rw[ev];refine mq.st [] (tE a1 a3 (by simp)) (fun _ _=>trivial) oo oo oo (fun V=>⟨_,(kP (bb M) (a,0)).1,rfl,rfl,?_⟩) (fun V=>?_)
 ·have a6:(kP (bb M) (a,0)).2=((kP (bb M) (a,0)).2.1,0):=eU rfl V
  rw[a6];have a4:=mo (s:=bb M) (st:=(a,0)) a3;generalize (kP (bb M) (a,0)).2.1=a2 at*;generalize (kP (bb M) (a,0)).1=u at*;refine mq.st [fH FB _] (Kf a1 a4) (fun _ _=>trivial) wT wT wT (fun O=>⟨_,_,rfl,rfl,?_⟩) (fun O=>?_)
  ·have hc:=zW O
   refine⟨by omega,fun a5=>?_⟩;have a8:=w8 (s:=bb M) (m:=64) (st:=(a2,0)) a4;have a9:nv (kP (bb M)) (bb M) 64 (a2,0)=lz (kP (bb M)) (mh (bb M) 64 (a2,0)).1.toNat (mh (bb M) 64 (a2,0)).2:=rfl;generalize hq:(mh (bb M) 64 (a2,0))=q at*;have a7:q.2=(q.2.1,0):=eU rfl O;rw[a9,a7];exact Iq (B:=B) (FB:=FB) (Bn:=a5) a1 (x:=x) (tp:=tp) (tc:=tc) (bp:=bp) (bc:=bc) (ap:=ap) (ac:=ac) (u:=u) (S:=[rK B M a,fH FB (x.cells tp tc bp bc ap ac)].map (·.1)) (w0:=W) (n:=q.1.toNat) (r:=lz (kP (bb M)) q.1.toNat (q.2.1,0)) (by omega) q.1.toNat [] q.2.1 (by simp) a8 (by simp)
  ·refine ob ?_
   have e:(nv (kP (bb M)) (bb M) 64 (a2,0)).2=(mh (bb M) 64 (a2,0)).2:=by rw[nv,oc O]
   rw[FH (by rw[e];exact O),e];exact⟨O,rfl,_,_,[],rfl,rfl⟩
 ·refine ob ?_
  have e:(nv (kP (bb M)) (bb M) 64 (kP (bb M) (a,0)).2).2=(kP (bb M) (a,0)).2:=Dp (by rw[V];decide);rw[FH (by rw[e,V];decide),e,V];exact⟨by decide,rfl,_,_,[],rfl,rfl⟩
abbrev zF15aa (a:BA)(b:Int):Array aa:= #[.bool true,.string a,IV b,.pointer none,.slice none 0 0]
abbrev yF15aa (a:BA)(b:Int)(x2:List aa)(x3 x4:Nat)(x5:aX):aX:=(x3,.cells (zF15aa a b) 105)::(x4,.cells ⟨x2⟩ 38)::x5
theorem Rh (f kn B a no:Nat)(c:BA)(d:Int)(cs:List aa)(b:aX)(hm:Mem (yF15aa c d cs B a b) S w0 W)(H:VP S w0 R (.r 1<|.ex fun(g:List aa)=>.mU f 0 100 g (PP B)<|.ex fun(h:List aa)=>.mU kn 0 155 h (.pointer (some ⟨a,no,none⟩))<|.cP 98 (kCvq B a no) (yF15aa c d cs B a b)<|.x2 fun ca1 (e:List aa)=>.rt (.tuple #[]) (yF15aa c ca1 e B a b)<|.re 1 (.tuple #[]) (yF15aa c ca1 e B a b))):aE TP 130 ⟨[PP f,PP kn]⟩ W R:=VC.cs iX hm _ H
theorem ZG (f kn B a no:Nat)(c:BA)(d:Int)(cs:List aa)(b:aX)(hm:Mem (yF15aa c d cs B a b) S w0 W)(H:VP S w0 R (.r 1<|.ex fun(g:List aa)=>.mU f 0 100 g (PP B)<|.ex fun(h:List aa)=>.mU kn 0 192 h (.pointer (some ⟨a,no,none⟩))<|.cP 133 (kCvq B a no) (yF15aa c d cs B a b)<|.x2 fun ca1 (e:List aa)=>.rt (.tuple #[]) (yF15aa c ca1 e B a b)<|.re 1 (.tuple #[]) (yF15aa c ca1 e B a b))):aE TP 132 ⟨[PP f,PP kn]⟩ W R:=VC.cs iY hm _ H
theorem U5 (f g B a:Nat)(b:BA)(d:Int)(cs:List aa)(c:aX)(hm:Mem (yF15aa b d cs B a c) S w0 W)(H:VP S w0 R (.dr 4<|.ex fun(h:List aa)=>.mU f 0 100 h (PP B)<|.ex fun(i:List aa)=>.mU g 0 107 i (PP a)<|.qu [2]<|.dn<|.cP 135 (kEpq B a) (yF15aa b d cs B a c)<|.x3 fun ca1 (e:List aa) F1=>.rt (.tuple #[]) (yF15aa b ca1 e B a F1)<|.re 1 (.tuple #[]) (yF15aa b ca1 e B a F1))):aE TP 134 ⟨[PP f,PP g]⟩ W R:=VC.cs iZ hm _ H
theorem UN (f g B a:Nat)(b:BA)(d:Int)(cs:List aa)(c:aX)(hm:Mem (yF15aa b d cs B a c) S w0 W)(H:VP S w0 R (.dr 4<|.ex fun(h:List aa)=>.mU f 0 100 h (PP B)<|.ex fun(i:List aa)=>.mU g 0 107 i (PP a)<|.qu [2]<|.dn<|.cP 137 (kEmq B a) (yF15aa b d cs B a c)<|.x3 fun ca1 (e:List aa) F1=>.rt (.tuple #[]) (yF15aa b ca1 e B a F1)<|.re 1 (.tuple #[]) (yF15aa b ca1 e B a F1))):aE TP 136 ⟨[PP f,PP g]⟩ W R:=VC.cs ja hm _ H
theorem OE (f g B a:Nat)(b:BA)(d:Int)(cs:List aa)(c:aX)(hm:Mem (yF15aa b d cs B a c) S w0 W)(H:VP S w0 R (.dr 4<|.ex fun(h:List aa)=>.mU f 0 100 h (PP B)<|.ex fun(i:List aa)=>.mU g 0 107 i (PP a)<|.qu [2]<|.dn<|.cP 139 (kDfq B a) (yF15aa b d cs B a c)<|.x3 fun ca1 (e:List aa) F1=>.rt (.tuple #[]) (yF15aa b ca1 e B a F1)<|.re 1 (.tuple #[]) (yF15aa b ca1 e B a F1))):aE TP 138 ⟨[PP f,PP g]⟩ W R:=VC.cs jb hm _ H
abbrev zF16aa (a:BA)(b:Int):Array aa:= #[.bool true,.string a,IV b,.pointer none,.slice none 0 0]
abbrev yF16aa (a:BA)(b:Int)(x2:List aa)(x3 x4:Nat)(x5:aX):aX:=(x3,.cells (zF16aa a b) 105)::(x4,.cells ⟨x2⟩ 38)::x5
abbrev BQ (a:Nat)(f:BA)(e:Int)(b:Nat)(d:List aa)(c:aX):aX:=(yF16aa f e d a b c)
def xv (k:BA)(a b:Nat)(h:OA)(g f:Nat)(i j e:Int)(d:List aa)(c:aX)(S:List Nat)(w0:aj)(R:bJ→aj→Prop):Prop:=
 kO TP 59 38 (KC Tryz.f59 508) [(29,.slice h g f),(30,IV i),(31,IV j)] (BQ a k e b d c) S w0 (lN R)
theorem L8 (f:BA)(c d:Nat)(s:OA)(q y:Nat)(z a n:Int)(l:List aa)(j:aX)
 (H:
 Br (a<z)
 (∃h e:Nat,s=some ⟨h,e,none⟩∧(0≤a∧a<q)∧
 ∃(x:List aa) (m:aa),(∃N C,(h,bu ⟨x⟩ N C)∈(BQ c f n d l j))∧x[(e+(ad a))]?=some (m)∧
 ∃(g:Nat) (k:List aa),m=.func (.func g) ⟨[]⟩ ⟨k⟩∧uQ TP g∧
 mq TP g ⟨[]++k⟩ (BQ c f n d l j) S w0 (fun v L'=>∃(u:Int) (w:List aa),∃t,v=.tuple #[]∧L'=(yF16aa f u w c d t)∧
 xv f c d s q y z (ab.wrap (a+(1:Int))) u w t S w0 R) (fun A L'=>pU R L' S w0 A))
 (Fin R (BQ c f n d l j) S w0 (.tuple #[]))):
 xv f c d s q y z a n l j S w0 R:=by
 unfold xv;refine .ru 5 (.sP 32 H ?_ ?_)<;>clear H<;>intro H
 ·refine .ru 6 ?_
  obtain⟨h,e,hp,H⟩:=H;refine .ub (E:=1) (p:=s) (b:=h) (o:=e) (len:=q) (cap:=y) (sz:=1) (o':=(e+(ad a))) (kd:=.i64) (i:=a) hp (by kernel_rfl) H.1 (by omega) ?_
  replace H:=H.2
  obtain⟨x,m,G,M,H⟩:=H;refine .loadT (b:=h) (off:=(e+(ad a))) (T:=1) (v:=m) (by kernel_rfl) G (o4 M (by kernel_rfl)) (.ru 4 ?_);obtain⟨g,k,rfl,F,H⟩:=H;refine .Et g [] k [] (by kernel_rfl) F H ?_ (fun A L' D=>nK.lN dJ D);clear H;rintro _ _ ⟨u,w,t,rfl,rfl,H⟩;refine .ru 7 (.tT [0,1] 2 H)
 ·refine .ru 2 (.rt dJ H)
theorem Uv (B a:Nat)(b:BA)(p:Int)(cs:List aa)(c:aX)(hm:Mem (yF16aa b p cs B a c) S w0 W)
 (H:
 mq TP 98 ⟨[PP B,PP a]⟩ (yF16aa b p cs B a c) S w0 (fun v L'=>∃(j:Int) (l:List aa),v=.tuple #[]∧L'=(yF16aa b j l B a c)∧
 mq TP 98 ⟨[PP B,.pointer (some ⟨a,1,none⟩)]⟩ (yF16aa b j l B a c) S w0 (fun v L'=>∃(k:Int) (m:List aa),v=.tuple #[]∧L'=(yF16aa b k m B a c)∧
 mq TP 98 ⟨[PP B,.pointer (some ⟨a,2,none⟩)]⟩ (yF16aa b k m B a c) S w0 (fun v L'=>∃(e:Int) (f:List aa),v=.tuple #[]∧L'=(yF16aa b e f B a c)∧
 eA TP 99 ⟨[PP B,PP a]⟩ (yF16aa b e f B a c) S w0 (fun v L'=>∃(o:OA) (h:Nat) (n:Nat),∃i,v=(.slice o h n)∧L'=(yF16aa b e f B a i)∧
 Br ((h:Int)=(0:Int))
 (pU R (yF16aa b e f B a i) S w0 [{v:=.iface 25 (IV 50),recovered:=false}])
 (xv b B a o h n (h:Int) (0:Int) e f i S w0 R))) (fun d L'=>pU R L' S w0 d)) (fun d L'=>pU R L' S w0 d)) (fun d L'=>pU R L' S w0 d)):
 aE TP 59 ⟨[PP B,PP a]⟩ W R:=by
 refine kO.cs 38 dJ hm (.ru 6 (.vr 98 ⟨[PP B,PP a]⟩ (fun W=>by kernel_rfl) (by kernel_rfl) H ?_ (fun d L' g=>nK.lN dJ g)));rintro _ _ ⟨j,l,rfl,rfl,H⟩;refine .ru 7 (.vr 98 ⟨[PP B,.pointer (some ⟨a,1,none⟩)]⟩ (fun W=>by kernel_rfl) (by kernel_rfl) H ?_ (fun d L' g=>nK.lN dJ g));rintro _ _ ⟨k,m,rfl,rfl,H⟩;refine .ru 7 (.vr 98 ⟨[PP B,.pointer (some ⟨a,2,none⟩)]⟩ (fun W=>by kernel_rfl) (by kernel_rfl) H ?_ (fun d L' g=>nK.lN dJ g));rintro _ _ ⟨e,f,rfl,rfl,H⟩;refine .ru 5 (.cl H ?_);rintro _ _ ⟨o,h,n,i,rfl,rfl,H⟩;refine .ru 9 (.sP 27 H (fun H=>?_) fun H=>?_)
 ·refine .ru 3 (.panic (t:=25) (v:=IV 50) (by kernel_rfl) ?_)
  exact nK.lN dJ H
 ·refine .ru 10 (.tT [0,1] 2 H)
end Go.Eng
