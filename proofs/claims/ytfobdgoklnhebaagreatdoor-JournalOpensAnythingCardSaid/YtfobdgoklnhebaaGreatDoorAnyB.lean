/- A part. -/
import Derived.OpenShut
import Derived.LaidLaws
import Derived.JoinedOf
import Derived.SliceStrings
import Derived.Test.YtfobdgoklnhebaaGreatDoorAnyA
set_option linter.unusedVariables false
set_option linter.unusedSimpArgs false
set_option maxRecDepth 100000
open Array renaming toList_inj→bR,toList_push→jR
open BitVec renaming ofInt→db
open Bool renaming true_and→aH,and_eq_true→av
open Go renaming Program→aB,TypeId→aC,Value→aa,World→aj,Item→bA,Ending→bJ,FuncId→bO,IntKind→bW,MapEntry→cD,TypeDesc→cN,Src→eB,Func→fu,MemPlace→gb,Builtin→gm,Addr→hO,Result→iD,DataW→jZ
open Go.Addr renaming add→gL
open Go.Builtin renaming zeroCells→aM,firstCells→eg
open Go.DataW renaming TrodAll→gl,trod→gr,trod_int→kz
open Go.Instr renaming findNow→dX,findKey→gy,mapUpdate→ig,keyThatStays→jD,sameNow→kG,sameBits→ky
open Go.IntKind renaming u64→bs,u32→fN
open Go.Obj renaming cells→bu
open Go.OpenSpec renaming ofChange→jg
open Go.Sem renaming run_bind→aR
open Go.Value renaming agg→gO
open Int renaming toNat_natCast→ai
open List renaming replicate→aA,cons_append→aY,length_append→ae,length_take→ao,getElem?_eq_getElem→ar,mem_append_left→ay,getElem?_map→bP,getElem?_take_of_lt→bh,mem_of_getElem?→bk,getElem?_eq_none→cQ,getElem?_drop→cd,take_append_drop→dK,ext_getElem?→eX,modify_zero_cons→je,modify_succ_cons→jf
open List.cons renaming injEq→bM
open Nat renaming eq_of_beq_eq_true→aP,zero_add→az,mul_le_mul_right→bI,le_of_ble_eq_true→bl,beq→cB,ble→cC,add_mul→cU,mod_eq_of_lt→dB,min_eq_left→dj
open Option renaming isSome_iff_exists→aJ,map_some→bL,getD_some→eR
open Option.some renaming injEq→al,inj→bY
open Prod renaming fst→kK
open Prod.mk renaming injEq→af,inj→bD
namespace Go.Eng
section
open Go Go.RowKit
variable {P:Program}{f nt:Nat}{k:List Item}{e:Env}{L:aX}{S:List Nat}{w0:World}{R:Goal P}
theorem kO.Ea {L':aX}(hp:L'.Perm L)(hn:kO P f nt k e L' S w0 R):kO P f nt k e L S w0 R:=fun t W M hm=>hn t W M (hm.perm hp)
def mM (P:aB)(sz:Nat)(T U:aC)(s:aa)(m:Nat)(news:List aa)(L:aX)(S:List Nat)(w0:aj)(K:aa→aX→Prop):Prop:=
 ∀x ty W,Mem L S w0 W→eB P sz U x m news W→∃v W' L',(Builtin.append_ #[T,U] ty #[s,x]).run P W=.ok v W'∧Mem L' S w0 W'∧K v L'
theorem kO.vy {sz:Nat}{T U:aC}{s x:aa}(m:Nat)(news:List aa){K:aa→aX→Prop}
  (h:oa nt k e=some (.append,[s,x],[T,U]))(a6:∀W,Mem L S w0 W→eB P sz U x m news W)(H:mM P sz T U s m news L S w0 K)
  (hn:∀v L',K v L'→kO P f nt (kZ k) (kX e (kW nt k e) v) L' S w0 R):kO P f nt k e L S w0 R:=by
 obtain⟨o,cl,hc,a5,a3,a2,a7⟩:=rJ h;refine kO.tM hc a5 a3 a2 a7 (by simp) fun W hm=>?_
 obtain⟨v,M,L',O,V,a1⟩:=H x o.type W hm (a6 W hm);exact⟨v,M,run_lift O,fun t a4=>hn v L' a1 t M a4 V⟩
theorem lZ.vy {ops:Array Oper}{n:Nat}{kk:List bA}{L0:aX}(L1:aX){sz:Nat}{T U:aC}{s x:aa}(m:Nat)(news:List aa){K:aa→aX→Prop}(a4:L=L0++L1)
  (h:oa nt k e=some (.append,[s,x],[T,U]))(a6:∀W,Mem L S w0 W→eB P sz U x m news W)(H:mM P sz T U s m news L S w0 K)
  (hn:∀v L',K v L'→lZ P f nt ops n kk L0 (kZ k) (kX e (kW nt k e) v) L' S w0 R):lZ P f nt ops n kk L0 k e L S w0 R:=by
 obtain⟨o,cl,hc,a5,a3,a2,a7⟩:=rJ h;refine lZ.CA L1 a4 hc fun W hm=>?_
 rw[Gf a5 a3 a2 a7 (by simp) W];obtain⟨v,M,L',O,V,a1⟩:=H x o.type W hm (a6 W hm);exact⟨v,L',M,run_lift O,V,hn v L' a1⟩
theorem yf {U E':aC}{sz n c0 B:Nat}{t:aC}{fz:Nat×Nat}{c:List aa}(hc:(B,bu ⟨c⟩ t fz)∈L)(hU:P.underlying U=some (.slice E'))(O:c.length=n*sz)(M:∀u∈c,u.oneCell'=true):
  ∀W,Mem L S w0 W→eB P sz U (.slice (some ⟨B,0,none⟩) n c0) n c W:=
 fun W hm=>Go.Src.ofSlice W hU ⟨B,0,none⟩ n c0 c O (fun j u V=>by rw[pN,az,cell_of_heap (hm.here _ hc)];exact V) M
theorem Ki {y:Nat×Obj}{A F F0:aX}(hp:F.Perm (y::F0)):(y::(A++F0)).Perm (A++F):=List.perm_middle.symm.trans (hp.symm.append_left A)
theorem mM.mono {sz:Nat}{T U:aC}{s:aa}{m:Nat}{news:List aa}{K K':aa→aX→Prop}(h:mM P sz T U s m news L S w0 K)(a2:∀v L',K v L'→K' v L'):mM P sz T U s m news L S w0 K':=by
 intro x ty W hm a3;obtain⟨v,M,L',O,V,a1⟩:=h x ty W hm a3;exact⟨v,M,L',O,V,a2 v L' a1⟩
theorem mM.nil {T U E:aC}{z:aa}{sz bytes m:Nat}{news:List aa}(V:P.underlying T=some (.slice E))(hi:nj P E=some (some z,sz,bytes))(a5:z.cells.size=sz)
  (a7:0<m)(a1:m≤9223372036854775807∧m*bytes≤140737488355328):
  mM P sz T U (.slice none 0 0) m news L S w0 (fun v L'=>∃B cap r,v=.slice (some ⟨B,0,none⟩) m cap∧m≤cap∧(news++r).length=cap*sz∧L'=L++[(B,.cells ⟨news++r⟩ E)]):=by
 intro x ty W hm O;obtain⟨i,hi,a6,a4,a2⟩:=vM hi;have M:=run_append_grow_src W T U ty E i z V hi a6 none 0 0 [] (by simp[eg]) x m news (by rw[a4];exact O) (by omega) (by omega) (growslice_fits (by omega) (by rw[a2,az];exact a1.2));have a3:(([]++news).toArray++aM z.cells (grownCap W (0+m) 0 E-(0+m)))=⟨news++(aM z.cells (grownCap W (0+m) 0 E-(0+m))).toList⟩:=by
  apply bR.1;simp
 rw[a3,az]at M;refine⟨_,_,_,M,hm.drew.alloc _,W.heap.size,grownCap W m 0 E,(aM z.cells (grownCap W m 0 E-m)).toList,rfl,grownCap_ge W m 0 E,?_,rfl⟩;have:=grownCap_ge W m 0 E;rw[ae,vk,O.newsLen,a5,←cU];congr 1;omega
theorem mM.row {T U E:aC}{z:aa}{sz bytes m n cap Q:Nat}{cs news:List aa}{L0:aX}(a5:P.underlying T=some (.slice E))(hi:nj P E=some (some z,sz,bytes))(c2:z.cells.size=sz)
  (hp:L.Perm ((Q,.cells ⟨cs⟩ E)::L0))(a2:n≤cap∧cs.length=cap*sz)(c4:0<m)(a8:n+m≤9223372036854775807∧(n+m)*bytes≤140737488355328):
  mM P sz T U (.slice (some ⟨Q,0,none⟩) n cap) m news L S w0 (fun v L'=>∃B V r,v=.slice (some ⟨B,0,none⟩) (n+m) V∧n+m≤V∧(cs.take (n*sz)++news++r).length=V*sz∧
   ((B=Q∧V=cap∧L'=(Q,.cells ⟨cs.take (n*sz)++news++r⟩ E)::L0)∨L'=(B,.cells ⟨cs.take (n*sz)++news++r⟩ E)::(Q,.cells ⟨cs⟩ E)::L0)):=by
 intro x ty W b6 a4;have hm:Mem ((Q,.cells ⟨cs⟩ E)::L0) S w0 W:=b6.perm hp.symm;obtain⟨i,hi,c3,O,a9⟩:=vM hi;have a6:=a4.newsLen;have a1:W.heap[Q]?=some (.cells ⟨cs⟩ E (0,0)):=hm.here _ List.mem_cons_self;have a7:n*sz≤cs.length:=by rw[a2.2];exact bI _ a2.1
 by_cases hroom:n+m≤cap
 ·have b3:n*sz+news.length≤cs.length:=by
   rw[a6,a2.2,←cU];exact bI _ hroom
  have M:=run_append_room_src W T U ty E i a5 hi Q 0 n cap x m news (by rw[O];exact a4) hroom
   (fun q b9=>by rw[O,az,cell_of_heap a1,ar (by omega)];rfl)
   (fun q b9=>by simp[World.frozen?,a1])
  rw[O,az,I7 a1 news b3]at M;refine⟨_,_,_,M,hm.setRow (j:=0) rfl _,Q,cap,cs.drop (n*sz+news.length),rfl,hroom,?_,.inl ⟨rfl,rfl,rfl⟩⟩;simp only[ae,ao,List.length_drop];rw[←a2.2];omega
 ·have b7:(eg i.size n (.slice (some ⟨Q,0,none⟩) n cap)).run P W.drew=.ok (cs.take (n*sz)).toArray W.drew:=by
   rw[O];refine run_firstCells_some W.drew sz n ⟨Q,0,none⟩ n cap (cs.take (n*sz)) (by rw[ao];exact dj a7) fun q u a3=>?_
   have b4:W.drew.heap[Q]?=some (.cells ⟨cs⟩ E (0,0)):=a1;rw[pN,cell_of_heap b4,az];rw[List.getElem?_take]at a3;split at a3
   ·exact a3
   ·cases a3
  have b5:(cs.take (n*sz)).length=n*sz:=by rw[ao];exact dj a7
  have M:=run_append_grow_src W T U ty E i z a5 hi c3 (some ⟨Q,0,none⟩) n cap (cs.take (n*sz)) b7 x m news (by rw[O];exact a4) (by omega) (by omega) (growslice_fits (by omega) (by rw[a9];exact a8.2));have b1:((cs.take (n*sz)++news).toArray++aM z.cells (grownCap W (n+m) cap E-(n+m)))=⟨cs.take (n*sz)++news++(aM z.cells (grownCap W (n+m) cap E-(n+m))).toList⟩:=by
   apply bR.1;simp
  rw[b1]at M;refine⟨_,_,_,M,(hm.drew.alloc _).perm (L':=(W.heap.size,_)::(Q,.cells ⟨cs⟩ E)::L0) ?_,W.heap.size,grownCap W (n+m) cap E,(aM z.cells (grownCap W (n+m) cap E-(n+m))).toList,rfl,grownCap_ge W (n+m) cap E,?_,.inr rfl⟩
  ·exact List.perm_append_comm (l₁:=[_])
  ·rw[ae,ae,vk,a6,c2,b5,←cU,←cU]
   congr 1;have:=grownCap_ge W (n+m) cap E;omega
theorem kO.T6 (j:Nat){off n:Nat}{T:aC}{vs:List aa}{c:List aa}(h:(q8 nt k e,mc L j,(P.info? T).map (·.size),lO L j,nD L j,vs.length,rV vs)=(some (T,.pointer (some ⟨k7 L j,off,none⟩),.agg ⟨vs⟩),true,some n,c,(0,0),n,true))
  (a6:off+n≤c.length)(hn:kO P f nt (kZ k) (kX e (kW nt k e) undef) (oP L j (over c off vs)) S w0 R):kO P f nt k e L S w0 R:=by
 simp only[af]at h;obtain⟨a1,O,M,a2,a3,a4,a5⟩:=h;obtain⟨o,x,y,hc,a7,a8,a9⟩:=AL a1;refine kO.yE hc (fun W hm=>⟨W.setRow (k7 L j) ⟨over c off vs⟩,?_,hm.setRow O _⟩) hn;have V:=hm.pf O;rw[a2,a3]at V;have hp:ue P T c off (.agg ⟨vs⟩)=some (over c off vs):=by
  unfold ue;cases hq:P.info? T with
  |none=>rw[hq]at M;cases M
  | some i=>
   rw[hq]at M;simp at M;have this:((cB (gO ⟨vs⟩).cells.toList.length i.size&&cC (off+i.size) c.length)&&rV (gO ⟨vs⟩).cells.toList)=true:=by
    rw[M];have e1:(gO ⟨vs⟩).cells.toList=vs:=rfl;rw[e1,a5,a4,Nat.ble_eq_true_of_le a6];simp
   show(bif ((cB (gO ⟨vs⟩).cells.toList.length i.size&&cC (off+i.size) c.length)&&rV (gO ⟨vs⟩).cells.toList)then some _ else none)=_;rw[this];rfl
 simp only[execOp,a7,a8,a9];rw[aR,De V hp];rfl
theorem Jn (kd:bW)(n:Int):∀(es:List cD) (i:Nat),nZ kd es=true→
  (dX (.int kd) (.int kd n) es i=some none∧m6 kd n es=none)∨
  ∃p,∃h:p<es.length,dX (.int kd) (.int kd n) es i=some (some (i+p,es[p].val))∧es[p].key=.int kd n∧
   ∀v,nZ kd (es.modify p fun e=>{e with key:=.int kd n,val:=v})=true∧∀q,m6 kd q (es.modify p fun e=>{e with key:=.int kd n,val:=v})=if q=n then some v else m6 kd q es
 |[],i,_=>.inl ⟨rfl,rfl⟩
 | e ::es,i,h=>by
  unfold nZ at h;split at h
  ·next kd' m hk=>
   simp only[av,decide_eq_true_eq]at h;obtain⟨rfl,h⟩:=h
   by_cases hnm:n=m
   ·subst hnm
    refine .inr ⟨0,by simp,?_,hk,fun v=>⟨?_,fun q=>?_⟩⟩
    ·unfold dX
     simp[hk,kG]
    ·simp only[je,nZ,decide_true,aH];exact h
    ·simp only[je,m6,hk]
     by_cases hq:q=n
     ·rw[if_pos hq,if_pos hq]
     ·rw[if_neg hq,if_neg hq,if_neg hq]
   ·have V:(n==m)=false:=by simpa using hnm
    have O:∀j,dX (.int kd) (.int kd n) (e::es) j=dX (.int kd) (.int kd n) es (j+1):=by
     intro j
     conv=>lhs;unfold dX
     simp[hk,kG,V]
    have M:∀r:List cD,∀q,m6 kd q (e::r)=if q=m then some e.val else m6 kd q r:=by
     intro r q
     conv=>lhs;unfold m6
     simp only[hk]
    rcases Jn kd n es (i+1) h with⟨h1,h2⟩|⟨p,hp,h1,h2,h3⟩
    ·exact .inl ⟨by rw[O,h1],by rw[M,if_neg hnm,h2]⟩
    ·refine .inr ⟨p+1,by simpa using hp,?_,by simpa using h2,fun v=>⟨?_,fun q=>?_⟩⟩
     ·rw[O,h1];simp;omega
     ·rw[jf]
      unfold nZ;simp only[hk,decide_true,aH];exact(h3 v).1
     ·rw[jf,M,M,(h3 v).2]
      by_cases hq:q=m
      ·rw[if_pos hq,if_pos hq,if_neg (fun a1:q=n=>hnm (a1.symm.trans hq))]
      ·rw[if_neg hq,if_neg hq]
  ·cases h
theorem Dz (kd:bW)(n:Int)(v:aa)(b:Nat)(q:Int):∀(es:List cD),nZ kd es=true→m6 kd n es=none→
  nZ kd (es++[{key:=.int kd n,val:=v,born:=b}])=true∧m6 kd q (es++[{key:=.int kd n,val:=v,born:=b}])=if q=n then some v else m6 kd q es
 |[],_,_=>by simp[nZ,m6]
 | e ::es,h,hne=>by
  unfold nZ at h;split at h
  ·next kd' m hk=>
   simp only[av,decide_eq_true_eq]at h;obtain⟨rfl,h⟩:=h;have M:∀r:List cD,∀q,m6 kd q (e::r)=if q=m then some e.val else m6 kd q r:=by
    intro r q
    conv=>lhs;unfold m6
    simp only[hk]
   rw[M]at hne
   by_cases hnm:n=m
   ·rw[if_pos hnm]at hne;cases hne
   ·rw[if_neg hnm]at hne
    obtain⟨i1,V⟩:=Dz kd n v b q es h hne;refine⟨?_,?_⟩
    ·rw[aY]
     unfold nZ;simp only[hk,decide_true,aH];exact i1
    ·rw[aY,M,M,V]
     by_cases hq:q=m
     ·rw[if_pos hq,if_pos hq,if_neg (fun O:q=n=>hnm (O.symm.trans hq))]
     ·rw[if_neg hq,if_neg hq]
  ·cases h
theorem kO.Vx (j:Nat){b c:Nat}{es:Array cD}{kt et:aC}{kd:bW}{n:Int}{v:aa}
  (h:(AQ P nt k e,yt L j,P.underlying kt)=(some (some (.map kt et),.map (some b),.int kd n,v),some (b,es,c),some (.int kd)))(hi:nZ kd es.toList=true)
  (hn:∀O c',nZ kd O.toList=true→(∀q,m6 kd q O.toList=if q=n then some v else m6 kd q es.toList)→
   kO P f nt (kZ k) (kX e (kW nt k e) undef) (L.set j (b,.map O c')) S w0 R):kO P f nt k e L S w0 R:=by
 simp only[af]at h;obtain⟨a9,b1,M⟩:=h;obtain⟨o,t,hc,a8,a6⟩:=LB a9;have V:=Gd b1;have a3:∀W,Mem L S w0 W→W.heap[b]?=some (.map es c):=fun W hm=>hm.here _ (bk V)
 have a4:∀W,Mem L S w0 W→(getObj b).run P W=.ok (.map es c) W:=fun W hm=>by simp[getObj,Sem.run,a3 W hm]
 have a7:∀W,Mem L S w0 W→∀o',(setObj b o').run P W=.ok () (W.putObj b o'):=fun W hm o'=>by simp[setObj,Sem.run,a3 W hm,World.putObj]
 rcases Jn kd n es.toList 0 hi with⟨f1,f2⟩|⟨p,hp,f1,f2,f3⟩
 ·refine kO.Bk hc fun W hm=>⟨W.putObj b (.map (es.push {key:=.int kd n,val:=v,born:=c}) (c+1)),?_,fun a2 a1=>hn (es.push {key:=.int kd n,val:=v,born:=c}) (c+1) ?_ (fun q=>?_) a2 _ (by simpa only[kW,hc]using a1) (hm.putObj V _)⟩
  ·rw[a6]
   simp[ig,aR,run_underlying a8,a4 W hm,xU M,gy,run_underlying M,f1,a7 W hm]
  ·rw[jR];exact(Dz kd n v c 0 es.toList hi f2).1
  ·rw[jR];exact(Dz kd n v c q es.toList hi f2).2
 ·have a5:(es.modify p fun e=>{e with key:=.int kd n,val:=v}).toList=es.toList.modify p fun e=>{e with key:=.int kd n,val:=v}:=by
   simp
  refine kO.Bk hc fun W hm=>⟨W.putObj b (.map (es.modify p fun e=>{e with key:=.int kd n,val:=v}) c),?_,fun a2 a1=>hn (es.modify p fun e=>{e with key:=.int kd n,val:=v}) c ?_ (fun q=>?_) a2 _ (by simpa only[kW,hc]using a1) (hm.putObj V _)⟩
  ·rw[a6]
   have b6:p<es.size:=by simpa using hp
   have b3:es[p].key=.int kd n:=by simpa using f2
   have b7:ky 10000 (.int kd n) (.int kd n)=true:=by simp[ky]
   have b4:(jD (.int kd n) (.int kd n)).run P W=.ok (.int kd n) W:=by unfold jD;rw[b7];rfl
   have b5:((es[p]?).map (·.key)).getD (.int kd n)=.int kd n:=by rw[Array.getElem?_eq_getElem b6];simp[b3]
   simp only[az]at f1;simp[ig,aR,run_underlying a8,a4 W hm,xU M,gy,run_underlying M,f1,a7 W hm,b5,b4]
  ·rw[a5];exact(f3 v).1
  ·rw[a5];exact(f3 v).2 q
theorem kO.QS (j:Nat){b c:Nat}{es:Array cD}{kt et:aC}{kd:bW}{n:Int}{z:aa}(u:aa)
  (h:(Cs P nt k e,yt L j,P.underlying kt,(nj P et).map (·.1))=(some (some (.map kt et),.map (some b),.int kd n,false),some (b,es,c),some (.int kd),some (some z)))(hi:nZ kd es.toList=true)
  (a7:(m6 kd n es.toList).getD z=u)(hn:kO P f nt (kZ k) (kX e (kW nt k e) u) L S w0 R):kO P f nt k e L S w0 R:=by
 simp only[af]at h;obtain⟨M,O,V,a1⟩:=h;obtain⟨o,t,hc,a6,a5⟩:=NG M;have a3:=Gd O;refine kO.op hc fun W hm=>?_
 have a2:W.heap[b]?=some (.map es c):=hm.here _ (bk a3);refine⟨u,W,?_,fun a8 a4=>hn a8 W (by simpa only[kW,hc]using a4) hm⟩;rw[a5,aR,Fo a6 V a1 a2 hi,←a7];cases m6 kd n es.toList<;>rfl
end
section
open Go Go.RowKit
abbrev IV (n:Int):aa:=.int .i64 n
abbrev SO (B:Nat):Option hO:=some ⟨B,0,none⟩
abbrev PP (B:Nat):aa:=.pointer (some ⟨B,0,none⟩)
abbrev OA:Type:=Option hO
abbrev BA:Type:=ByteArray
def D7:Nat→Nat→List Nat→List Nat
 |0,_,a=>a
 |g+1,n,a=>bif cC n 1 then a else D7 g (n/2) (n%2::a)
def uR:Code→List Nat→List bA→List bA
 | .seq a b,i::r,k=>match i with|0=>uR a r (.code b::k)|_=>uR b r k
 | .cond _ a b,i::r,k=>match i with|0=>uR a r k|_=>uR b r k
 | .block id b,_::r,k=>uR b r (.inBlock id::k)
 | .loop b,_::r,k=>uR b r (.inLoop b::k)
 | .scope b,_::r,k=>uR b r (.inScope b::k)
 |_,_,k=>k
abbrev KS (fn:fu)(n:Nat):List bA:=uR (body fn) (D7 99 n []) []
abbrev SB (fn:fu)(n:Nat):Code:=sub (body fn) (D7 99 n [])
abbrev KC (fn:fu)(n:Nat):List bA:=.code (SB fn n)::KS fn n
abbrev KR (fn:fu)(n:Nat)(l:List Nat):List bA:=.inRegion (m7 [.code (SB fn n)]) l::KS fn n
variable {P:Program}{f nt:Nat}{k:List Item}{e:Env}{L:aX}{S:List Nat}{w0:World}{R:Goal P}
theorem kO.nm (k':List bA)(e':Env)(L':aX)(hn:kO P f nt k' e' L' S w0 R)(h:(k,restrict e (e'.map (·.1)),L)=(k',some e',L'):=by kernel_rfl):kO P f nt k e L S w0 R:=kO.norm hn h
def ui (nt:Nat)(k:List bA)(e:Env):aC:=match nI nt k e with|some (T,_)=>T|none=>0
def yz (P:aB)(nt:Nat)(k:List bA)(e:Env)(L:aX)(j off:Nat):aa:=(mS P (ui nt k e) (lO L j) off).getD undef
def yP (P:aB)(nt:Nat)(k:List bA)(e:Env)(L:aX)(j off:Nat):Bool:=mc L j&&(mS P (ui nt k e) (lO L j) off).isSome
theorem CQ {j off:Nat}(O:nI nt k e=some (ui nt k e,.pointer (some ⟨k7 L j,off,none⟩)))(M:yP P nt k e L j off=true):
  (nI nt k e,mc L j,mS P (ui nt k e) (lO L j) off)=(some (ui nt k e,.pointer (some ⟨k7 L j,off,none⟩)),true,some (yz P nt k e L j off)):=by
 unfold yP at M;rw[av]at M;obtain⟨v,V⟩:=aJ.1 M.2;rw[O,M.1,yz,V];rfl
theorem kO.ld (j off:Nat)(hn:kO P f nt (kZ k) (kX e (kW nt k e) (yz P nt k e L j off)) L S w0 R)(M:nI nt k e=some (ui nt k e,.pointer (some ⟨k7 L j,off,none⟩)):=by kernel_rfl)(O:yP P nt k e L j off=true:=by kernel_rfl):kO P f nt k e L S w0 R:=kO.load j off (CQ M O) hn
theorem ly.ld {K:Env→Prop}(j off:Nat)(hn:ly P nt (kZ k) (kX e (kW nt k e) (yz P nt k e L j off)) L S w0 K)(M:nI nt k e=some (ui nt k e,.pointer (some ⟨k7 L j,off,none⟩)):=by kernel_rfl)(O:yP P nt k e L j off=true:=by kernel_rfl):ly P nt k e L S w0 K:=ly.load j off (CQ M O) hn
theorem k5.ld {ops:Array Oper}{M:Nat}{kk:List bA}(j off:Nat)(hn:k5 P f nt ops M kk (kZ k) (kX e (kW nt k e) (yz P nt k e L j off)) L S w0 R)(O:nI nt k e=some (ui nt k e,.pointer (some ⟨k7 L j,off,none⟩)):=by kernel_rfl)(V:yP P nt k e L j off=true:=by kernel_rfl):k5 P f nt ops M kk k e L S w0 R:=k5.load j off (CQ O V) hn
def DA (nt:Nat)(k:List bA)(e:Env):aC:=match q8 nt k e with|some (T,_)=>T|none=>0
def E1 (nt:Nat)(k:List bA)(e:Env):aa:=match q8 nt k e with|some (_,_,v)=>v|none=>undef
theorem kO.st (j off:Nat)(hn:kO P f nt (kZ k) (kX e (kW nt k e) undef) (oP L j (tC P (DA nt k e) (lO L j) off (E1 nt k e))) S w0 R)
  (h:(q8 nt k e,mc L j,nD L j,vi P (DA nt k e) (lO L j) off (E1 nt k e))=(some (DA nt k e,.pointer (some ⟨k7 L j,off,none⟩),E1 nt k e),true,(0,0),true):=by kernel_rfl):kO P f nt k e L S w0 R:=kO.store j off h hn
theorem kO.cl {g:bO}{args:Array aa}{L1:aX}{K:aa→aX→Prop}(h:eA P g args L1 S w0 K)(hn:∀v L',K v L'→kO P f nt (kZ k) (kX e (kW nt k e) v) L' S w0 R)
  (M:∀W,(execOp (kV e) (lq nt k e)).run P W=.ok (.enter g args) W:=by intro W;kernel_rfl)(hc:(cur nt k e,L)=(some (lq nt k e),L1):=by kernel_rfl):kO P f nt k e L S w0 R:=kO.call g args M hc h hn
theorem kO.sP (i:Nat){p:Prop}[Decidable p]{A B:Prop}(H:(p→A)∧(¬p→B))(O:A→kO P f nt k ((i,.bool true)::e) L S w0 R)(M:B→kO P f nt k ((i,.bool false)::e) L S w0 R)
  (h:get? e i=some (.bool (decide p)):=by kernel_rfl):kO P f nt k e L S w0 R:=kO.Pg i h (fun hp=>O (H.1 hp)) (fun hp=>M (H.2 hp))
theorem kO.sN (i:Nat){p:Prop}[Decidable p]{A B:Prop}(H:(¬p→A)∧(p→B))(O:A→kO P f nt k ((i,.bool true)::e) L S w0 R)(M:B→kO P f nt k ((i,.bool false)::e) L S w0 R)
  (h:get? e i=some (.bool (!decide p)):=by kernel_rfl):kO P f nt k e L S w0 R:=kO.DY i h (fun hp=>O (H.1 hp)) (fun hp=>M (H.2 hp))
theorem kO.sB (i:Nat){b:Bool}{A B:Prop}(H:(b=true→A)∧(b=false→B))(O:A→kO P f nt k ((i,.bool true)::e) L S w0 R)(M:B→kO P f nt k ((i,.bool false)::e) L S w0 R)
  (h:get? e i=some (.bool b):=by kernel_rfl):kO P f nt k e L S w0 R:=kO.split i h (fun hp=>O (H.1 hp)) (fun hp=>M (H.2 hp))
theorem kO.rt {R:bJ→aj→Prop}{fn:fu}{v:aa}{L1:aX}(M:P.funcs[f]?=some fn)(h:Fin R L1 S w0 v)(O:(oX k,rq e fn.results.toList,L)=(true,some v,L1):=by kernel_rfl):kO P f nt k e L S w0 (lN R):=kO.ret M O h
theorem kO.nw (M:Nat→aa)(o:Obj)(hn:∀B,kO P f nt (kZ k) (kX e (kW nt k e) (M B)) (L++[(B,o)]) S w0 R)
  (h:∀W,(execOp (kV e) (lq nt k e)).run P W=.ok (.value (M W.heap.size)) {W with heap:=W.heap.push o}:=by intro W;kernel_rfl)(hc:cur nt k e=some (lq nt k e):=by kernel_rfl):kO P f nt k e L S w0 R:=kO.new M o h hc hn
theorem kO.np (o:Obj)(hn:∀B,kO P f nt (kZ k) (kX e (kW nt k e) (.pointer (some ⟨B,0,none⟩))) (L++[(B,o)]) S w0 R)
  (h:∀W,(execOp (kV e) (lq nt k e)).run P W=.ok (.value (.pointer (some ⟨W.heap.size,0,none⟩))) {W with heap:=W.heap.push o}:=by intro W;kernel_rfl)(hc:cur nt k e=some (lq nt k e):=by kernel_rfl):kO P f nt k e L S w0 R:=kO.new (fun B=>.pointer (some ⟨B,0,none⟩)) o h hc hn
theorem kO.nH (o:Obj){A:Nat→Prop}(H:∀B,A B)(hn:∀B,A B→kO P f nt (kZ k) (kX e (kW nt k e) (.pointer (some ⟨B,0,none⟩))) (L++[(B,o)]) S w0 R)
  (h:∀W,(execOp (kV e) (lq nt k e)).run P W=.ok (.value (.pointer (some ⟨W.heap.size,0,none⟩))) {W with heap:=W.heap.push o}:=by intro W;kernel_rfl)(hc:cur nt k e=some (lq nt k e):=by kernel_rfl):kO P f nt k e L S w0 R:=kO.np o (fun B=>hn B (H B)) h hc
theorem kO.cs (nt:Nat){fn:fu}{args:List aa}{W:aj}{R:bJ→aj→Prop}(O:P.funcs[f]?=some fn)(hm:Mem L S w0 W)
  (h:kO P f nt [.code (body fn)] (qY 0 args) L S w0 (lN R))(M:(fn.body.isSome,fn.ntmps,cC args.length nt)=(true,nt,true):=by kernel_rfl):Calls P f ⟨args⟩ W R:=kO.calls O M hm h
theorem kO.lI (i:Nat){n:Int}{A:Int→Prop}(H:∀x,x=n→A x)(hn:∀x,A x→kO P f nt k ((i,.int .i64 x)::e) L S w0 R)(h:get? e i=some (.int .i64 n):=by kernel_rfl):kO P f nt k e L S w0 R:=
 kO.letI i h fun x M=>hn x (H x M)
theorem kO.il (g:bO)(args:List aa)(M:Nat){fn:fu}(V:P.funcs[g]?=some fn)(hn:kO P g M [.code (body fn)] (qY 0 args) L S w0 (lN (uT P f nt (kZ k) e (kW nt k e) S w0 R)))
  (a1:∀W,(execOp (kV e) (lq nt k e)).run P W=.ok (.enter g ⟨args⟩) W:=by intro W;kernel_rfl)(hc:cur nt k e=some (lq nt k e):=by kernel_rfl)(O:(fn.body.isSome,fn.ntmps,cC args.length M)=(true,M,true):=by kernel_rfl):kO P f nt k e L S w0 R:=
 kO.inl g ⟨args⟩ a1 hc fun W hm=>kO.calls V O hm hn
theorem kO.rk {f' V:Nat}{k':List bA}{e':Env}{d:Option Tmp}{fn:fu}(a1:P.funcs[f]?=some fn)(h:kO P f' V k' (kX e' d ((rq e fn.results.toList).getD undef)) L S w0 R)
  (M:(oX k,(rq e fn.results.toList).isSome)=(true,true):=by kernel_rfl):kO P f nt k e L S w0 (lN (uT P f' V k' e' d S w0 R)):=by
 simp only[af]at M;obtain⟨v,O⟩:=aJ.1 M.2;rw[O]at h;exact kO.WM a1 (by rw[M.1,O];rfl) h
theorem kO.ct (M:List Nat){k':List bA}{e':Env}{L':aX}(hn:kO P f nt k' e' L' S w0 R)(h:(k,restrict e (e'.map (·.1)),nE L M,o5 M)=(k',some e',L',true):=by kernel_rfl):kO P f nt k e L S w0 R:=kO.cut M hn h
theorem m8.nm {ops:Array Oper}{n:Nat}{kk:List bA}(e':Env)(L':aX)(hn:m8 P f nt ops n kk e' L' S w0 R)(h:(restrict e (e'.map (·.1)),L)=(some e',L'):=by kernel_rfl):m8 P f nt ops n kk e L S w0 R:=m8.norm hn h
theorem kO.tT (M:List Nat)(m:Nat){k':List bA}{e':Env}{L':aX}(hn:kO P f nt k' e' L' S w0 R)(h:(k,restrict e (e'.map (·.1)),nE (L.take m) M++L.drop m,o5 M)=(k',some e',L',true):=by kernel_rfl):kO P f nt k e L S w0 R:=kO.rB M m hn h
theorem ly.dn {K:Env→Prop}(hn:K e)(h:Cj k=true:=by kernel_rfl):ly P nt k e L S w0 K:=ly.done h hn
section
variable {ops:Array Oper}{n:Nat}{kk:List Item}
theorem k5.dn (hn:kO P f nt (wI ops n kk) e L S w0 R)(h:k=[.inRegion ops []]:=by kernel_rfl):k5 P f nt ops n kk k e L S w0 R:=k5.done h hn
theorem kO.dr (n:Nat)(h:k5 P f nt (m7 k) n (uK k) (qK (m7 k) n) e L S w0 R)(M:(sm k,P.follows .mixedOrders,xA (m7 k) n)=(true,true,true):=by kernel_rfl):kO P f nt k e L S w0 R:=kO.draw n M h
theorem kO.dD (h:m8 P f nt (m7 k) 0 (uK k) e L S w0 R)(M:(sm k,P.follows .mixedOrders)=(true,true):=by kernel_rfl):kO P f nt k e L S w0 R:=kO.Jp M h
theorem m8.tl (hn:kO P f nt (wI ops n kk) e L S w0 R)(h:Region.seqB .any ops (ops.size-n) n (py n ops.size)=true:=by kernel_rfl):m8 P f nt ops n kk e L S w0 R:=m8.tail h hn
theorem m8.ph {n1:Nat}(n:Nat)(F M:List Nat)(L0:aX){L1:aX}(h:ly P nt [.inRegion ops F] e L0 S w0 fun O=>lZ P f nt ops n kk L0 [.inRegion ops M] O L S w0 R)(a1:yD ops n1 n e F M=true:=by kernel_rfl)(V:L=L0++L1:=by rfl):m8 P f nt ops n1 kk e L S w0 R:=m8.phase n F M L0 a1 V h
end
theorem ly.cl {K:Env→Prop}{g:bO}{args:Array aa}{v:aa}{L1:aX}(h:m3 P g args L1 S w0 v)(hn:ly P nt (kZ k) (kX e (kW nt k e) v) L1 S w0 K)
  (M:∀W,(execOp (kV e) (lq nt k e)).run P W=.ok (.enter g args) W:=by intro W;kernel_rfl)(hc:(cur nt k e,L)=(some (lq nt k e),L1):=by kernel_rfl):ly P nt k e L S w0 K:=ly.call g args M hc h hn
theorem ly.sk {K:Env→Prop}(hn:ly P nt (kZ k) (kX e (oA nt k e) undef) L S w0 K)(h:ry nt k e=some (oA nt k e):=by kernel_rfl):ly P nt k e L S w0 K:=ly.skip h hn
section
variable {ops:Array Oper}{n:Nat}{kk:List Item}{L0:aX}
theorem k5.sk (hn:k5 P f nt ops n kk (kZ k) (kX e (oA nt k e) undef) L S w0 R)(h:ry nt k e=some (oA nt k e):=by kernel_rfl):k5 P f nt ops n kk k e L S w0 R:=k5.skip h hn
theorem k5.cl {g:bO}{args:Array aa}{v:aa}{L1:aX}(h:lV P g args L1 S w0 v)(hn:k5 P f nt ops n kk (kZ k) (kX e (kW nt k e) v) L S w0 R)
  (M:∀W,(execOp (kV e) (lq nt k e)).run P W=.ok (.enter g args) W:=by intro W;kernel_rfl)(hc:(cur nt k e,L)=(some (lq nt k e),L1):=by kernel_rfl):k5 P f nt ops n kk k e L S w0 R:=k5.call g args M hc h hn
theorem lZ.cl {L1:aX}{g:bO}{args:Array aa}{M:aX}{K:aa→aX→Prop}(h:eA P g args M S w0 K)(hn:∀v L',K v L'→lZ P f nt ops n kk L0 (kZ k) (kX e (kW nt k e) v) L' S w0 R)(O:L=L0++L1:=by rfl)
  (V:∀W,(execOp (kV e) (lq nt k e)).run P W=.ok (.enter g args) W:=by intro W;kernel_rfl)(hc:(cur nt k e,L)=(some (lq nt k e),M):=by kernel_rfl):lZ P f nt ops n kk L0 k e L S w0 R:=lZ.call L1 g args O V hc h hn
theorem lZ.dn {L1:aX}(hn:m8 P f nt ops n kk e L S w0 R)(h:k=[.inRegion ops []]:=by kernel_rfl)(M:L=L0++L1:=by rfl):lZ P f nt ops n kk L0 k e L S w0 R:=lZ.done L1 h M hn
end
abbrev Br (p A B:Prop):Prop:=(p→A)∧(¬p→B)
abbrev Bn (p A B:Prop):Prop:=(¬p→A)∧(p→B)
abbrev Bb (b:Bool)(A B:Prop):Prop:=(b=true→A)∧(b=false→B)
end
open Go Go.RowKit
theorem kS {x:Int}(h: -9223372036854775808≤x∧x≤9223372036854775807):IntKind.i64.wrap x=x:=by rw[IntKind.wrap_i64];omega
theorem oZ {x:Int}(h:0≤x∧x<18446744073709551616):bs.wrap x=x:=by rw[IntKind.wrap_u64];omega
theorem Cg {x:Int}(h:0≤x∧x<4294967296):fN.wrap x=x:=by rw[IntKind.wrap_u32];omega
theorem AI {x:Int}(h:0≤x∧x<256):IntKind.u8.wrap x=x:=by rw[IntKind.wrap_u8];omega
theorem Ac (n x:Nat):(db n (x:Int)).toNat=x%2^n:=by
 rw[BitVec.toNat_ofInt,←Int.natCast_emod,ai]
theorem Xx {x y:Nat}(O:x<2^64)(V:y<2^64):M3 .u64 (x:Int) (y:Int)=((x|||y:Nat):Int):=by
 have h:x|||y<2^64:=Nat.or_lt_two_pow O V
 have e1:x%2^64=x:=dB (by omega);have M:y%2^64=y:=dB (by omega);have e:(db 64 (x:Int)|||db 64 (y:Int)).toNat=x|||y:=by
  rw[BitVec.toNat_or,Ac,Ac,e1,M]
 show bs.wrap ((db 64 (x:Int)|||db 64 (y:Int)).toNat:Int)=_;rw[e,oZ (by omega)]
theorem ym {x y:Nat}(O:x<2^32)(V:y<2^32):qL .u32 (x:Int) (y:Int)=((x^^^y:Nat):Int):=by
 have h:x^^^y<2^32:=Nat.xor_lt_two_pow O V;have e1:x%2^32=x:=dB (by omega);have M:y%2^32=y:=dB (by omega);have e:(db 32 (x:Int)^^^db 32 (y:Int)).toNat=x^^^y:=by
  rw[BitVec.toNat_xor,Ac,Ac,e1,M]
 show fN.wrap ((db 32 (x:Int)^^^db 32 (y:Int)).toNat:Int)=_;rw[e,Cg (by omega)]
theorem X0 {z w m:Nat}(M:z<2^m):z|||w*2^m=z+w*2^m:=by
 have:=Nat.two_pow_add_eq_or_of_lt M w;rw[Nat.or_comm,Nat.mul_comm,←this];omega
theorem su (x m:Nat):((x:Int).tmod (m:Int))=((x%m:Nat):Int):=(Int.ofNat_tmod x m).symm
theorem zj (x m:Nat):((x:Int).tdiv (m:Int))=((x/m:Nat):Int):=(Int.ofNat_tdiv x m).symm
theorem Pa (x m:Nat):((x:Int).fdiv (m:Int))=((x/m:Nat):Int):=by
 rw[Int.fdiv_eq_ediv_of_nonneg _ (by omega)];simp
theorem uM {s:ByteArray}{i:Nat}(h:i<s.data.toList.length):k8 s (i:Int)=((s.data.toList[i]).toNat:Int):=by
 simp only[k8,ai,ar h,eR]
theorem sh {S:List Nat}{w0 W:aj}{b:Nat}{c:List aa}(h:Kept S w0 W)(M:b∉S)(hc:lG w0 b=some c):lG W b=some c:=by
 have O:b<w0.heap.size:=by
  rcases Nat.lt_or_ge b w0.heap.size with h|h
  ·exact h
  ·rw[lG,Array.getElem?_eq_none h]at hc;cases hc
 rw[lG,h.block b O M];exact hc
def yF (P:aB)(g:bO)(args:Array aa)(b:Nat)(c:List aa)(v:aa):Prop:=
 ∀W,lG W b=some c→Calls P g args W fun e W'=>e=.returned v∧Below W.heap.size W W'
theorem eA.tZ {P:aB}{L:aX}{S:List Nat}{w0:aj}{g:bO}{args:Array aa}{v:aa}{K:aa→aX→Prop}{b:Nat}{c:List aa}
  (h:yF P g args b c v)(V:b∉S)(hc:lG w0 b=some c)(O:K v L):eA P g args L S w0 K:=
 fun W hm=>(h W (sh hm.kept V hc)).mono fun _ _ M=>⟨v,L,M.1,hm.after M.2,O⟩
theorem yes {p A B:Prop}(h:p)(a:A):(p→A)∧(¬p→B):=⟨fun _=>a,fun n=>absurd h n⟩
theorem no {p A B:Prop}(h:¬p)(a:A):(p→B)∧(¬p→A):=⟨fun n=>absurd n h,fun _=>a⟩
theorem tt {b:Bool}{A B:Prop}(h:b=true)(a:A):(b=true→A)∧(b=false→B):=⟨fun _=>a,fun n=>Bool.noConfusion (h.symm.trans n)⟩
open Go.ChangeShapes Go.WideShapes
theorem Jh {H:Type}{enc:aC×aa→H}{P:aB}{W V:aj}(a2:laidOutB P=true)(a1:Below W.heap.size W V):
  ∀(M:List aC) (vs:List aa) (ds:List (jZ H)) (p:List gb),M.all (fun t=>P.readableRec t&&decide (t<P.types.size))=true→(∀x∈p,x.block<W.heap.size)→
  gl enc P W 0 (fun _=>true) true M vs ds p→gl enc P V 0 (fun b=>decide (b<W.heap.size)) true M vs ds p
 |[],vs,ds,p,_,_,h=>by
  obtain⟨rfl,rfl,rfl⟩:=trodAll_nil h;exact trodAll_mk0
 |t::M,vs,ds,p,ht,hlt,h=>by
  obtain⟨v,a6,d,a3,p1,q,rfl,rfl,rfl,a4,a5⟩:=trodAll_cons h;simp only[List.all_cons,av,decide_eq_true_eq]at ht;exact trodAll_cons_mk (Below.trod a2 ht.1.1 ht.1.2 a4 a1 (fun x O=>hlt x (ay _ O))) (Jh a2 a1 M a6 a3 q ht.2 (fun x O=>hlt x (List.mem_append_right _ O)) a5)
theorem Uu {H:Type}{enc:aC×aa→H}{C:Checked}{os:Os}{f:bO}{fn:fu}{s:ChangeSpec}{M:Bool}{X:aj→Prop}{tb:aC}
  (own:ownKnob C.prog.godebug=none)(d1:os.Started)(d0:C.prog.inits.idxOf? f=none)(b9:C.prog.funcs[f]?=some fn)
  (b4:∀(w w':aj),w.heap=w'.heap→X w→X w')
  (d3:∃(w:aj) (tape:Tape) (i:Input),w.os=os∧(w.forCall tape i).Shaped C.prog∧i.vars=[]∧Input.okWide C.prog (w.forCall tape i) .any w.heap.size f i∧
   ((s.pre enc C.prog fn [] M (w.forCall tape i).memory i.args∧X (w.forCall tape i).memory)∧sizedMet enc C.prog fn (jg s) M (w.forCall tape i).memory i.args)∧({}:Assume).holds C.prog (lone (Frame.enter C.prog f i.args .normal) [] (w.forCall tape i)))
  (b1:s.vars=[])(c7:∀ds:List (jZ H),ds.length=fn.params.toList.length→s.fn H ds={results:=[.lit (.bool true)],args:=ds})
  (c6:fn.resultTypes= #[tb])(b6:C.prog.underlying tb=some .bool)(c3:laidOutB C.prog=true)(c5:fn.params.toList.all (fun t=>C.prog.readableRec t&&decide (t<C.prog.types.size))=true)
  (d2:∀(W:aj) (base:Nat) (args:List aa) (ds:List (jZ H)) (p:List gb),(∀(j:Nat) t v,fn.params[j]?=some t→args[j]?=some v→Value.okWide C.prog W .any base t v)→
   gl enc C.prog W 0 (fun _=>true) true fn.params.toList args ds p→X W→Calls C.prog f ⟨args⟩ W fun e a4=>e=.returned (.bool true)∧Below W.heap.size W a4):
  ReturnsInHanded {} C os f .any (fun w args=>(s.pre enc C.prog fn [] M w args∧X w)∧sizedMet enc C.prog fn (jg s) M w args)
   (s.post enc C.prog fn M true false false):=by
 refine returnsInHanded_of_change_and (C:=C) (X:=fun w _=>X w) (fun _ _ _ a2 h=>b4 _ _ a2 h) own d1 d0 b9 d3 ?_;intro W base args ds d6 d4 c8 a7 d7 _ b3 _;have a8:=a7;obtain⟨p,q,a1,a6,rfl,d8,d9⟩:=a7;rw[b1]at a6;obtain⟨rfl,rfl⟩:=trodVars_none a6;have c2:ds.length=fn.params.toList.length:=by
  have:∀(O:List aC) (vs:List aa) (ds:List (jZ H)) (p:List gb),gl enc C.prog W 0 (fun _=>true) true O vs ds p→ds.length=O.length:=by
   intro O;induction O with
   |nil=>intro vs ds p h;obtain⟨_,rfl,_⟩:=trodAll_nil h;rfl
   |cons t O ih=>intro vs ds p h;obtain⟨v,e2,d,d5,p1,q,rfl,rfl,rfl,a5,V⟩:=trodAll_cons h;simp[ih _ _ _ V]
  exact this _ _ _ _ a1
 have c4:∀x∈p,x.block<W.heap.size:=fun x c9=>a8.lt x (ay _ c9)
 have b5:(⟨args.toList⟩:Array aa)=args:=rfl;refine((b5▸d2 W base args.toList ds p (fun j t v a5 V=>c8 j t v a5 (by simpa using V)) a1 b3)).mono fun e a4 a2=>?_
 obtain⟨b7,a9⟩:=a2;subst b7;have a3:s.fn H (ds++[])={results:=[.lit (.bool true)],args:=ds}:=by rw[List.append_nil];exact c7 ds c2
 refine⟨_,rfl,ds,[],p++[],[],p,[],a8,?_,?_,?_,a9.frame _,fun h=>by cases h⟩
 ·rw[a3,c6]
  exact trodAll_mk1 (shut_bool b6 true)
 ·rw[a3]
  exact Jh c3 a9 _ _ _ _ c5 c4 a1
 ·rw[a3,b1];rfl
theorem P3 {H:Type}{enc:aC×aa→H}{P:aB}{w:aj}{base:Nat}{sp:Nat→Bool}{held:Bool}{a3:Nat}{t e:aC}{kd:bW}{cs:List aa}{ns:List Int}{ps:List gb}
  (a8:P.underlying t=some (.array ns.length e))(a6:P.underlying e=some (.int kd))(hc:P.cellsOf e=1)(a5:P.cellsOf t=ns.length)
  (h:gr enc P w base sp held a3 t cs=some (.agg (ns.map fun n=>.lit (.int kd n)),ps)):cs=ns.map fun n=>.int kd n:=by
 obtain⟨a2,m,rfl,a1,a7,b1,hi⟩:=DataW.trod_array a8 h;simp only[af,DataW.agg.injEq]at a1;rw[a5]at a7;apply eX;intro i
 by_cases hlt:i<ns.length
 ·have M:=hi i hlt
  rw[hc,Nat.mul_one]at M;have V:i<a2.length:=by rw[b1];exact hlt
  rw[ar V]at M;obtain⟨n,hcs,a9,_⟩:=kz a6 M;have O:(a2.map (·.1))[i]?=some (.lit (.int kd n)):=by rw[bP,ar V,bL,a9]
  rw[←a1.1,bP,ar hlt,bL]at O;simp only[al,DataW.lit.injEq,Lit.int.injEq,true_and]at O;have a4:cs[i]?=some (.int kd n):=by
   have:((cs.drop i).take 1)[0]?=some (.int kd n):=by rw[hcs];rfl
   rw[bh (by decide),cd]at this;simpa using this
  rw[a4,bP,ar hlt,bL,O]
 ·rw[cQ (by omega),cQ (by simp;omega)]
section
open Go.ChangeMaps
variable {H:Type}{enc:TypeId×Value→H}{P:Program}{w:World}{base:Nat}{sp:Nat→Bool}{held:Bool}
theorem UD {W:aj}{a:hO}{n:Nat}{g:Nat→aa}(h:∀i,i<n→W.cell? (a.add i)=some (g i))(hn:0<n):
  ∃c:List aa,a=⟨a.block,a.off,none⟩∧lG W a.block=some c∧∀i,i<n→c[a.off+i]?=some (g i):=by
 have M:=h 0 hn;have a2:a.add 0=a:=if_pos rfl;rw[a2]at M;unfold World.cell? at M;split at M
 ·next c t fz hh=>
  have a1:a.spot=none:=by
   cases V:a.spot with
   |none=>rfl
   |some x=>rw[V]at M;simp at M
  refine⟨c.toList,by cases a;simp at a1;rw[a1],by rw[lG,hh],fun i hi=>?_⟩;have O:=h i hi;unfold World.cell? at O;have a3:(a.add i).block=a.block:=by unfold gL;split<;>rfl
  have a4:(a.add i).off=a.off+i:=by unfold gL;split<;>simp_all
  have V:(a.add i).spot=none:=by unfold gL;split<;>simp_all
  rw[a3,hh,V]at O;simp only[Option.isSome_none,Bool.false_eq_true,if_false,a4]at O;rw[Array.getElem?_toList];exact O
 ·cases M
end
section
open Go.ChangeMaps
abbrev Lk:=Nat→List aa→Prop
def kY (w:aj):Lk:=fun b c=>lG w b=some c
def pb {α:Type}(lk:Lk)(sz:Nat)(Φ:List aa→α→Prop)(p:Option hO)(l:List α):Prop:=
 0<l.length→∃(b o:Nat) (c:List aa),p=some ⟨b,o,none⟩∧lk b c∧∀i (h:i<l.length),o+i*sz+sz≤c.length∧Φ ((c.drop (o+i*sz)).take sz) l[i]
theorem pb.get {α:Type}{lk:Lk}{sz:Nat}{Φ:List aa→α→Prop}{p:Option hO}{l:List α}(h:pb lk sz Φ p l){i:Nat}(hi:i<l.length):
  ∃(b o:Nat) (c:List aa),p=some ⟨b,o,none⟩∧lk b c∧o+i*sz+sz≤c.length∧Φ ((c.drop (o+i*sz)).take sz) l[i]:=by
 obtain⟨b,o,c,O,V,M⟩:=h (by omega);exact⟨b,o,c,O,V,(M i hi).1,(M i hi).2⟩
theorem pb.nil {α:Type}{lk:Lk}{sz:Nat}{Φ:List aa→α→Prop}{p:Option hO}:pb lk sz Φ p []:=fun h=>absurd h (by simp)
theorem Vc {w:aj}{a:hO}{n:Nat}{cs:List aa}(hn:0<n)(h:w.cells? 0 a n=some cs):
  ∃c:List aa,a=⟨a.block,a.off,none⟩∧lG w a.block=some c∧a.off+n≤c.length∧cs=(c.drop a.off).take n:=by
 obtain⟨_,a3,a2⟩:=World.cells?_some h;have a1:∀i,i<n→w.cell? (a.add i)=some ((fun i=>(cs[i]?).getD (.bool false)) i):=by
  intro i hi;rw[a2 i hi];simp only;rw[ar (by omega),eR]
 obtain⟨c,O,V,M⟩:=UD a1 hn;refine⟨c,O,V,?_,?_⟩
 ·have:=M (n-1) (by omega)
  have:=(List.getElem?_eq_some_iff.1 this).1;omega
 ·apply eX
  intro i
  by_cases hi:i<n
  ·rw[bh hi,cd,M i hi]
   rw[ar (by omega),eR]
  ·rw[cQ (by omega),cQ (by simp;omega)]
theorem Rj (a:hO)(j:Nat):(a.add j).off=a.off+j:=by
 unfold gL;split<;>simp_all
def qG {H:Type}(enc:aC×aa→H)(P:aB)(w:aj)(t:aC){α:Type}(Φ:List aa→α→Prop):Prop:=
 ∀fuel cs x,gr enc P w 0 (fun _=>true) true fuel t cs=some x→∃a,Φ cs a
variable {H:Type}{enc:TypeId×Value→H}{P:Program}{w:World}{t e:TypeId}
def EL (kd:bW)(cs:List aa)(n:Int):Prop:=cs=[.int kd n]∧(Lit.int kd n).wf=true
def ED (cs:List aa)(s:ByteArray):Prop:=cs=[.string s]∧s.size≤maxLen
def KO {α:Type}(lk:Lk)(sz:Nat)(Φ:List aa→α→Prop)(cs:List aa)(l:List α):Prop:=
 ∃(p:Option hO) (n c:Nat),cs=[.slice p n c]∧l.length=n∧n≤c∧c≤maxLen∧(p=none→n=0∧c=0)∧pb lk sz Φ p l
theorem qQ {kd:bW}(M:P.underlying t=some (.int kd)):qG enc P w t (EL kd):=by
 intro V cs x h;obtain⟨n,rfl,_,O⟩:=kz M h;exact⟨n,rfl,O⟩
theorem D0 (O:P.underlying t=some .string):qG enc P w t ED:=by
 intro V cs x h;obtain⟨s,rfl,_,M⟩:=DataW.trod_string O h;exact⟨s,rfl,M⟩
theorem Ns {α:Type}{Q:Nat→α→Prop}:∀n:Nat,(∀i,i<n→∃a,Q i a)→∃l:List α,l.length=n∧∀i (h:i<l.length),Q i l[i]
 |0,_=>⟨[],rfl,fun i h=>absurd h (by simp)⟩
 | n+1,h=>by
  obtain⟨l,M,V⟩:=Ns n (fun i hi=>h i (by omega));obtain⟨a,O⟩:=h n (by omega);refine⟨l++[a],by simp[M],fun i hi=>?_⟩
  by_cases hc:i<l.length
  ·rw[List.getElem_append_left hc];exact V i hc
  ·have:i=n:=by simp at hi;omega
   subst this;rw[List.getElem_append_right (by omega)];simpa[M]using O
theorem yd {α:Type}{Φ:List aa→α→Prop}{sz:Nat}(b7:P.underlying t=some (.slice e))(hc:P.cellsOf e=sz)(hp:0<sz)(b3:qG enc P w e Φ):qG enc P w t (KO (kY w) sz Φ):=by
 intro c3 cs x h;rcases DataW.trod_slice b7 h with⟨rfl,_⟩|⟨a,len,cap,elems,rest,n,_,rfl,_,_,hl,hm,hlen,hel,_,_⟩
 ·exact⟨[],none,0,0,rfl,rfl,Nat.le_refl _,Nat.zero_le _,fun _=>⟨rfl,rfl⟩,pb.nil⟩
 ·rw[hc]at hel
  have a6:∀i,i<len→∃y,∃c:List aa,(a.add (i*sz))=⟨a.block,a.off+i*sz,none⟩∧lG w a.block=some c∧a.off+i*sz+sz≤c.length∧Φ ((c.drop (a.off+i*sz)).take sz) y:=by
   intro i hi;have a1:=hel i hi;rw[ar (by omega),Option.bind_eq_some_iff]at a1;obtain⟨c2,b1,a2⟩:=a1;obtain⟨c,e1,M,O,rfl⟩:=Vc hp b1;have a3:(a.add (i*sz)).block=a.block:=by unfold gL;split<;>rfl
   have a4:(a.add (i*sz)).off=a.off+i*sz:=Rj a _;rw[a3,a4]at e1;rw[a3]at M;rw[a4]at O a2;obtain⟨y,b9⟩:=b3 _ _ _ a2;exact⟨y,c,e1,M,O,b9⟩
  obtain⟨l,b4,a5⟩:=Ns len a6;refine⟨l,some a,len,cap,rfl,b4,hl,hm,(fun h=>by cases h),fun b5=>?_⟩;obtain⟨c,e1,M,_,_⟩:=a5 0 b5;have b6:a=⟨a.block,a.off,none⟩:=by
   have a9:a.add 0=a:=by simp[gL]
   rw[Nat.zero_mul,a9]at e1;exact e1
  refine⟨a.block,a.off,c,by rw[←b6],M,fun i hi=>?_⟩;obtain⟨c',_,V,a7,a8⟩:=a5 i hi;have:c'=c:=by rw[M]at V;exact(bY V).symm
  subst this;exact⟨a7,a8⟩
theorem NB {fs:Array Field}{O:Nat}{cs:List aa}{x:jZ H×List gb}(a2:P.underlying t=some (.struct fs))(h:gr enc P w 0 (fun _=>true) true O t cs=some x):
  cs.length=P.cellsOf t∧∀(i:Nat) (f:Field),fs[i]?=some f→∀{α:Type} {Φ:List aa→α→Prop},qG enc P w f.type Φ→∃a,Φ ((cs.drop f.offset).take (P.cellsOf f.type)) a:=by
 obtain⟨a5,n,_,_,a1,a4,V⟩:=DataW.trod_struct a2 h;refine⟨a1,fun i f hi α Φ ho=>?_⟩;have M:=V i f hi;have a3:i<fs.size:=(Array.getElem?_eq_some_iff.1 hi).1;rw[ar (by omega)]at M;exact ho _ _ _ M
theorem BS {fs:Array Field}{M:Nat}{cs:List aa}{x:jZ H×List gb}(O:P.underlying t=some (.struct fs))(h:gr enc P w 0 (fun _=>true) true M t cs=some x){n:Nat}(hn:P.cellsOf t=n):cs.length=n:=by
 rw[←hn];exact(NB O h).1
theorem oL {fs:Array Field}{O:Nat}{cs:List aa}{x:jZ H×List gb}(a1:P.underlying t=some (.struct fs))(h:gr enc P w 0 (fun _=>true) true O t cs=some x)(i M off n:Nat)
  (hi:(fs[i]?).map (fun f=>(f.type,f.offset))=some (M,off))(hn:P.cellsOf M=n){α:Type}{Φ:List aa→α→Prop}(V:qG enc P w M Φ):∃a,Φ ((cs.drop off).take n) a:=by
 cases hf:fs[i]? with
 |none=>rw[hf]at hi;cases hi
 |some f=>
  rw[hf]at hi;simp only[bL,al,af]at hi;obtain⟨rfl,rfl⟩:=hi;subst hn;exact(NB a1 h).2 i f hf V
theorem UK {α:Type}{Φ:List aa→α→Prop}{r:Reach}{b0:Nat}{v:aa}{d:jZ H}{ps:List gb}{sz:Nat}(V:P.underlying t=some (.slice e))(hc:P.cellsOf e=sz)(hp:0<sz)(a5:qG enc P w e Φ)
  (a7:Value.okWide P w r b0 t v)(a4:DataW.Trod enc P w 0 (fun _=>true) true t v d ps):
  ∃(l:List α) (p:Option hO) (c:Nat),v=.slice p l.length c∧l.length≤c∧c≤maxLen∧(p=none→l.length=0∧c=0)∧pb (kY w) sz Φ p l:=by
 obtain⟨p,n,c,rfl⟩:=okWide_slice V a7;obtain⟨a8,a6⟩:=a4;obtain⟨l,p',n',c',M,O,a9,a1,a2,a3⟩:=yd V hc hp a5 _ _ _ a6;simp only[Value.cells,bM,Value.slice.injEq,and_true]at M;obtain⟨rfl,rfl,rfl⟩:=M;exact⟨l,p,c,by rw[O],by omega,a1,by rw[O];exact a2,a3⟩
end
section
structure xm (P:aB) where
 f:Nat
 fn:fu
 hf:P.funcs[f]?=some fn
abbrev fd {P:aB}{f:Nat}{fn:fu}(h:P.funcs[f]?=some fn):xm P:=⟨f,fn,h⟩
structure Fr (P:aB) where
 d:xm P
 k:List bA
 e:Env
 x:Option Tmp
structure Qd where
 ops:Array Oper
 n:Nat
 kk:List bA
structure St (P:aB) where
 d:xm P
 k:List bA
 e:Env
 L:aX
 q:Option Qd
 fr:List (Fr P)
structure Cx where
 P:aB
 S:List Nat
 w0:aj
 R:bJ→aj→Prop
abbrev St.nt {P:aB}(s:St P):Nat:=s.d.fn.ntmps
def goal (C:Cx):List (Fr C.P)→Goal C.P
 |[]=>lN C.R
 |x::r=>lN (uT C.P x.d.f x.d.fn.ntmps x.k x.e x.x C.S C.w0 (goal C r))
def J (C:Cx)(s:St C.P):Prop:=match s.q with
 |none=>kO C.P s.d.f s.nt s.k s.e s.L C.S C.w0 (goal C s.fr)
 |some q=>k5 C.P s.d.f s.nt q.ops q.n q.kk s.k s.e s.L C.S C.w0 (goal C s.fr)
structure VC (C:Cx):Type 1 where
 pr:Prop
 T:Type
 l:St C.P→T
 N:T→T
 ok:∀s,l s=N (l s)→pr→J C s
structure KT (C:Cx):Type 1 where
 pr:aa→aX→Prop
 T:Type
 l:(aa→aX→St C.P)→T
 N:T→T
 ok:∀b,l b=N (l b)→∀v L',pr v L'→J C (b v L')
variable {C:Cx}
abbrev St.nx {P:aB}(s:St P)(v:aa):St P:={s with k:=kZ s.k,e:=kX s.e (kW s.nt s.k s.e) v}
abbrev St.hp {P:aB}(s:St P)(v:aa)(L:aX):St P:={s with k:=kZ s.k,e:=kX s.e (kW s.nt s.k s.e) v,L:=L}
def uL (b off:Nat):aa:=.pointer (some ⟨b,off,none⟩)
def mG:aa→Nat
 | .pointer (some a)=>a.off
 |_=>0
def TE:List Nat→Type→Type
 |[],T=>T
 |_::r,T=>aj→Bool×aj×(aa×aa)×TE r T
def NE {T:Type}(N:T→T):(hs:List Nat)→TE hs T→TE hs T
 |[],t=>N t
 |_::r,g=>fun W=>match g W with|(_,_,(_,y),t)=>(true,W,(y,y),NE N r t)
def CK {α:Type}(P:aB)(nt j:Nat)(k:List bA)(e:Env)(L:aX)(W:aj)(K:List bA→Env→aX→α):Bool×aj×(aa×aa)×α:=
 match nI nt k e with
 |some (T,p)=>((mc L j&&(mS P T (lO L j) (mG p)).isSome),W,(p,uL (k7 L j) (mG p)),K (kZ k) (kX e (kW nt k e) ((mS P T (lO L j) (mG p)).getD undef)) L)
 |none=>match q8 nt k e with
  | some (T,p,v)=>((mc L j&&(cB (nD L j).1 0&&(cB (nD L j).2 0&&vi P T (lO L j) (mG p) v))),W,(p,uL (k7 L j) (mG p)),
    K (kZ k) (kX e (kW nt k e) undef) (oP L j (tC P T (lO L j) (mG p) v)))
  |none=>(false,W,(undef,undef),K k e L)
def lE {T:Type}(P:aB)(nt:Nat)(K:List bA→Env→aX→T):(hs:List Nat)→List bA→Env→aX→TE hs T
 |[],k,e,L=>K k e L
 | h::r,k,e,L=>fun W=>bif cC 200 h then CK P nt (h-200) k e L W (lE P nt K r)
  else match run P nt h k e W with
   |some (k',e',W')=>(true,W',(undef,undef),lE P nt K r k' e' L)
   |none=>(false,W,(undef,undef),lE P nt K r k e L)
theorem OK {α:Type}{P:aB}{f nt j:Nat}{k:List bA}{e:Env}{L:aX}{S:List Nat}{w0 W:aj}{R:Goal P}{K:List bA→Env→aX→α}{y:aa}{t:α}
  (h:CK P nt j k e L W K=(true,W,(y,y),t))(hn:∀k e L,K k e L=t→kO P f nt k e L S w0 R):kO P f nt k e L S w0 R:=by
 unfold CK at h;split at h
 ·next T p ha=>
  simp only[af,av]at h;obtain⟨⟨O,V⟩,_,⟨a1,a2⟩,M⟩:=h;obtain⟨v,a3⟩:=aJ.1 V;have hp:p=.pointer (some ⟨k7 L j,mG p,none⟩):=a1.trans a2.symm;rw[a3]at M;exact kO.load j (mG p) (v:=v) (T:=T) (by rw[ha,O,a3,←hp]) (hn _ _ _ M)
 ·split at h
  ·next T p v ha=>
   simp only[af,av]at h;obtain⟨⟨O,a4,a5,V⟩,_,⟨a1,a2⟩,M⟩:=h;have hp:p=.pointer (some ⟨k7 L j,mG p,none⟩):=a1.trans a2.symm;have a6:nD L j=(0,0):=Prod.ext (aP a4) (aP a5);exact kO.store j (mG p) (v:=v) (T:=T) (by rw[ha,O,a6,V,←hp]) (hn _ _ _ M)
  ·simp at h
theorem FM {T:Type}{P:aB}{f nt:Nat}{S:List Nat}{w0:aj}{R:Goal P}{K:List bA→Env→aX→T}{N:T→T}(O:∀k e L,K k e L=N (K k e L)→kO P f nt k e L S w0 R):
  ∀(V:List Nat) (k:List bA) (e:Env) (L:aX),lE P nt K V k e L=NE N V (lE P nt K V k e L)→kO P f nt k e L S w0 R
 |[],k,e,L,h=>O k e L h
 | n::r,k,e,L,h=>by
  intro t W a1 hm;have M:=congrFun h W;simp only[NE,lE]at M;cases hb:cC 200 n with
  |true=>
   simp only[hb,cond_true]at M
   revert M
   generalize hg:CK P nt (n-200) k e L W (lE P nt K r)=g;obtain⟨b,a2,⟨x,y⟩,g⟩:=g;intro M;simp only[af]at M;obtain⟨rfl,rfl,⟨rfl,_⟩,a4⟩:=M;exact OK hg (fun k' e' L' a3=>FM O r k' e' L' (by rw[a3];exact a4)) t _ a1 hm
  | false=>
   simp only[hb,cond_false]at M
   revert M
   cases hr:run P nt n k e W with
   |none=>intro M;simp at M
   |some x=>
    obtain⟨k',e',a2⟩:=x;intro M;simp only[af,true_and]at M;obtain⟨rfl,hn⟩:=M;exact Gi n hr a1 fun t' a5=>FM O r k' e' L hn t' _ a5 hm
@[reducible] def VC.ru (hs:List Nat)(A:VC C):VC C where
 pr:=A.pr
 T:=TE hs A.T×Bool
 l s:=(lE C.P s.nt (fun k e L=>A.l {s with k:=k,e:=e,L:=L}) hs s.k s.e s.L,s.q.isNone)
 N p:=(NE A.N hs p.1,true)
 ok s h hp:=by
  obtain⟨d,k,e,L,q,fr⟩:=s;simp only[af]at h;cases q with
  |some q=>exact absurd h.2 (by simp)
  |none=>exact FM (R:=goal C fr) (f:=d.f) (nt:=d.fn.ntmps) (S:=C.S) (w0:=C.w0) (N:=A.N) (fun k e L hh=>A.ok ⟨d,k,e,L,none,fr⟩ hh hp) hs k e L h.1
def TQ:List Nat→Type→Type
 |[],T=>T
 |_::r,T=>(aj→Bool×aj×aa)×(Bool×aa×(aa×aa))×TQ r T
def NQ {T:Type}(N:T→T):(hs:List Nat)→TQ hs T→TQ hs T
 |[],t=>N t
 |_::r,(_,(_,v,(_,y)),t)=>((fun W=>(true,W,v)),(true,v,(y,y)),NQ N r t)
def qs {α:Type}(P:aB)(nt:Nat)(h:Nat)(k:List bA)(e:Env)(L:aX)(K:List bA→Env→α):(aj→Bool×aj×aa)×(Bool×aa×(aa×aa))×α:=
 match h with
 |0=>match ry nt k e with
  |some d=>((fun W=>(true,W,undef)),(true,undef,(undef,undef)),K (kZ k) (kX e d undef))
  | none=>((fun W=>match(execOp (kV e) (lq nt k e)).run P W with| .ok (.value v) W'=>(true,W',v)|_=>(false,W,undef)),
    ((cur nt k e).isSome,vQ P nt k e,(undef,undef)),K (kZ k) (kX e (kW nt k e) (vQ P nt k e)))
 |j+1=>match nI nt k e with
  | some (T,p)=>((fun W=>(true,W,undef)),((mc L j&&(mS P T (lO L j) (mG p)).isSome),undef,(p,uL (k7 L j) (mG p))),
    K (kZ k) (kX e (kW nt k e) ((mS P T (lO L j) (mG p)).getD undef)))
  |none=>((fun W=>(true,W,undef)),(false,undef,(undef,undef)),K k e)
def lQ {T:Type}(P:aB)(nt:Nat)(L:aX)(K:List bA→Env→T):(hs:List Nat)→List bA→Env→TQ hs T
 |[],k,e=>K k e
 |h::r,k,e=>qs P nt h k e L (lQ P nt L K r)
theorem QE {α:Type}{P:aB}{f nt j:Nat}{k:List bA}{e:Env}{L:aX}{S:List Nat}{w0:aj}{R:Goal P}{q:Qd}{K:List bA→Env→α}{v y:aa}{t:α}
  (h:qs P nt j k e L K=((fun W=>(true,W,v)),(true,v,(y,y)),t))(hn:∀k e,K k e=t→k5 P f nt q.ops q.n q.kk k e L S w0 R):k5 P f nt q.ops q.n q.kk k e L S w0 R:=by
 unfold qs at h;split at h
 ·split at h
  ·next d hd=>
   simp only[af]at h;have a4:oA nt k e=d:=by simp[oA,hd]
   exact k5.skip (by rw[a4,hd]) (hn _ _ (by rw[a4];exact h.2.2))
  ·simp only[af]at h
   obtain⟨O,⟨V,a1,_⟩,a2⟩:=h;obtain⟨o,a6⟩:=aJ.1 V;have hc:cur nt k e=some (lq nt k e):=by simp[lq,a6]
   refine k5.pure hc (fun W=>?_) (hn _ _ a2);have M:=congrFun O W;split at M
   ·next v' W' hr=>simp only[af,true_and]at M;rw[hr,M.1,M.2,a1]
   ·simp at M
 ·split at h
  ·next j _ T p ha=>
   simp only[af,av]at h;obtain⟨_,⟨⟨O,V⟩,_,a1,a2⟩,a3⟩:=h;obtain⟨u,a5⟩:=aJ.1 V;have hp:p=.pointer (some ⟨k7 L j,mG p,none⟩):=a1.trans a2.symm;rw[a5]at a3;exact k5.load j (mG p) (v:=u) (T:=T) (by rw[ha,O,a5,←hp]) (hn _ _ a3)
  ·simp at h
theorem GW {T:Type}{P:aB}{f nt:Nat}{S:List Nat}{w0:aj}{R:Goal P}{q:Qd}{L:aX}{K:List bA→Env→T}{N:T→T}(V:∀k e,K k e=N (K k e)→k5 P f nt q.ops q.n q.kk k e L S w0 R):
  ∀(M:List Nat) (k:List bA) (e:Env),lQ P nt L K M k e=NQ N M (lQ P nt L K M k e)→k5 P f nt q.ops q.n q.kk k e L S w0 R
 |[],k,e,h=>V k e h
 |n::r,k,e,h=>by
  simp only[NQ,lQ]at h
  revert h
  generalize hg:qs P nt n k e L (lQ P nt L K r)=g;obtain⟨g1,⟨b,v,⟨x,y⟩⟩,O⟩:=g;intro h;have a3:g1=(fun W=>(true,W,v)):=congrArg (·.1) h;have a1:(b,v,(x,y))=(true,v,(y,y)):=congrArg (·.2.1) h;have a2:O=NQ N r O:=congrArg (·.2.2) h;clear h;simp only[af]at a1;obtain⟨rfl,_,rfl,_⟩:=a1;subst a3;exact QE hg fun k' e' a4=>GW V r k' e' (by rw[a4];exact a2)
def qz:Nat→List Nat→List Nat
 |0,l=>l
 |n+1,l=>0::qz n l
def qx:List Nat→List Nat
 |[]=>[]
 |h::r=>bif cC 100 h then(h-99)::qx r else qz h (qx r)
@[reducible] def VC.qu (hs:List Nat)(A:VC C):VC C where
 pr:=A.pr
 T:=TQ (qx hs) A.T×Bool
 l s:=(lQ C.P s.nt s.L (fun k e=>A.l {s with k:=k,e:=e}) (qx hs) s.k s.e,s.q.isSome)
 N p:=(NQ A.N (qx hs) p.1,true)
 ok s h hp:=by
  obtain⟨d,k,e,L,q,fr⟩:=s;simp only[af]at h;cases q with
  |none=>exact absurd h.2 (by simp)
  |some q=>exact GW (R:=goal C fr) (f:=d.f) (nt:=d.fn.ntmps) (L:=L) (S:=C.S) (w0:=C.w0) (q:=q) (N:=A.N) (fun k e hh=>A.ok ⟨d,k,e,L,some q,fr⟩ hh hp) (qx hs) k e h.1
@[reducible] def VC.dr (n:Nat)(A:VC C):VC C where
 pr:=A.pr
 T:=(Bool×Bool×Bool×Bool)×A.T
 l s:=((sm s.k,C.P.follows .mixedOrders,xA (m7 s.k) n,s.q.isNone),A.l {s with k:=qK (m7 s.k) n,q:=some ⟨m7 s.k,n,uK s.k⟩})
 N p:=((true,true,true,true),A.N p.2)
 ok s h hp:=by
  obtain⟨d,k,e,L,q,fr⟩:=s;simp only[af]at h;cases q with
  |some q=>exact absurd h.1.2.2.2 (by simp)
  |none=>exact kO.draw n (by rw[h.1.1,h.1.2.1,h.1.2.2.1]) (A.ok ⟨d,_,e,L,some ⟨_,_,_⟩,fr⟩ h.2 hp)
@[reducible] def VC.dn (A:VC C):VC C where
 pr:=A.pr
 T:=Option (List bA×Array Oper)×A.T
 l s:=match s.q with
  |some q=>(some (s.k,q.ops),A.l {s with k:=wI q.ops q.n q.kk,q:=none})
  |none=>(none,A.l s)
 N p:=(match p.1 with|some (_,o)=>some ([.inRegion o []],o)|none=>some ([],#[]),A.N p.2)
 ok s h hp:=by
  obtain⟨d,k,e,L,q,fr⟩:=s;cases q with
  |none=>exact absurd (congrArg kK h) (by simp)
  |some q=>
   simp only[af,al]at h;exact k5.done h.1.1 (A.ok ⟨d,_,e,L,none,fr⟩ h.2 hp)
end
section
variable {C:Cx}
@[reducible] def VC.R1 (v:aa)(L:aX):VC C where
 pr:=Fin C.R L C.S C.w0 v
 T:=Bool×Option aa×aX×Bool×Bool
 l s:=(oX s.k,rq s.e s.d.fn.results.toList,s.L,s.fr.isEmpty,s.q.isNone)
 N _:=(true,some v,L,true,true)
 ok s h hp:=by
  obtain⟨d,k,e,L',q,fr⟩:=s;simp only[af]at h;obtain⟨h1,h2,rfl,h4,h5⟩:=h;cases fr with
  |cons x r=>simp at h4
  |nil=>cases q with
   |some q=>simp at h5
   |none=>exact kO.ret (v:=v) (L1:=L') d.hf (by rw[h1,h2]) hp
@[reducible] def VC.ff:VC C where
 pr:=False
 T:=Unit
 l _:=()
 N _:=()
 ok _ _ h:=h.elim
@[reducible] def VC.XC (A:VC C):VC C where
 pr:=A.pr
 T:=(Bool×Bool×Bool)×A.T
 l s:=match s.fr with
  |x::r=>((oX s.k,(rq s.e s.d.fn.results.toList).isSome,s.q.isNone),A.l ⟨x.d,x.k,kX x.e x.x ((rq s.e s.d.fn.results.toList).getD undef),s.L,none,r⟩)
  |[]=>((false,false,false),A.l s)
 N p:=((true,true,true),A.N p.2)
 ok s h hp:=by
  obtain⟨d,k,e,L',q,fr⟩:=s;cases fr with
  |nil=>exact absurd (congrArg (·.1.1) h) (by simp)
  |cons x r=>
   simp only[af]at h;obtain⟨⟨h1,h2,h3⟩,h4⟩:=h;cases q with
   |some q=>simp at h3
   |none=>exact kO.rk (R:=goal C r) d.hf (A.ok ⟨x.d,x.k,_,L',none,r⟩ h4 hp) (by rw[h1,h2])
@[reducible] def VC.V3 {g:bO}{fn:fu}(hf:C.P.funcs[g]?=some fn)(args:List aa)(A:VC C):VC C where
 pr:=A.pr
 T:=(aj→iD Next)×Bool×A.T
 l s:=((fun W=>(execOp (kV s.e) (lq s.nt s.k s.e)).run C.P W),((cur s.nt s.k s.e).isSome&&(fn.body.isSome&&(cC args.length fn.ntmps&&s.q.isNone))),
  A.l ⟨fd hf,[.code (body fn)],qY 0 args,s.L,none,⟨s.d,kZ s.k,s.e,kW s.nt s.k s.e⟩::s.fr⟩)
 N p:=((fun W=>.ok (.enter g ⟨args⟩) W),true,A.N p.2.2)
 ok s h hp:=by
  obtain⟨d,k,e,L',q,fr⟩:=s;simp only[af,av]at h;obtain⟨h1,⟨h2,h3,h4,h5⟩,h6⟩:=h;obtain⟨o,ho⟩:=aJ.1 h2;cases q with
  |some q=>simp at h5
  |none=>exact kO.il (R:=goal C fr) g args fn.ntmps hf (A.ok ⟨fd hf,_,_,L',none,_::fr⟩ h6 hp) (fun W=>congrFun h1 W) (by simp[lq,ho]) (by simp only[h3,h4])
structure Cut where
 P:aB
 S:List Nat
 f:Nat
 nt:Nat
 k:List bA
 e:Env
 L:aX
def Cut.at (c:Cut)(w0:aj)(R:bJ→aj→Prop):Prop:=kO c.P c.f c.nt c.k c.e c.L c.S w0 (lN R)
instance :CoeFun Cut (fun _=>aj→(bJ→aj→Prop)→Prop):=⟨Cut.at⟩
@[reducible] def VC.Yj (is:List Nat)(c:Cut):VC C where
 pr:=c.at C.w0 C.R
 T:=(aB×List Nat×Nat×Nat)×(List bA×Option Env×aX)×Bool
 l s:=((C.P,C.S,s.d.f,s.nt),(s.k,restrict s.e (c.e.map (·.1)),nE s.L is),(o5 is&&(s.fr.isEmpty&&s.q.isNone)))
 N _:=((c.P,c.S,c.f,c.nt),(c.k,some c.e,c.L),true)
 ok s h hp:=by
  obtain⟨d,k,e,L',q,fr⟩:=s;obtain⟨P,S,f,nt,k2,e2,L2⟩:=c;simp only[af,av]at h;obtain⟨⟨rfl,rfl,rfl,rfl⟩,⟨h1,h2,h3⟩,h4,h5,h6⟩:=h;cases fr with
  |cons x r=>simp at h5
  |nil=>cases q with
   |some q=>simp at h6
   |none=>exact kO.cut is hp (by rw[h1,h2,h3,h4])
@[reducible] def VC.P7 (is:List Nat)(m:Nat)(c:Cut):VC C where
 pr:=c.at C.w0 C.R
 T:=(aB×List Nat×Nat×Nat)×(List bA×Option Env×aX)×Bool
 l s:=((C.P,C.S,s.d.f,s.nt),(s.k,restrict s.e (c.e.map (·.1)),nE (s.L.take m) is++s.L.drop m),(o5 is&&(s.fr.isEmpty&&s.q.isNone)))
 N _:=((c.P,c.S,c.f,c.nt),(c.k,some c.e,c.L),true)
 ok s h hp:=by
  obtain⟨d,k,e,L',q,fr⟩:=s;obtain⟨P,S,f,nt,k2,e2,L2⟩:=c;simp only[af,av]at h;obtain⟨⟨rfl,rfl,rfl,rfl⟩,⟨h1,h2,h3⟩,h4,h5,h6⟩:=h;cases fr with
  |cons x r=>simp at h5
  |nil=>cases q with
   |some q=>simp at h6
   |none=>exact kO.rB is m hp (by rw[h1,h2,h3,h4])
@[reducible] def VC.ex {α:Type}(f:α→VC C):VC C where
 pr:=∃x,(f x).pr
 T:=(x:α)→(f x).T
 l s:=fun x=>(f x).l s
 N g:=fun x=>(f x).N (g x)
 ok s h hp:=hp.elim fun x hx=>(f x).ok s (congrFun h x) hx
@[reducible] def KT.ex {α:Type}(f:α→KT C):KT C where
 pr v L:=∃x,(f x).pr v L
 T:=(x:α)→(f x).T
 l b:=fun x=>(f x).l b
 N g:=fun x=>(f x).N (g x)
 ok b h v L' hp:=hp.elim fun x hx=>(f x).ok b (congrFun h x) v L' hx
@[reducible] def KT.rt (v0:aa)(L0:aX)(A:VC C):KT C where
 pr v L:=v=v0∧L=L0∧A.pr
 T:=A.T
 l b:=A.l (b v0 L0)
 N:=A.N
 ok b h v L' hp:=by obtain⟨rfl,rfl,hp⟩:=hp;exact A.ok _ h hp
@[reducible] def VC.Nu (g:bO)(args:List aa)(L1:aX)(K:KT C):VC C where
 pr:=eA C.P g ⟨args⟩ L1 C.S C.w0 K.pr
 T:=(aj→iD Next)×Bool×aX×K.T
 l s:=((fun W=>(execOp (kV s.e) (lq s.nt s.k s.e)).run C.P W),((cur s.nt s.k s.e).isSome&&s.q.isNone),s.L,K.l fun v L'=>s.hp v L')
 N p:=((fun W=>.ok (.enter g ⟨args⟩) W),true,L1,K.N p.2.2.2)
 ok s h hp:=by
  obtain⟨d,k,e,L',q,fr⟩:=s;simp only[af,av]at h;obtain⟨h1,⟨h2,h3⟩,rfl,h6⟩:=h;obtain⟨o,ho⟩:=aJ.1 h2;cases q with
  |some q=>simp at h3
  |none=>exact kO.call (R:=goal C fr) g ⟨args⟩ (fun W=>congrFun h1 W) (by simp[lq,ho]) hp fun v L2 hk=>K.ok _ h6 v L2 hk
theorem J.split {s:St C.P}(i:Nat){b:Bool}(h:get? s.e i=some (.bool b))(O:b=true→J C {s with e:=(i,.bool true)::s.e})(M:b=false→J C {s with e:=(i,.bool false)::s.e}):J C s:=by
 obtain⟨d,k,e,L',q,fr⟩:=s;cases q with
 |none=>exact kO.split i h O M
 |some q=>exact k5.split i h O M
@[reducible] def VC.bd (i:Nat)(p:Prop)(v:Bool)(hv:v=true↔p)(A:p→VC C)(B:¬p→VC C):VC C where
 pr:=(∀h,(A h).pr)∧∀h,(B h).pr
 T:=Option aa×((h:p)→(A h).T)×((h:¬p)→(B h).T)
 l s:=(get? s.e i,(fun h=>(A h).l {s with e:=(i,.bool true)::s.e}),(fun h=>(B h).l {s with e:=(i,.bool false)::s.e}))
 N g:=(some (.bool v),(fun h=>(A h).N (g.2.1 h)),(fun h=>(B h).N (g.2.2 h)))
 ok s h hp:=by
  have h1:=congrArg (·.1) h;have h2:=congrArg (·.2.1) h;have h3:=congrArg (·.2.2) h;exact J.split i h1 (fun hb=>(A (hv.1 hb)).ok _ (congrFun h2 _) (hp.1 _)) fun hb=>(B fun hx=>by rw[hv.2 hx]at hb;cases hb).ok _ (congrFun h3 _) (hp.2 _)
@[reducible] def VC.b2 (i:Nat)(p q:Prop)(v:Bool)(h1:v=true→p)(h0:v=false→q)(A B:VC C):VC C where
 pr:=(p→A.pr)∧(q→B.pr)
 T:=Option aa×A.T×B.T
 l s:=(get? s.e i,A.l {s with e:=(i,.bool true)::s.e},B.l {s with e:=(i,.bool false)::s.e})
 N g:=(some (.bool v),A.N g.2.1,B.N g.2.2)
 ok s h hp:=J.split i (congrArg (·.1) h) (fun hb=>A.ok _ (congrArg (·.2.1) h) (hp.1 (h1 hb))) fun hb=>B.ok _ (congrArg (·.2.2) h) (hp.2 (h0 hb))
abbrev VC.zP (i:Nat)(p:Prop)[Decidable p](A B:VC C):VC C:=.b2 i p (¬p) (decide p) of_decide_eq_true of_decide_eq_false A B
abbrev VC.zI (i:Nat)(p:Prop)[Decidable p](A B:VC C):VC C:=.b2 i (¬p) p (!decide p) (fun h=>by simpa using h) (fun h=>by simpa using h) A B
abbrev VC.zB (i:Nat)(b:Bool)(A B:VC C):VC C:=.b2 i (b=true) (b=false) b id id A B
abbrev VC.O2 (i:Nat)(x y:BA)(A B:VC C):VC C:=.b2 i (x=y) (¬x=y) (x.toList==y.toList) (fun h=>(uZ x y).1 h) (fun h e=>by rw[(uZ x y).2 e]at h;cases h) A B
abbrev VC.Zw (i:Nat)(x y:BA)(A B:VC C):VC C:=.b2 i (¬x=y) (x=y) (!(x.toList==y.toList)) (fun h e=>by rw[(uZ x y).2 e]at h;cases h) (fun h=>(uZ x y).1 (by simpa using h)) A B
theorem J.push {s:St C.P}(i:Nat){v:aa}(h:get? s.e i=some v)(hn:J C {s with e:=(i,v)::s.e}):J C s:=by
 obtain⟨d,k,e,L',q,fr⟩:=s;cases q with
 |none=>exact kO.push h hn
 |some q=>exact k5.push h hn
@[reducible] def VC.kn (i:Nat)(v b:Bool)(hv:v=b)(A:VC C):VC C where
 pr:=A.pr
 T:=Option aa×A.T
 l s:=(get? s.e i,A.l {s with e:=(i,.bool b)::s.e})
 N g:=(some (.bool v),A.N g.2)
 ok s h hp:=by
  subst hv;exact J.push i (congrArg (·.1) h) (A.ok _ (congrArg (·.2) h) hp)
@[reducible] def VC.oY (i:Nat)(n:Int)(f:Int→VC C)(kd:bW:=.i64):VC C where
 pr:=∀x,x=n→(f x).pr
 T:=Option aa×((x:Int)→(f x).T)
 l s:=(get? s.e i,fun x=>(f x).l {s with e:=(i,.int kd x)::s.e})
 N g:=(some (.int kd n),fun x=>(f x).N (g.2 x))
 ok s h hp:=J.push i (congrArg (·.1) h) ((f n).ok _ (congrFun (congrArg (·.2) h) n) (hp n rfl))
@[reducible] def VC.pI (i:Nat)(n:BA)(f:BA→VC C):VC C where
 pr:=∀x,x=n→(f x).pr
 T:=Option aa×((x:BA)→(f x).T)
 l s:=(get? s.e i,fun x=>(f x).l {s with e:=(i,.string x)::s.e})
 N g:=(some (.string n),fun x=>(f x).N (g.2 x))
 ok s h hp:=J.push i (congrArg (·.1) h) ((f n).ok _ (congrFun (congrArg (·.2) h) n) (hp n rfl))
@[reducible] def VC.o1 {δ:Type}(dat:aB→Nat→List bA→Env→δ)(d0:δ)(F:Prop)(v:aa)
  (hE:∀{f nt k e L} {R:Goal C.P},dat C.P nt k e=d0→F→kO C.P f nt (kZ k) (kX e (kW nt k e) v) L C.S C.w0 R→kO C.P f nt k e L C.S C.w0 R)
  (hQ:∀{f nt k e L ops n kk} {R:Goal C.P},dat C.P nt k e=d0→F→k5 C.P f nt ops n kk (kZ k) (kX e (kW nt k e) v) L C.S C.w0 R→k5 C.P f nt ops n kk k e L C.S C.w0 R)
  (A:VC C):VC C where
 pr:=F∧A.pr
 T:=δ×A.T
 l s:=(dat C.P s.nt s.k s.e,A.l (s.nx v))
 N g:=(d0,A.N g.2)
 ok s h hp:=by
  obtain⟨d,k,e,L',q,fr⟩:=s;have h1:=congrArg (·.1) h;have h2:=congrArg (·.2) h;cases q with
  |none=>exact hE h1 hp.1 (A.ok ⟨d,_,_,L',none,fr⟩ h2 hp.2)
  |some q=>exact hQ h1 hp.1 (A.ok ⟨d,_,_,L',some q,fr⟩ h2 hp.2)
def Df (P:aB)(nt:Nat)(k:List bA)(e:Env):Option (BA×Int):=match vY P nt k e with
 |some (some .string,.string s,.int _ i)=>some (s,i)
 |_=>none
theorem NR {P:aB}{nt:Nat}{k:List bA}{e:Env}{s:BA}{i:Int}(h:Df P nt k e=some (s,i)):∃kd,vY P nt k e=some (some .string,.string s,.int kd i):=by
 unfold Df at h;split at h
 ·next hh=>simp only[al,af]at h;obtain⟨rfl,rfl⟩:=h;exact⟨_,hh⟩
 ·cases h
@[reducible] def VC.ix (s:BA)(i:Int)(A:VC C):VC C:=.o1 Df (some (s,i)) (0≤i∧i<s.size) (.int .u8 (k8 s i)) (fun h hb hn=>(NR h).elim fun _ h=>kO.sg h hb hn) (fun h hb hn=>(NR h).elim fun _ h=>k5.sg h hb hn) A
def Iy:Option aa→Option Int
 |none=>some 0
 |some (.int _ a)=>some a
 |_=>none
def Kw (s:Int):Option aa→Option Int
 |none=>some s
 |some (.int _ a)=>some a
 |_=>none
def A2 (P:aB)(nt:Nat)(k:List bA)(e:Env):Option (BA×Option Int×Option Int):=match asSlice P nt k e with
 |some (some .string,.string s,lo,hi,none)=>some (s,Iy lo,Kw s.size hi)
 |_=>none
theorem Fu {P:aB}{nt:Nat}{k:List bA}{e:Env}{s:BA}{a b:Int}(h:A2 P nt k e=some (s,some a,some b)):
  ∃lo hi,asSlice P nt k e=some (some .string,.string s,lo,hi,none)∧((∃kd,lo=some (.int kd a))∨(lo=none∧a=0))∧((∃kd,hi=some (.int kd b))∨(hi=none∧b=s.size)):=by
 unfold A2 at h;split at h
 ·next lo hi hh=>
  simp only[al,af]at h;obtain⟨rfl,M,O⟩:=h;refine⟨lo,hi,hh,?_,?_⟩
  ·unfold Iy at M
   split at M
   ·exact .inr ⟨rfl,(bY M).symm⟩
   ·next _ x _=>exact .inl ⟨x,by rw[bY M]⟩
   ·cases M
  ·unfold Kw at O
   split at O
   ·exact .inr ⟨rfl,(bY O).symm⟩
   ·next _ x _=>exact .inl ⟨x,by rw[bY O]⟩
   ·cases O
 ·cases h
@[reducible] def VC.ss (s:BA)(a b:Int)(A:VC C):VC C:=.o1 A2 (some (s,some a,some b)) (0≤a∧a≤b∧b≤s.size) (.string (s.extract a.toNat b.toNat))
 (fun h hb hn=>by obtain⟨lo,hi,h1,h2,h3⟩:=Fu h;exact kO.sj h1 h2 h3 hb hn) (fun h hb hn=>by obtain⟨lo,hi,h1,h2,h3⟩:=Fu h;exact k5.sj h1 h2 h3 hb hn) A
def FZ (_:aB)(nt:Nat)(k:List bA)(e:Env):Option (BinOp×aa×aa):=qC nt k e
@[reducible] def VC.cc (x y:BA)(A:VC C):VC C:=.o1 FZ (some (.add,.string x,.string y)) (x.size+y.size≤9223372036854775807) (.string (x++y)) (fun h hb hn=>kO.concat h hb hn) (fun h hb hn=>k5.concat h hb hn) A
theorem VC.cs {f:Nat}{P:aB}{fn:fu}{S:List Nat}{w0 W:aj}{R:bJ→aj→Prop}{L:aX}{args:List aa}(M:P.funcs[f]?=some fn)(hm:Mem L S w0 W)(t:VC ⟨P,S,w0,R⟩)(H:t.pr)
  (h:(fn.body.isSome,cC args.length fn.ntmps,t.l ⟨fd M,[.code (body fn)],qY 0 args,L,none,[]⟩)=(true,true,t.N (t.l ⟨fd M,[.code (body fn)],qY 0 args,L,none,[]⟩)):=by kernel_rfl):Calls P f ⟨args⟩ W R:=by
 simp only[af]at h;exact kO.cs fn.ntmps M hm (t.ok ⟨fd M,_,_,L,none,[]⟩ h.2.2 H) (by rw[h.1,h.2.1])
theorem VC.go {f nt:Nat}{P:aB}{fn:fu}{S:List Nat}{w0:aj}{R:bJ→aj→Prop}{k:List bA}{e:Env}{L:aX}(M:P.funcs[f]?=some fn)(t:VC ⟨P,S,w0,R⟩)(H:t.pr)
  (h:(fn.ntmps,t.l ⟨fd M,k,e,L,none,[]⟩)=(nt,t.N (t.l ⟨fd M,k,e,L,none,[]⟩)):=by kernel_rfl):kO P f nt k e L S w0 (lN R):=by
 simp only[af]at h;have:=t.ok ⟨fd M,k,e,L,none,[]⟩ h.2 H;rw[←h.1];exact this
end
section
variable {C:Cx}
abbrev VC.x2 {α β:Type}(f:α→β→VC C):VC C:=.ex fun a=>.ex (f a)
abbrev VC.x3 {α β γ:Type}(f:α→β→γ→VC C):VC C:=.ex fun a=>.x2 (f a)
abbrev VC.x4 {α β γ δ:Type}(f:α→β→γ→δ→VC C):VC C:=.ex fun a=>.x3 (f a)
abbrev VC.x5 {α β γ δ ε:Type}(f:α→β→γ→δ→ε→VC C):VC C:=.ex fun a=>.x4 (f a)
abbrev KT.x2 {α β:Type}(f:α→β→KT C):KT C:=.ex fun a=>.ex (f a)
abbrev KT.x3 {α β γ:Type}(f:α→β→γ→KT C):KT C:=.ex fun a=>.x2 (f a)
abbrev KT.x4 {α β γ δ:Type}(f:α→β→γ→δ→KT C):KT C:=.ex fun a=>.x3 (f a)
abbrev KT.x5 {α β γ δ ε:Type}(f:α→β→γ→δ→ε→KT C):KT C:=.ex fun a=>.x4 (f a)
@[reducible] def VC.oE {δ:Type}(dat:aB→Nat→List bA→Env→aX→δ)(d0:δ)(F:Prop)(v:aa)(g:aX→aX)
  (hE:∀{f nt k e L} {R:Goal C.P},dat C.P nt k e L=d0→F→kO C.P f nt (kZ k) (kX e (kW nt k e) v) (g L) C.S C.w0 R→kO C.P f nt k e L C.S C.w0 R)(A:VC C):VC C where
 pr:=F∧A.pr
 T:=(δ×Bool)×A.T
 l s:=((dat C.P s.nt s.k s.e s.L,s.q.isNone),A.l (s.hp v (g s.L)))
 N p:=((d0,true),A.N p.2)
 ok s h hp:=by
  obtain⟨d,k,e,L',q,fr⟩:=s;have h1:=congrArg (·.1.1) h;have h3:=congrArg (·.1.2) h;have h2:=congrArg (·.2) h;cases q with
  |none=>exact hE h1 hp.1 (A.ok ⟨d,_,_,_,none,fr⟩ h2 hp.2)
  |some q=>exact absurd h3 (by simp)
@[reducible] def VC.oT {δ:Type}(dat:aB→Nat→List bA→Env→aX→δ)(d0:δ)(v:aa)
  (hE:∀{f nt k e L} {R:Goal C.P},dat C.P nt k e L=d0→kO C.P f nt (kZ k) (kX e (kW nt k e) v) L C.S C.w0 R→kO C.P f nt k e L C.S C.w0 R)(A:VC C):VC C where
 pr:=A.pr
 T:=(δ×Bool)×A.T
 l s:=((dat C.P s.nt s.k s.e s.L,s.q.isNone),A.l (s.nx v))
 N p:=((d0,true),A.N p.2)
 ok s h hp:=by
  obtain⟨d,k,e,L',q,fr⟩:=s;have h1:=congrArg (·.1.1) h;have h3:=congrArg (·.1.2) h;have h2:=congrArg (·.2) h;cases q with
  |none=>exact hE h1 (A.ok ⟨d,_,_,_,none,fr⟩ h2 hp)
  |some q=>exact absurd h3 (by simp)
theorem J.load {s:St C.P}{b off:Nat}{T:aC}{c:List aa}{v:aa}(h:nI s.nt s.k s.e=some (T,.pointer (some ⟨b,off,none⟩)))(a1:∀W,Mem s.L C.S C.w0 W→∃t fz,W.heap[b]?=some (.cells ⟨c⟩ t fz))
  (a3:mS C.P T c off=some v)(hn:J C (s.nx v)):J C s:=by
 obtain⟨d,k,e,L',q,fr⟩:=s;obtain⟨o,x,M,a2,a4⟩:=yb h;have O:∀W,Mem L' C.S C.w0 W→(execOp (kV e) o).run C.P W=.ok (.value v) W:=fun W hm=>by
  obtain⟨t,fz,V⟩:=a1 W hm;simp only[execOp,a2,a4];exact run_lift (vd (t:=t) (fz:=fz) V a3)
 cases q with
 |none=>exact kO.ow M O hn
 |some q=>exact k5.ow M O hn
theorem Gr {L:aX}{S:List Nat}{w0 W:aj}{b:Nat}{c:List aa}(M:b∉S)(hc:lG w0 b=some c)(hm:Mem L S w0 W):∃t fz,W.heap[b]?=some (.cells ⟨c⟩ t fz):=Gy hm M (.inr hc)
@[reducible] def VC.lg (b off:Nat)(T:aC)(c:List aa)(v:aa)(L:Option aX)(F:Prop)(hF:F→∀L' W,(L=none∨L=some L')→Mem L' C.S C.w0 W→∃t fz,W.heap[b]?=some (.cells ⟨c⟩ t fz))(A:VC C):VC C where
 pr:=F∧c[off]?=some v∧A.pr
 T:=(Option (aC×aa)×Option Bool×Option aX)×A.T
 l s:=((nI s.nt s.k s.e,(C.P.underlying T).map ur,(match L with|none=>none|some _=>some s.L)),A.l (s.nx v))
 N p:=((some (T,.pointer (some ⟨b,off,none⟩)),some false,L),A.N p.2)
 ok s h hp:=by
  have h1:=congrArg (·.1.1) h;have h3:=congrArg (·.1.2.1) h;have h4:=congrArg (·.1.2.2) h;have h2:=congrArg (·.2) h;refine J.load h1 (fun W hm=>hF hp.1 s.L W ?_ hm) (o4 hp.2.1 h3) (A.ok _ h2 hp.2.2);cases L with
  |none=>exact .inl rfl
  |some L=>exact .inr h4.symm
@[reducible] def VC.la (b off n:Nat)(T:aC)(c vs:List aa)(L:Option aX)(F:Prop)(hF:F→∀L' W,(L=none∨L=some L')→Mem L' C.S C.w0 W→∃t fz,W.heap[b]?=some (.cells ⟨c⟩ t fz))(A:VC C):VC C where
 pr:=F∧((c.drop off).take n=vs∧off+n≤c.length)∧A.pr
 T:=(Option (aC×aa)×(Option Bool×Option Nat)×Option aX)×A.T
 l s:=((nI s.nt s.k s.e,((C.P.underlying T).map ur,(C.P.info? T).map (·.size)),(match L with|none=>none|some _=>some s.L)),A.l (s.nx (.agg ⟨vs⟩)))
 N p:=((some (T,.pointer (some ⟨b,off,none⟩)),(some true,some n),L),A.N p.2)
 ok s h hp:=by
  have h1:=congrArg (·.1.1) h;have h3:=congrArg (·.1.2.1.1) h;have h5:=congrArg (·.1.2.1.2) h;have h4:=congrArg (·.1.2.2) h;have h2:=congrArg (·.2) h;refine J.load h1 (fun W hm=>hF hp.1 s.L W ?_ hm) (vN hp.2.1.1 hp.2.1.2 h3 h5) (A.ok _ h2 hp.2.2);cases L with
  |none=>exact .inl rfl
  |some L=>exact .inr h4.symm
def uF:List Nat→Bool
 |[]=>true
 |_=>false
theorem KG {S:List Nat}(h:uF S=true)(b:Nat):b∉S:=by cases S<;>simp_all [uF]
theorem fW {b:Nat}{c:List aa}{S:List Nat}{w0:aj}(M:uF S=true)(h:lG w0 b=some c)(L':aX)(W:aj)(_:(none:Option aX)=none∨none=some L')(hm:Mem L' S w0 W):∃t fz,W.heap[b]?=some (.cells ⟨c⟩ t fz):=Gr (KG M b) h hm
theorem fM {b:Nat}{c:List aa}{S:List Nat}{w0:aj}{L:aX}(O:uF S=true)(h:held L w0 b c)(L':aX)(W:aj)(M:some L=none∨some L=some L')(hm:Mem L' S w0 W):∃t fz,W.heap[b]?=some (.cells ⟨c⟩ t fz):=by
 rcases M with M|M
 ·cases M
 ·cases M;exact Gy hm (KG O b) h
theorem fT {b:Nat}{c:List aa}{S:List Nat}{w0:aj}{L:aX}(h:∃t fz,(b,bu ⟨c⟩ t fz)∈L)(L':aX)(W:aj)(M:some L=none∨some L=some L')(hm:Mem L' S w0 W):∃t fz,W.heap[b]?=some (.cells ⟨c⟩ t fz):=by
 rcases M with M|M
 ·cases M
 ·cases M;obtain⟨t,fz,h⟩:=h;exact⟨t,fz,hm.here _ h⟩
abbrev VC.lW (b off:Nat)(T:aC)(c:List aa)(v:aa)(A:VC C)(hS:uF C.S=true:=by rfl):VC C:=.lg b off T c v none (lG C.w0 b=some c) (fW hS) A
abbrev VC.uo (b off n:Nat)(T:aC)(c vs:List aa)(A:VC C)(hS:uF C.S=true:=by rfl):VC C:=.la b off n T c vs none (lG C.w0 b=some c) (fW hS) A
abbrev VC.lM (L:aX)(b off:Nat)(T:aC)(c:List aa)(v:aa)(A:VC C)(hS:uF C.S=true:=by rfl):VC C:=.lg b off T c v (some L) (held L C.w0 b c) (fM hS) A
abbrev VC.Di (L:aX)(b off n:Nat)(T:aC)(c vs:List aa)(A:VC C)(hS:uF C.S=true:=by rfl):VC C:=.la b off n T c vs (some L) (held L C.w0 b c) (fM hS) A
abbrev VC.lT (L:aX)(b off:Nat)(T:aC)(c:List aa)(v:aa)(A:VC C):VC C:=.lg b off T c v (some L) (∃t fz,(b,bu ⟨c⟩ t fz)∈L) fT A
abbrev VC.yN (L:aX)(b off n:Nat)(T:aC)(c vs:List aa)(A:VC C):VC C:=.la b off n T c vs (some L) (∃t fz,(b,bu ⟨c⟩ t fz)∈L) fT A
@[reducible] def VC.nw (fr:Bool)(mk:Nat→aa)(o:Obj)(f:Nat→VC C):VC C where
 pr:=∀B,(f B).pr
 T:=(aj→iD Next)×Bool×((B:Nat)→(f B).T)
 l s:=((fun W=>(execOp (kV s.e) (lq s.nt s.k s.e)).run C.P W),((cur s.nt s.k s.e).isSome&&s.q.isNone),fun B=>(f B).l (s.hp (mk B) (match fr with|true=>(B,o)::s.L|false=>s.L++[(B,o)])))
 N p:=((fun W=>.ok (.value (mk W.heap.size)) {W with heap:=W.heap.push o}),true,fun B=>(f B).N (p.2.2 B))
 ok s h hp:=by
  obtain⟨d,k,e,L',q,r⟩:=s;have h1:=congrArg (·.1) h;have h2:=congrArg (·.2.1) h;have h3:=congrArg (·.2.2) h;simp only[av]at h2;obtain⟨o',ho⟩:=aJ.1 h2.1;cases q with
  |some q=>exact absurd h2.2 (by simp)
  |none=>
   refine kO.new (R:=goal C r) mk o (fun W=>congrFun h1 W) (by simp[lq,ho]) fun B=>?_
   have:=(f B).ok _ (congrFun h3 B) (hp B);cases fr with
   |false=>exact this
   |true=>exact kO.front this
abbrev VC.VL (o:Obj)(f:Nat→VC C):VC C:=.nw false (fun B=>PP B) o f
abbrev VC.Uj (o:Obj)(f:Nat→VC C):VC C:=.nw true (fun B=>PP B) o f
abbrev VC.ns (fr:Bool)(n:Nat)(o:Obj)(f:Nat→VC C):VC C:=.nw fr (fun B=>.slice (SO B) n n) o f
def CB (P:aB)(nt:Nat)(k:List bA)(e:Env):Option (aa×Int×Option Nat):=match rZ P nt k e with
 |some (some (.slice E),x,.int _ i)=>some (x,i,(P.info? E).map (·.size))
 |_=>none
theorem D3 {P:aB}{nt:Nat}{k:List bA}{e:Env}{x:aa}{i:Int}{z:Option Nat}(h:CB P nt k e=some (x,i,z)):∃E kd,rZ P nt k e=some (some (.slice E),x,.int kd i)∧(P.info? E).map (·.size)=z:=by
 unfold CB at h;split at h
 ·next hh=>simp only[al,af]at h;obtain⟨rfl,rfl,rfl⟩:=h;exact⟨_,_,hh,rfl⟩
 ·cases h
@[reducible] def VC.iL (b o len cap sz:Nat)(i:Int)(o':Nat)(A:VC C)(ho:o'=o+i.toNat*sz:=by omega):VC C:=
 .o1 CB (some (.slice (some ⟨b,o,none⟩) len cap,i,some sz)) (0≤i∧i<len) (.pointer (some ⟨b,o',none⟩))
  (fun h hb hn=>by obtain⟨E,kd,h1,h2⟩:=D3 h;exact kO.nr (by rw[h1,h2]) hb ho hn) (fun h hb hn=>by obtain⟨E,kd,h1,h2⟩:=D3 h;exact k5.nr (by rw[h1,h2]) hb ho hn) A
@[reducible] def VC.iP (p:OA)(b o len cap sz:Nat)(i:Int)(o':Nat)(A:VC C)(ho:o'=o+i.toNat*sz:=by omega):VC C where
 pr:=p=some ⟨b,o,none⟩∧(0≤i∧i<len)∧A.pr
 T:=Option (aa×Int×Option Nat)×A.T
 l s:=(CB C.P s.nt s.k s.e,A.l (s.nx (.pointer (some ⟨b,o',none⟩))))
 N g:=(some (.slice p len cap,i,some sz),A.N g.2)
 ok s h hp:=by
  obtain⟨d,k,e,L',q,fr⟩:=s;have h1:=congrArg (·.1) h;have h2:=congrArg (·.2) h;obtain⟨hp0,hb,hA⟩:=hp;obtain⟨E,kd,h1,h3⟩:=D3 h1;cases q with
  |none=>exact kO.ub hp0 (by rw[h1,h3]) hb ho (A.ok ⟨d,_,_,L',none,fr⟩ h2 hA)
  |some q=>exact k5.ub hp0 (by rw[h1,h3]) hb ho (A.ok ⟨d,_,_,L',some q,fr⟩ h2 hA)
def wc (a:OA):List Nat→Env→Env×List OA
 |[],e=>(e,[])
 | i::r,e=>match wc a r e with
  |(e',l)=>match get? e i with
   |some (.slice p n c)=>((i,.slice a n c)::e',p::l)
   |_=>(e',none::some ⟨0,0,none⟩::l)
@[reducible] def VC.sp (p:OA)(b o:Nat)(is:List Nat)(A:VC C):VC C where
 pr:=p=some ⟨b,o,none⟩∧A.pr
 T:=List OA×A.T
 l s:=((wc (some ⟨b,o,none⟩) is s.e).2,A.l {s with e:=(wc (some ⟨b,o,none⟩) is s.e).1})
 N g:=(is.map fun _=>p,A.N g.2)
 ok s h hp:=by
  have h1:=congrArg (·.1) h;have h2:=congrArg (·.2) h;obtain⟨rfl,hA⟩:=hp;have hJ:=A.ok _ h2 hA;have key:∀(is:List Nat) (e:Env),(wc (some ⟨b,o,none⟩) is e).2=is.map (fun _=>some ⟨b,o,none⟩)→∀i v,get? (wc (some ⟨b,o,none⟩) is e).1 i=some v→get? e i=some v:=by
   intro is;induction is with
   |nil=>intro e _ i v hv;exact hv
   | cons j r ih=>
    intro e he i v hv;simp only[wc]at he hv;split at he
    ·next p n c hg=>
     simp only[List.map_cons,bM]at he;obtain⟨rfl,he⟩:=he;rw[hg]at hv;simp only[get?]at hv;cases hb:cB j i with
     |true=>
      have:j=i:=aP hb;subst this;rw[hb]at hv;simp only[cond_true,al]at hv;subst hv;exact hg
     |false=>rw[hb]at hv;exact ih e he i v hv
    ·simp at he
  obtain⟨d,k,e,L',q,fr⟩:=s;cases q with
  |none=>exact fun t W hk hm=>hJ t W ⟨hk.size,fun i v hv=>hk.slot i v (key is e h1 i v hv)⟩ hm
  |some q=>exact fun j hj hle t hk=>hJ j hj hle t ⟨hk.size,fun i v hv=>hk.slot i v (key is e h1 i v hv)⟩
@[reducible] def VC.qc (g:bO)(args:List aa)(L1:aX)(v:aa)(A:VC C):VC C where
 pr:=lV C.P g ⟨args⟩ L1 C.S C.w0 v∧A.pr
 T:=(aj→iD Next)×Bool×aX×A.T
 l s:=((fun W=>(execOp (kV s.e) (lq s.nt s.k s.e)).run C.P W),((cur s.nt s.k s.e).isSome&&s.q.isSome),s.L,A.l (s.nx v))
 N p:=((fun W=>.ok (.enter g ⟨args⟩) W),true,L1,A.N p.2.2.2)
 ok s h hp:=by
  obtain⟨d,k,e,L',q,fr⟩:=s;simp only[af,av]at h;obtain⟨h1,⟨h2,h3⟩,rfl,h6⟩:=h;obtain⟨o,ho⟩:=aJ.1 h2;cases q with
  |none=>simp at h3
  |some q=>exact k5.call (R:=goal C fr) g ⟨args⟩ (fun W=>congrFun h1 W) (by simp[lq,ho]) hp.1 (A.ok ⟨d,_,_,L',some q,fr⟩ h6 hp.2)
@[reducible] def VC.so (j b off lo hi:Nat)(T:aC)(v:aa)(c:List aa)(F:Prop)(hF:F→off<c.length∧(off<lo∨hi≤off))(A:VC C):VC C:=
 .oE (fun P nt k e L=>(q8 nt k e,mc L j,v.oneCell',(P.info? T).map (·.size),lO L j,nD L j,k7 L j)) (some (T,.pointer (some ⟨b,off,none⟩),v),true,true,some 1,c,(lo,hi),b) F undef (fun L=>oP L j (c.set off v))
  (fun h hF' hn=>by
   simp only[af]at h;obtain⟨h1,h2,h3,h4,h5,h6,rfl⟩:=h;exact kO.xP j (by rw[h1,h2,h3,h4,h5,h6]) (hF hF').1 (hF hF').2 hn) A
abbrev VC.sr (j b off:Nat)(T:aC)(v:aa)(c:List aa)(A:VC C):VC C:=.so j b off 0 0 T v c (off<c.length) (fun h=>⟨h,.inr (Nat.zero_le _)⟩) A
end
section
variable {C:Cx}
def DG (P:aB)(rs:List ResultVar)(e:Env)(L:aX)(j j2:Nat):Option ((aa×aa)×(aa×aa)×aa):=
 match rs with
 | [.cell a T]=>match get? e a with
  | some p=>match mc L j with
   |true=>match mS P T (lO L j) (mG p)with
    |some v=>some ((p,uL (k7 L j) (mG p)),(undef,undef),v)
    |none=>none
   |false=>none
  |none=>none
 | [.cell a T,.cell b U]=>match get? e a with
  | some p=>match mc L j with
   | true=>match mS P T (lO L j) (mG p)with
    | some u=>match get? e b with
     | some q=>match mc L j2 with
      |true=>match mS P U (lO L j2) (mG q)with
       |some v=>some ((p,uL (k7 L j) (mG p)),(q,uL (k7 L j2) (mG q)),.tuple #[u,v])
       |none=>none
      |false=>none
     |none=>none
    |none=>none
   |false=>none
  |none=>none
 | [.cell a T,.tmp b]=>match get? e a with
  | some p=>match mc L j with
   | true=>match mS P T (lO L j) (mG p)with
    |some u=>match get? e b with
     |some v=>some ((p,uL (k7 L j) (mG p)),(undef,undef),.tuple #[u,v])
     |none=>none
    |none=>none
   |false=>none
  |none=>none
 |_=>none
theorem XF {P:aB}{fn:fu}{nt:Nat}{e:Env}{L:aX}{S:List Nat}{w0:aj}{j a1:Nat}{y z v:aa}(h:DG P fn.results.toList e L j a1=some ((y,y),(z,z),v)):n6 P fn nt e L S w0 v:=by
 unfold DG at h;split at h
 ·next a T hr=>
  have V:fn.results= #[.cell a T]:=by rw[←bR,hr]
  split at h
  ·next p hp=>
   split at h
   ·next hi=>
    split at h
    ·next u hu=>
     simp only[al,af]at h;obtain⟨⟨rfl,M⟩,_,rfl⟩:=h;have O:p=.pointer (some ⟨k7 L j,mG p,none⟩):=M.symm;rw[O]at hp;intro t W a4 hm;have a6:=zQ (P:=P) hm hi hu;have a3:t[a]?.getD undef=.pointer (some ⟨k7 L j,mG p,none⟩):=by rw[←Array.getD_eq_getD_getElem?];exact a4.getD hp
     simp[results,V,a3,asAddr,a6]
    ·cases h
   ·cases h
  ·cases h
 ·next a T b U hr=>
  have V:fn.results= #[.cell a T,.cell b U]:=by rw[←bR,hr]
  split at h
  ·next p hp=>
   split at h
   ·next hi=>
    split at h
    ·next u hu=>
     split at h
     ·next q hq=>
      split at h
      ·next hi2=>
       split at h
       ·next v' hv'=>
        simp only[al,af]at h;obtain⟨⟨rfl,M⟩,⟨rfl,a2⟩,rfl⟩:=h;have O:p=.pointer (some ⟨k7 L j,mG p,none⟩):=M.symm;have a5:q=.pointer (some ⟨k7 L a1,mG q,none⟩):=a2.symm;exact n6.qW j (mG p) a1 (mG q) V (by rw[hp,hi,hu,hq,hi2,hv',←O,←a5])
       ·cases h
      ·cases h
     ·cases h
    ·cases h
   ·cases h
  ·cases h
 ·next a T b hr=>
  have V:fn.results= #[.cell a T,.tmp b]:=by rw[←bR,hr]
  split at h
  ·next p hp=>
   split at h
   ·next hi=>
    split at h
    ·next u hu=>
     split at h
     ·next v' hq=>
      simp only[al,af]at h;obtain⟨⟨rfl,M⟩,_,rfl⟩:=h;have O:p=.pointer (some ⟨k7 L j,mG p,none⟩):=M.symm;exact n6.ct j (mG p) V (by rw[hp,hi,hu,hq,←O])
     ·cases h
    ·cases h
   ·cases h
  ·cases h
 ·cases h
@[reducible] def VC.rc (j j2:Nat)(v:aa)(L:aX):VC C where
 pr:=Fin C.R L C.S C.w0 v
 T:=Bool×Option ((aa×aa)×(aa×aa)×aa)×aX×Bool×Bool
 l s:=(oX s.k,DG C.P s.d.fn.results.toList s.e s.L j j2,s.L,s.fr.isEmpty,s.q.isNone)
 N p:=(true,(match p.2.1 with|some ((_,y),(_,z),_)=>some ((y,y),(z,z),v)|none=>some ((undef,undef),(undef,undef),undef)),L,true,true)
 ok s h hp:=by
  obtain⟨d,k,e,L',q,fr⟩:=s;simp only[af]at h;obtain⟨h1,h2,rfl,h4,h5⟩:=h;cases fr with
  |cons x r=>simp at h4
  | nil=>cases q with
   |some q=>simp at h5
   |none=>
    split at h2
    ·exact kO.CJ (v:=v) d.hf (by rw[h1]) (XF h2) hp
    ·next he=>rw[he]at h2;cases h2
@[reducible] def VC.rm (kd:bW)(x y:Int)(A:VC C):VC C:=.o1 FZ (some (.rem,.int kd x,.int kd y)) (y≠0) (.int kd (x.tmod y)) (fun h hb hn=>kO.rem h hb hn) (fun h hb hn=>k5.rem h hb hn) A
@[reducible] def VC.sl (kd kc:bW)(x y:Int)(A:VC C):VC C:=.o1 FZ (some (.shl,.int kd x,.int kc y)) (0≤y) (.int kd (kd.wrap (x*2^(min y.toNat kd.bits)))) (fun h hb hn=>kO.shl h hb hn) (fun h hb hn=>k5.shl h hb hn) A
@[reducible] def VC.nS (T:aC)(a:hO)(A:VC C):VC C:=
 .oT (fun P nt k e _=>(xD nt k e,(match P.underlying T with|some (.pointer E)=>(P.info? E).isSome|_=>false))) (some (.neq,T,.pointer (some a),.pointer (some a)),true) (.bool false)
  (fun h hn=>by
   simp only[af]at h;obtain⟨h1,h4⟩:=h;split at h4
   ·next E hf=>exact kO.W1 (by rw[h1,hf,h4]) hn
   ·cases h4) A
def yT (P:aB)(nt:Nat)(k:List bA)(e:Env):Option (aa×Option aa×Option aa×Option Nat):=match asSlice P nt k e with
 |some (some (.slice E),x,lo,hi,none)=>some (x,lo,hi,(P.info? E).map (·.size))
 |_=>none
theorem DZ {P:aB}{nt:Nat}{k:List bA}{e:Env}{x:aa}{lo hi:Option aa}{z:Option Nat}(h:yT P nt k e=some (x,lo,hi,z)):∃E,asSlice P nt k e=some (some (.slice E),x,lo,hi,none)∧(P.info? E).map (·.size)=z:=by
 unfold yT at h;split at h
 ·next hh=>simp only[al,af]at h;obtain⟨rfl,rfl,rfl,rfl⟩:=h;exact⟨_,hh,rfl⟩
 ·cases h
@[reducible] def VC.sL (b o len cap sz o' l' c':Nat)(lo hi:Option aa)(x y:Int)(A:VC C)(ho:o'=(if x.toNat=cap then o else o+x.toNat*sz):=by simp)(hl:l'=y.toNat-x.toNat:=by simp)(hc:c'=cap-x.toNat:=by simp)
  (hlo:(∃kd,lo=some (.int kd x))∨(lo=none∧x=0):=by first|exact .inl ⟨_,rfl⟩|exact .inr ⟨rfl,rfl⟩)(hhi:(∃kd,hi=some (.int kd y))∨(hi=none∧y=len):=by first|exact .inl ⟨_,rfl⟩|exact .inr ⟨rfl,rfl⟩):VC C:=
 .oE (fun P nt k e _=>yT P nt k e) (some (.slice (some ⟨b,o,none⟩) len cap,lo,hi,some sz)) (0≤x∧x≤y∧y≤cap) (.slice (some ⟨b,o',none⟩) l' c') id
  (fun h hb hn=>by
   obtain⟨E,h1,h2⟩:=DZ h;refine kO.rz (by rw[h1,h2]) hlo ?_ hb ho hl hc hn;rcases hhi with h|⟨h,h'⟩
   ·exact .inl h
   ·exact .inr ⟨h,h',by have:=hb.2.2;omega⟩) A
@[reducible] def VC.sU (p:OA)(len cap sz:Nat)(lo hi:Option aa)(y:Int)(v:Nat)(A:VC C)(hv:v=y.toNat:=by simp)
  (hlo:(∃kd,lo=some (.int kd 0))∨lo=none:=by first|exact .inr rfl|exact .inl ⟨_,rfl⟩)(hhi:(∃kd,hi=some (.int kd y))∨(hi=none∧y=len):=by first|exact .inl ⟨_,rfl⟩|exact .inr ⟨rfl,rfl⟩):VC C:=
 .oE (fun P nt k e _=>yT P nt k e) (some (.slice p len cap,lo,hi,some sz)) (0≤y∧y≤cap) (.slice p v cap) id
  (fun h hb hn=>by
   obtain⟨E,h1,h2⟩:=DZ h;subst hv;refine kO.Sz (by rw[h1,h2]) hlo ?_ hb hn;rcases hhi with h|⟨h,h'⟩
   ·exact .inl h
   ·exact .inr ⟨h,h',by have:=hb.2;omega⟩) A
end
section
variable {C:Cx}
@[reducible] def VC.mk' (fr:Bool)(E:aC)(kl kc:bW)(n m:Int)(z:aa)(bytes:Nat)(A:Nat→VC C):VC C where
 pr:=(0≤n∧n≤m∧(bytes:Int)*m≤281474976710656∧m≤9223372036854775807)∧∀B,(A B).pr
 T:=((Option (Option cN×aa×aa)×Option (Option aa×Nat×Nat)×Array aa)×Bool)×((B:Nat)→(A B).T)
 l s:=(((EC C.P s.nt s.k s.e,nj C.P E,z.cells),s.q.isNone),fun B=>(A B).l (s.hp (.slice (SO B) n.toNat m.toNat) (match fr with|true=>(B,.cells ⟨aA m.toNat z⟩ E)::s.L|false=>s.L++[(B,.cells ⟨aA m.toNat z⟩ E)])))
 N p:=(((some (some (.slice E),.int kl n,.int kc m),some (some z,1,bytes),#[z]),true),fun B=>(A B).N (p.2 B))
 ok s h hp:=by
  obtain⟨d,k,e,L',q,r⟩:=s;have h1:=congrArg (·.1.1) h;have h3:=congrArg (·.1.2) h;have h2:=congrArg (·.2) h;cases q with
  |some q=>exact absurd h3 (by simp)
  |none=>
   refine kO.make (R:=goal C r) h1 hp.1 fun B=>?_
   have:=(A B).ok _ (congrFun h2 B) (hp.2 B);cases fr with
   |false=>exact this
   |true=>exact kO.front this
@[reducible] def VC.tS (j b:Nat)(E:aC)(o len cap:Nat)(c:List aa)(l:List UInt8)(F:Prop)(hF:F→(c.drop o).take len=kU l∧l.length=len)(A:VC C):VC C:=
 .oE (fun P nt k e L=>(tU P nt k e,P.underlying E,mc L j,lO L j,k7 L j)) (some (some (.slice E),some .string,.slice (some ⟨b,o,none⟩) len cap),some (.int .u8),true,c,b) F (.string ⟨l.toArray⟩) id
  (fun h hF' hn=>by
   simp only[af]at h;obtain⟨h1,h2,h3,h4,rfl⟩:=h;exact kO.toString j (by rw[h1,h2,h3,h4]) (hF hF') hn) A
abbrev VC.tG (j b:Nat)(E:aC)(o len cap:Nat)(c:List aa)(l:List UInt8)(A:VC C):VC C:=.tS j b E o len cap c l ((c.drop o).take len=kU l∧l.length=len) id A
@[reducible] def VC.apd (j b:Nat)(E t:aC)(sz:Nat)(T U:aC)(s0:aa)(m c0:Nat)(news:List aa)(L1:aX)(K:KT C):VC C where
 pr:=mM C.P sz T U s0 m news L1 C.S C.w0 K.pr
 T:=((Option (gm×List aa×List aC)×aX×Bool)×(Option (Nat×Obj)×Option cN×Bool×Bool))×K.T
 l s:=(((oa s.nt s.k s.e,s.L,s.q.isNone),(s.L[j]?,C.P.underlying U,cB news.length (m*sz),rV news)),K.l fun v L'=>s.hp v L')
 N p:=(((some (.append,[s0,.slice (some ⟨b,0,none⟩) m c0],[T,U]),L1,true),(some (b,.cells ⟨news⟩ t (0,0)),some (.slice E),true,true)),K.N p.2)
 ok s h hp:=by
  obtain⟨d,k,e,L',q,r⟩:=s;have h1:=congrArg (·.1.1.1) h;have h3:=congrArg (·.1.1.2.2) h;have h4:=congrArg (·.1.1.2.1) h;have h5:=congrArg (·.1.2.1) h;have h6:=congrArg (·.1.2.2.1) h;have h7:=congrArg (·.1.2.2.2.1) h;have h8:=congrArg (·.1.2.2.2.2) h;have h2:=congrArg (·.2) h;cases q with
  |some q=>exact absurd h3 (by simp)
  |none=>
   subst h4;exact kO.vy (R:=goal C r) m news h1 (yf (bk h5) h6 (aP h7) (yj h8)) hp fun v L2 hk=>K.ok _ h2 v L2 hk
@[reducible] def VC.aq (sz:Nat)(T U:aC)(s0 x:aa)(m:Nat)(news:List aa)(L1:aX)(K:KT C):VC C where
 pr:=(∀W,Mem L1 C.S C.w0 W→eB C.P sz U x m news W)∧mM C.P sz T U s0 m news L1 C.S C.w0 K.pr
 T:=(Option (gm×List aa×List aC)×aX×Bool)×K.T
 l s:=((oa s.nt s.k s.e,s.L,s.q.isNone),K.l fun v L'=>s.hp v L')
 N p:=((some (.append,[s0,x],[T,U]),L1,true),K.N p.2)
 ok s h hp:=by
  obtain⟨d,k,e,L',q,r⟩:=s;have h1:=congrArg (·.1.1) h;have h3:=congrArg (·.1.2.2) h;have h4:=congrArg (·.1.2.1) h;have h2:=congrArg (·.2) h;cases q with
  |some q=>exact absurd h3 (by simp)
  |none=>
   subst h4;exact kO.vy (R:=goal C r) m news h1 hp.1 hp.2 fun v L2 hk=>K.ok _ h2 v L2 hk
abbrev VC.mU (b off:Nat)(T:aC)(c:List aa)(v:aa)(A:VC C):VC C where
 pr:=b∉C.S∧lG C.w0 b=some c∧c[off]?=some v∧A.pr
 T:=(Option (aC×aa)×Option Bool)×A.T
 l s:=((nI s.nt s.k s.e,(C.P.underlying T).map ur),A.l (s.nx v))
 N p:=((some (T,.pointer (some ⟨b,off,none⟩)),some false),A.N p.2)
 ok s h hp:=J.load (congrArg (·.1.1) h) (fun W hm=>Gr hp.1 hp.2.1 hm) (o4 hp.2.2.1 (congrArg (·.1.2) h)) (A.ok _ (congrArg (·.2) h) hp.2.2.2)
end
section
variable {C:Cx}
abbrev VC.r (n:Nat)(A:VC C):VC C:=.ru [n] A
abbrev VC.hp (L:aX)(f:aX→VC C):VC C:=f L
abbrev VC.P (n i:Nat)(p:Prop)[Decidable p](A B:VC C):VC C:=.ru [n] (.zP i p A B)
abbrev VC.I (n i:Nat)(p:Prop)[Decidable p](A B:VC C):VC C:=.ru [n] (.zI i p A B)
abbrev VC.B (n i:Nat)(b:Bool)(A B:VC C):VC C:=.ru [n] (.zB i b A B)
abbrev VC.sE (n i:Nat)(x y:BA)(A B:VC C):VC C:=.ru [n] (.O2 i x y A B)
abbrev VC.sN (n i:Nat)(x y:BA)(A B:VC C):VC C:=.ru [n] (.Zw i x y A B)
abbrev VC.re (n:Nat)(v:aa)(L:aX):VC C:=.ru [n] (.R1 v L)
abbrev VC.rk (n:Nat)(A:VC C):VC C:=.ru [n] (.XC A)
abbrev VC.cl (n:Nat)(g:bO)(args:List aa)(L:aX)(K:KT C):VC C:=.ru [n] (.Nu g args L K)
abbrev VC.np (n:Nat)(o:Obj)(f:Nat→VC C):VC C:=.ru [n] (.VL o f)
abbrev VC.nf (n:Nat)(o:Obj)(f:Nat→VC C):VC C:=.ru [n] (.Uj o f)
abbrev VC.li (n i:Nat)(x:Int)(f:Int→VC C):VC C:=.ru [n] (.oY i x f)
abbrev VC.ls (n i:Nat)(x:BA)(f:BA→VC C):VC C:=.ru [n] (.pI i x f)
abbrev VC.ct (n:Nat)(is:List Nat)(c:Cut):VC C:=.ru [n] (.Yj is c)
abbrev VC.cT (n:Nat)(is:List Nat)(m:Nat)(c:Cut):VC C:=.ru [n] (.P7 is m c)
abbrev VC.il (n:Nat){g:bO}{fn:fu}(hf:C.P.funcs[g]?=some fn)(args:List aa)(A:VC C):VC C:=.ru [n] (.V3 hf args A)
abbrev VC.c1 {α:Type}(n:Nat)(g:bO)(args:List aa)(L:aX)(v:α→aa)(A:α→VC C):VC C:=.ru [n] (.Nu g args L (.ex fun x=>.rt (v x) L (A x)))
end
section
variable {C:Cx}
structure SD (P:aB) where
 d:xm P
 ops:Array Oper
 n:Nat
 kk:List bA
 e:Env
 L:aX
 fr:List (Fr P)
structure SM (P:aB) where
 d:xm P
 ops:Array Oper
 n:Nat
 kk:List bA
 L0:aX
 k:List bA
 e:Env
 L:aX
 fr:List (Fr P)
structure SF (P:aB) where
 m:SM P
 M:List Nat
structure VD (C:Cx):Type 1 where
 pr:Prop
 T:Type
 l:SD C.P→T
 N:T→T
 ok:∀s,l s=N (l s)→pr→m8 C.P s.d.f s.d.fn.ntmps s.ops s.n s.kk s.e s.L C.S C.w0 (goal C s.fr)
def AK (C:Cx)(s:SM C.P):Prop:=lZ C.P s.d.f s.d.fn.ntmps s.ops s.n s.kk s.L0 s.k s.e s.L C.S C.w0 (goal C s.fr)
structure VM (C:Cx):Type 1 where
 pr:Prop
 T:Type
 l:SM C.P→T
 N:T→T
 ok:∀s,l s=N (l s)→pr→AK C s
def XI (C:Cx)(s:SF C.P):Prop:=ly C.P s.m.d.fn.ntmps s.m.k s.m.e s.m.L0 C.S C.w0 fun eF=>AK C {s.m with k:=[.inRegion s.m.ops s.M],e:=eF}
structure VF (C:Cx):Type 1 where
 pr:Prop
 T:Type
 l:SF C.P→T
 N:T→T
 ok:∀s,l s=N (l s)→pr→XI C s
structure KM (C:Cx):Type 1 where
 pr:aa→aX→Prop
 T:Type
 l:(aa→aX→SM C.P)→T
 N:T→T
 ok:∀b,l b=N (l b)→∀v L',pr v L'→AK C (b v L')
abbrev SF.to {P:aB}(s:SF P)(k:List bA)(e:Env):SF P:={s with m:={s.m with k:=k,e:=e}}
abbrev SM.nx {P:aB}(s:SM P)(v:aa)(L:aX):SM P:={s with k:=kZ s.k,e:=kX s.e (kW s.d.fn.ntmps s.k s.e) v,L:=L}
abbrev SM.pre {P:aB}(s:SM P):aX×aX:=(s.L.take s.L0.length,s.L0)
theorem SM.vt {P:aB}{s:SM P}{y:aX}(h:s.pre=(y,y)):s.L=s.L0++s.L.drop s.L0.length:=by
 simp only[SM.pre,af]at h
 conv=>lhs;rw[←dK s.L0.length s.L,h.1,←h.2]
@[reducible] def VC.dD (A:VD C):VC C where
 pr:=A.pr
 T:=(Bool×Bool×Bool)×A.T
 l s:=((sm s.k,C.P.follows .mixedOrders,s.q.isNone),A.l ⟨s.d,m7 s.k,0,uK s.k,s.e,s.L,s.fr⟩)
 N p:=((true,true,true),A.N p.2)
 ok s h hp:=by
  obtain⟨d,k,e,L,q,fr⟩:=s;simp only[af]at h;cases q with
  |some q=>exact absurd h.1.2.2 (by simp)
  |none=>exact kO.Jp (by rw[h.1.1,h.1.2.1]) (A.ok ⟨d,_,0,_,e,L,fr⟩ h.2 hp)
@[reducible] def VD.tl (A:VC C):VD C where
 pr:=A.pr
 T:=Bool×A.T
 l s:=(Region.seqB .any s.ops (s.ops.size-s.n) s.n (py s.n s.ops.size),A.l ⟨s.d,wI s.ops s.n s.kk,s.e,s.L,none,s.fr⟩)
 N p:=(true,A.N p.2)
 ok s h hp:=by
  simp only[af]at h;exact m8.tail h.1 (A.ok ⟨s.d,_,s.e,s.L,none,s.fr⟩ h.2 hp)
@[reducible] def VD.ph (n:Nat)(F M:List Nat)(r:Nat)(A:VF C):VD C where
 pr:=A.pr
 T:=Bool×A.T
 l s:=(yD s.ops s.n n s.e F M,A.l ⟨⟨s.d,s.ops,n,s.kk,s.L.take r,[.inRegion s.ops F],s.e,s.L,s.fr⟩,M⟩)
 N p:=(true,A.N p.2)
 ok s h hp:=by
  simp only[af]at h;exact m8.phase n F M (s.L.take r) h.1 (dK r s.L).symm (A.ok ⟨⟨s.d,s.ops,n,s.kk,s.L.take r,_,s.e,s.L,s.fr⟩,M⟩ h.2 hp)
theorem XR {α:Type}{P:aB}{nt j:Nat}{k:List bA}{e:Env}{L:aX}{S:List Nat}{w0:aj}{G:Env→Prop}{K:List bA→Env→α}{v y:aa}{t:α}
  (h:qs P nt j k e L K=((fun W=>(true,W,v)),(true,v,(y,y)),t))(hn:∀k e,K k e=t→ly P nt k e L S w0 G):ly P nt k e L S w0 G:=by
 unfold qs at h;split at h
 ·split at h
  ·next d hd=>
   simp only[af]at h;have a4:oA nt k e=d:=by simp[oA,hd]
   exact ly.skip (by rw[a4,hd]) (hn _ _ (by rw[a4];exact h.2.2))
  ·simp only[af]at h
   obtain⟨O,⟨V,a1,_⟩,a2⟩:=h;obtain⟨o,a6⟩:=aJ.1 V;have hc:cur nt k e=some (lq nt k e):=by simp[lq,a6]
   refine ly.pure hc (fun W=>?_) (hn _ _ a2);have M:=congrFun O W;split at M
   ·next v' W' hr=>simp only[af,true_and]at M;rw[hr,M.1,M.2,a1]
   ·simp at M
 ·split at h
  ·next j _ T p ha=>
   simp only[af,av]at h;obtain⟨_,⟨⟨O,V⟩,_,a1,a2⟩,a3⟩:=h;obtain⟨u,a5⟩:=aJ.1 V;have hp:p=.pointer (some ⟨k7 L j,mG p,none⟩):=a1.trans a2.symm;rw[a5]at a3;exact ly.load j (mG p) (v:=u) (T:=T) (by rw[ha,O,a5,←hp]) (hn _ _ a3)
  ·simp at h
theorem Lt {T:Type}{P:aB}{nt:Nat}{S:List Nat}{w0:aj}{G:Env→Prop}{L:aX}{K:List bA→Env→T}{N:T→T}(V:∀k e,K k e=N (K k e)→ly P nt k e L S w0 G):
  ∀(M:List Nat) (k:List bA) (e:Env),lQ P nt L K M k e=NQ N M (lQ P nt L K M k e)→ly P nt k e L S w0 G
 |[],k,e,h=>V k e h
 |n::r,k,e,h=>by
  simp only[NQ,lQ]at h
  revert h
  generalize hg:qs P nt n k e L (lQ P nt L K r)=g;obtain⟨g1,⟨b,v,⟨x,y⟩⟩,O⟩:=g;intro h;have a3:g1=(fun W=>(true,W,v)):=congrArg (·.1) h;have a1:(b,v,(x,y))=(true,v,(y,y)):=congrArg (·.2.1) h;have a2:O=NQ N r O:=congrArg (·.2.2) h;clear h;simp only[af]at a1;obtain⟨rfl,_,rfl,_⟩:=a1;subst a3;exact XR hg fun k' e' a4=>Lt V r k' e' (by rw[a4];exact a2)
@[reducible] def VF.qu (hs:List Nat)(A:VF C):VF C where
 pr:=A.pr
 T:=TQ (qx hs) A.T
 l s:=lQ C.P s.m.d.fn.ntmps s.m.L0 (fun k e=>A.l (s.to k e)) (qx hs) s.m.k s.m.e
 N p:=NQ A.N (qx hs) p
 ok s h hp:=Lt (P:=C.P) (S:=C.S) (w0:=C.w0) (nt:=s.m.d.fn.ntmps) (L:=s.m.L0) (G:=fun eF=>AK C {s.m with k:=[.inRegion s.m.ops s.M],e:=eF}) (N:=A.N) (fun k e hh=>A.ok (s.to k e) hh hp) (qx hs) s.m.k s.m.e h
@[reducible] def VF.ex {α:Type}(f:α→VF C):VF C where
 pr:=∃x,(f x).pr
 T:=(x:α)→(f x).T
 l s:=fun x=>(f x).l s
 N g:=fun x=>(f x).N (g x)
 ok s h hp:=hp.elim fun x hx=>(f x).ok s (congrFun h x) hx
abbrev VF.hp (L:aX)(f:aX→VF C):VF C:=f L
@[reducible] def VF.qc (g:bO)(args:List aa)(L1:aX)(v:aa)(A:VF C):VF C where
 pr:=m3 C.P g ⟨args⟩ L1 C.S C.w0 v∧A.pr
 T:=(aj→iD Next)×Bool×aX×A.T
 l s:=((fun W=>(execOp (kV s.m.e) (lq s.m.d.fn.ntmps s.m.k s.m.e)).run C.P W),(cur s.m.d.fn.ntmps s.m.k s.m.e).isSome,s.m.L0,A.l (s.to (kZ s.m.k) (kX s.m.e (kW s.m.d.fn.ntmps s.m.k s.m.e) v)))
 N p:=((fun W=>.ok (.enter g ⟨args⟩) W),true,L1,A.N p.2.2.2)
 ok s h hp:=by
  simp only[af]at h;obtain⟨h1,h2,h3,h6⟩:=h;obtain⟨o,ho⟩:=aJ.1 h2;subst h3;exact ly.call g ⟨args⟩ (fun W=>congrFun h1 W) (by simp[lq,ho]) hp.1 (A.ok (s.to _ _) h6 hp.2)
@[reducible] def VF.b2 (i:Nat)(p q:Prop)(v:Bool)(h1:v=true→p)(h0:v=false→q)(A B:VF C):VF C where
 pr:=(p→A.pr)∧(q→B.pr)
 T:=Option aa×A.T×B.T
 l s:=(get? s.m.e i,A.l (s.to s.m.k ((i,.bool true)::s.m.e)),B.l (s.to s.m.k ((i,.bool false)::s.m.e)))
 N g:=(some (.bool v),A.N g.2.1,B.N g.2.2)
 ok s h hp:=ly.split i (congrArg (·.1) h) (fun hb=>A.ok (s.to s.m.k ((i,.bool true)::s.m.e)) (congrArg (·.2.1) h) (hp.1 (h1 hb))) fun hb=>B.ok (s.to s.m.k ((i,.bool false)::s.m.e)) (congrArg (·.2.2) h) (hp.2 (h0 hb))
abbrev VF.zP (i:Nat)(p:Prop)[Decidable p](A B:VF C):VF C:=.b2 i p (¬p) (decide p) of_decide_eq_true of_decide_eq_false A B
abbrev VF.zB (i:Nat)(b:Bool)(A B:VF C):VF C:=.b2 i (b=true) (b=false) b id id A B
@[reducible] def VF.o1 {δ:Type}(dat:aB→Nat→List bA→Env→δ)(d0:δ)(F:Prop)(v:aa)
  (hF:∀{nt k e L} {G:Env→Prop},dat C.P nt k e=d0→F→ly C.P nt (kZ k) (kX e (kW nt k e) v) L C.S C.w0 G→ly C.P nt k e L C.S C.w0 G)(A:VF C):VF C where
 pr:=F∧A.pr
 T:=δ×A.T
 l s:=(dat C.P s.m.d.fn.ntmps s.m.k s.m.e,A.l (s.to (kZ s.m.k) (kX s.m.e (kW s.m.d.fn.ntmps s.m.k s.m.e) v)))
 N g:=(d0,A.N g.2)
 ok s h hp:=hF (congrArg (·.1) h) hp.1 (A.ok (s.to _ _) (congrArg (·.2) h) hp.2)
@[reducible] def VF.ss (s:BA)(a b:Int)(A:VF C):VF C:=.o1 A2 (some (s,some a,some b)) (0≤a∧a≤b∧b≤s.size) (.string (s.extract a.toNat b.toNat))
 (fun h hb hn=>by obtain⟨lo,hi,h1,h2,h3⟩:=Fu h;exact ly.sj h1 h2 h3 hb hn) A
@[reducible] def VF.dn (A:VM C):VF C where
 pr:=A.pr
 T:=Bool×A.T
 l s:=(Cj s.m.k,A.l {s.m with k:=[.inRegion s.m.ops s.M]})
 N p:=(true,A.N p.2)
 ok s h hp:=ly.done (congrArg (·.1) h) (A.ok {s.m with k:=[.inRegion s.m.ops s.M]} (congrArg (·.2) h) hp)
def ms {α:Type}(P:aB)(nt h:Nat)(k:List bA)(e:Env)(L:aX)(K:List bA→Env→aX→α):(aj→Bool×aj×aa)×(Bool×aa×(aa×aa))×α:=
 match h with
 |0=>match ry nt k e with
  |some d=>((fun W=>(true,W,undef)),(true,undef,(undef,undef)),K (kZ k) (kX e d undef) L)
  | none=>((fun W=>match(execOp (kV e) (lq nt k e)).run P W with| .ok (.value v) W'=>(true,W',v)|_=>(false,W,undef)),
    ((cur nt k e).isSome,vQ P nt k e,(undef,undef)),K (kZ k) (kX e (kW nt k e) (vQ P nt k e)) L)
 |j+1=>match q8 nt k e with
  | some (T,p,v)=>((fun W=>(true,W,undef)),((mc L j&&(cB (nD L j).1 0&&(cB (nD L j).2 0&&vi P T (lO L j) (mG p) v))),undef,(p,uL (k7 L j) (mG p))),
    K (kZ k) (kX e (kW nt k e) undef) (oP L j (tC P T (lO L j) (mG p) v)))
  |none=>((fun W=>(true,W,undef)),(false,undef,(undef,undef)),K k e L)
@[reducible] def VM.st (h:Nat)(A:VM C):VM C where
 pr:=A.pr
 T:=(aX×aX)×(aj→Bool×aj×aa)×(Bool×aa×(aa×aa))×A.T
 l s:=(s.pre,ms C.P s.d.fn.ntmps h s.k s.e s.L fun k e L=>A.l {s with k:=k,e:=e,L:=L})
 N p:=((p.1.2,p.1.2),(fun W=>(true,W,p.2.2.1.2.1)),(true,p.2.2.1.2.1,(p.2.2.1.2.2.2,p.2.2.1.2.2.2)),A.N p.2.2.2)
 ok s h0 hp:=by
  have hl:=SM.vt (congrArg (·.1) h0);have h:=congrArg (·.2) h0;clear h0;show lZ _ _ _ _ _ _ _ _ _ _ _ _ _;dsimp only at h;unfold ms at h;split at h
  ·split at h
   ·next d hd=>
    have hs:oA s.d.fn.ntmps s.k s.e=d:=by simp[oA,hd]
    exact lZ.skip _ (by rw[hs,hd]) hl (by rw[hs];exact A.ok {s with k:=kZ s.k,e:=kX s.e d undef,L:=s.L} (congrArg (·.2.2) h) hp)
   ·have h1:=congrArg (·.1) h
    have h2:=congrArg (·.2.1.1) h;have h4:=congrArg (·.2.2) h;obtain⟨o,ho⟩:=aJ.1 h2;have hc:cur s.d.fn.ntmps s.k s.e=some (lq s.d.fn.ntmps s.k s.e):=by simp[lq,ho]
    refine lZ.pure _ hl hc (fun W=>?_) (A.ok {s with k:=kZ s.k,e:=kX s.e _ _,L:=s.L} h4 hp);have hW:=congrFun h1 W;dsimp only at hW;split at hW
    ·next v' W' hr=>simp only[af,true_and]at hW;rw[hr,hW.1,hW.2]
    ·simp at hW
  ·split at h
   ·next j _ T p v ha=>
    have h2:=congrArg (·.2.1.1) h;have h3:=congrArg (·.2.1.2.2.1) h;have h4:=congrArg (·.2.2) h;simp only[av]at h2;obtain⟨h5,ha0,hb0,h6⟩:=h2;have hp':p=.pointer (some ⟨k7 s.L j,mG p,none⟩):=h3;have hz:nD s.L j=(0,0):=Prod.ext (aP ha0) (aP hb0);exact lZ.store _ j (mG p) (v:=v) (T:=T) hl (by rw[ha,h5,hz,h6,←hp']) (A.ok {s with k:=kZ s.k,e:=kX s.e _ undef,L:=oP s.L j _} h4 hp)
   ·exact absurd (congrArg (·.2.1.1) h) (by simp)
@[reducible] def VM.np (mk:Nat→aa)(o:Obj)(f:Nat→VM C):VM C where
 pr:=∀B,(f B).pr
 T:=(aX×aX)×(aj→iD Next)×Bool×((B:Nat)→(f B).T)
 l s:=(s.pre,(fun W=>(execOp (kV s.e) (lq s.d.fn.ntmps s.k s.e)).run C.P W),(cur s.d.fn.ntmps s.k s.e).isSome,fun B=>(f B).l (s.nx (mk B) (s.L++[(B,o)])))
 N p:=((p.1.2,p.1.2),(fun W=>.ok (.value (mk W.heap.size)) {W with heap:=W.heap.push o}),true,fun B=>(f B).N (p.2.2.2 B))
 ok s h hp:=by
  have hl:=SM.vt (congrArg (·.1) h);have h1:=congrArg (·.2.1) h;have h2:=congrArg (·.2.2.1) h;have h3:=congrArg (·.2.2.2) h;obtain⟨o',ho⟩:=aJ.1 h2;exact lZ.new _ mk o hl (fun W=>congrFun h1 W) (by simp[lq,ho]) fun B=>(f B).ok (s.nx (mk B) (s.L++[(B,o)])) (congrFun h3 B) (hp B)
abbrev VM.n1 (o:Obj)(f:Nat→VM C):VM C:=.np (fun B=>PP B) o f
abbrev VM.n2 (n:Nat)(o:Obj)(f:Nat→VM C):VM C:=.np (fun B=>.slice (SO B) n n) o f
@[reducible] def KM.ex {α:Type}(f:α→KM C):KM C where
 pr v L:=∃x,(f x).pr v L
 T:=(x:α)→(f x).T
 l b:=fun x=>(f x).l b
 N g:=fun x=>(f x).N (g x)
 ok b h v L' hp:=hp.elim fun x hx=>(f x).ok b (congrFun h x) v L' hx
abbrev KM.x2 {α β:Type}(f:α→β→KM C):KM C:=.ex fun a=>.ex (f a)
abbrev KM.x3 {α β γ:Type}(f:α→β→γ→KM C):KM C:=.ex fun a=>.x2 (f a)
abbrev KM.x4 {α β γ δ:Type}(f:α→β→γ→δ→KM C):KM C:=.ex fun a=>.x3 (f a)
abbrev KM.x5 {α β γ δ ε:Type}(f:α→β→γ→δ→ε→KM C):KM C:=.ex fun a=>.x4 (f a)
@[reducible] def KM.rt (v0:aa)(L0:aX)(A:VM C):KM C where
 pr v L:=v=v0∧L=L0∧A.pr
 T:=A.T
 l b:=A.l (b v0 L0)
 N:=A.N
 ok b h v L' hp:=by obtain⟨rfl,rfl,hp⟩:=hp;exact A.ok _ h hp
@[reducible] def VM.cl (g:bO)(args:List aa)(L1:aX)(K:KM C):VM C where
 pr:=eA C.P g ⟨args⟩ L1 C.S C.w0 K.pr
 T:=(aX×aX)×(aj→iD Next)×Bool×aX×K.T
 l s:=(s.pre,(fun W=>(execOp (kV s.e) (lq s.d.fn.ntmps s.k s.e)).run C.P W),(cur s.d.fn.ntmps s.k s.e).isSome,s.L,K.l fun v L'=>s.nx v L')
 N p:=((p.1.2,p.1.2),(fun W=>.ok (.enter g ⟨args⟩) W),true,L1,K.N p.2.2.2.2)
 ok s h hp:=by
  have hl:=SM.vt (congrArg (·.1) h);have h1:=congrArg (·.2.1) h;have h2:=congrArg (·.2.2.1) h;have h3:=congrArg (·.2.2.2.1) h;have h4:=congrArg (·.2.2.2.2) h;obtain⟨o',ho⟩:=aJ.1 h2;exact lZ.call _ g ⟨args⟩ hl (fun W=>congrFun h1 W) (by rw[show s.L=L1 from h3];simp[lq,ho]) hp fun v L2 hk=>K.ok (fun v L'=>s.nx v L') h4 v L2 hk
abbrev VM.hp (L:aX)(f:aX→VM C):VM C:=f L
@[reducible] def VM.dn (A:VD C):VM C where
 pr:=A.pr
 T:=(aX×aX)×(List bA×List bA)×A.T
 l s:=(s.pre,(s.k,[.inRegion s.ops []]),A.l ⟨s.d,s.ops,s.n,s.kk,s.e,s.L,s.fr⟩)
 N p:=((p.1.2,p.1.2),(p.2.1.2,p.2.1.2),A.N p.2.2)
 ok s h hp:=lZ.done _ (congrArg (·.2.1.1) h) (SM.vt (congrArg (·.1) h)) (A.ok ⟨s.d,s.ops,s.n,s.kk,s.e,s.L,s.fr⟩ (congrArg (·.2.2) h) hp)
@[reducible] def VM.df (B:Nat)(o:Obj)(L1:aX)(A:VD C):VM C where
 pr:=A.pr
 T:=(aX×aX)×(List bA×List bA)×aX×A.T
 l s:=(s.pre,(s.k,[.inRegion s.ops []]),s.L,A.l ⟨s.d,s.ops,s.n,s.kk,s.e,(B,o)::L1,s.fr⟩)
 N p:=((p.1.2,p.1.2),(p.2.1.2,p.2.1.2),L1++[(B,o)],A.N p.2.2.2)
 ok s h hp:=by
  have h3:=congrArg (·.2.2.1) h;refine lZ.done _ (congrArg (·.2.1.1) h) (SM.vt (congrArg (·.1) h)) ?_;have:=A.ok ⟨s.d,s.ops,s.n,s.kk,s.e,(B,o)::L1,s.fr⟩ (congrArg (·.2.2.2) h) hp;rw[show s.L=L1++[(B,o)]from h3];exact m8.front this
theorem S6 {s:St C.P}{a2:List Nat}{e':Env}(h:restrict s.e a2=some e')(hn:J C {s with e:=e'}):J C s:=by
 obtain⟨d,k,e,L,q,fr⟩:=s;cases q with
 |none=>exact fun t W M hm=>hn t W ⟨M.size,fun i v O=>M.slot i v (tP h i v O)⟩ hm
 |some q=>exact fun j V a1 t M=>hn j V a1 t ⟨M.size,fun i v O=>M.slot i v (tP h i v O)⟩
@[reducible] def VC.nm (is:List Nat)(A:VC C):VC C where
 pr:=A.pr
 T:=Bool×A.T
 l s:=match restrict s.e is with
  |some e'=>(true,A.l {s with e:=e'})
  |none=>(false,A.l s)
 N p:=(true,A.N p.2)
 ok s h hp:=by
  cases hr:restrict s.e is with
  |none=>rw[hr]at h;exact absurd (congrArg (·.1) h) (by simp)
  |some e'=>rw[hr]at h;exact S6 hr (A.ok {s with e:=e'} (congrArg (·.2) h) hp)
@[reducible] def VD.nm (is:List Nat)(A:VD C):VD C where
 pr:=A.pr
 T:=Bool×A.T
 l s:=match restrict s.e is with
  |some e'=>(true,A.l {s with e:=e'})
  |none=>(false,A.l s)
 N p:=(true,A.N p.2)
 ok s h hp:=by
  cases hr:restrict s.e is with
  |none=>rw[hr]at h;exact absurd (congrArg (·.1) h) (by simp)
  |some e'=>
   rw[hr]at h;have:=A.ok {s with e:=e'} (congrArg (·.2) h) hp;exact fun τ t W hk hm=>this τ t W ⟨hk.size,fun i v hv=>hk.slot i v (tP hr i v hv)⟩ hm
@[reducible] def VC.pm (is:List Nat)(A:VC C):VC C where
 pr:=A.pr
 T:=Bool×A.T
 l s:=((o5 is&&s.q.isNone),A.l {s with L:=nE s.L is})
 N p:=(true,A.N p.2)
 ok s h hp:=by
  obtain⟨d,k,e,L,q,fr⟩:=s;have h1:=congrArg (·.1) h;simp only[av]at h1;cases q with
  |some q=>exact absurd h1.2 (by simp)
  |none=>
   have:=A.ok ⟨d,k,e,nE L is,none,fr⟩ (congrArg (·.2) h) hp;exact fun t W hk hm=>this t W hk (hm.vB (rY h1.1))
@[reducible] def VC.pT (is:List Nat)(m:Nat)(A:VC C):VC C where
 pr:=A.pr
 T:=Bool×A.T
 l s:=((o5 is&&s.q.isNone),A.l {s with L:=nE (s.L.take m) is++s.L.drop m})
 N p:=(true,A.N p.2)
 ok s h hp:=by
  obtain⟨d,k,e,L,q,fr⟩:=s;have h1:=congrArg (·.1) h;simp only[av]at h1;cases q with
  |some q=>exact absurd h1.2 (by simp)
  |none=>
   have:=A.ok ⟨d,k,e,nE (L.take m) is++L.drop m,none,fr⟩ (congrArg (·.2) h) hp;intro t W hk hm;have hm':Mem (L.take m++L.drop m) C.S C.w0 W:=by rw[dK];exact hm
   exact this t W hk (hm'.CG (rY h1.1))
end
section
variable {C:Cx}
def vC (P:aB)(nt:Nat)(k:List bA)(e:Env)(T E:aC):Option (gm×List aa×List aC)×Option cN×Option (Option Nat×Nat×Nat):=
 (oa nt k e,P.underlying T,(nj P E).map fun x=>(x.1.map (·.cells.size),x.2))
theorem xK {P:aB}{nt:Nat}{k:List bA}{e:Env}{T E sz bytes:Nat}{O:Option (gm×List aa×List aC)}(h:vC P nt k e T E=(O,some (.slice E),some (some sz,sz,bytes))):
  ∃z,oa nt k e=O∧P.underlying T=some (.slice E)∧nj P E=some (some z,sz,bytes)∧z.cells.size=sz:=by
 simp only[vC,af]at h;obtain⟨V,a1,M⟩:=h;cases hi:nj P E with
 |none=>rw[hi]at M;cases M
 |some x=>
  rw[hi]at M;obtain⟨z,a,b⟩:=x;simp only[bL,al,af]at M;obtain⟨M,rfl,rfl⟩:=M;cases z with
  |none=>cases M
  |some z=>exact⟨z,V,a1,rfl,bY M⟩
def vJ (fr:Bool)(b:Nat×Obj)(L:aX):aX:=match fr with|true=>b::L|false=>L++[b]
theorem zo {P:aB}{f nt:Nat}{k:List bA}{e:Env}{L:aX}{S:List Nat}{w0:aj}{R:Goal P}{fr:Bool}{b:Nat×Obj}(h:kO P f nt k e (vJ fr b L) S w0 R):kO P f nt k e (L++[b]) S w0 R:=by
 cases fr with
 |false=>exact h
 |true=>exact kO.front h
@[reducible] def VC.aN (fr:Bool)(j b o m c:Nat)(T E sz bytes:Nat)(news:List aa)(A:Nat→Nat→List aa→VC C):VC C where
 pr:=∀B cap r,m≤cap→(news++r).length=cap*sz→(A B cap r).pr
 T:=((Option (gm×List aa×List aC)×Option cN×Option (Option Nat×Nat×Nat))×(Bool×Nat×List aa)×Bool×Bool)×((B:Nat)→(cap:Nat)→(r:List aa)→(A B cap r).T)
 l s:=((vC C.P s.nt s.k s.e T E,(mc s.L j,k7 s.L j,((lO s.L j).drop o).take (m*sz)),(cB news.length (m*sz)&&(cC 1 m&&(cC m 9223372036854775807&&cC (m*bytes) 140737488355328))),s.q.isNone),
  fun B cap r=>(A B cap r).l (s.hp (.slice (SO B) m cap) (vJ fr (B,.cells ⟨news++r⟩ E) s.L)))
 N p:=(((some (.append,[.slice none 0 0,.slice (some ⟨b,o,none⟩) m c],[T,T]),some (.slice E),some (some sz,sz,bytes)),(true,b,news),true,true),fun B cap r=>(A B cap r).N (p.2 B cap r))
 ok s h hp:=by
  obtain⟨d,k,e,L,q,r0⟩:=s;cases q with
  |some q=>exact absurd (congrArg (fun x=>x.1.2.2.2) h) (by simp)
  | none=>
   have h7:=congrArg Prod.snd h;have h:=congrArg kK h;obtain⟨h1,h⟩:=bD h;obtain⟨h2,h⟩:=bD h;obtain⟨h2,h3⟩:=bD h2;obtain⟨h3,h4⟩:=bD h3;obtain⟨h5,-⟩:=bD h;obtain⟨z,g1,g2,g3,g4⟩:=xK h1;simp only[av]at h5;obtain⟨k1,k2,k3,k4⟩:=h5;have hs:=Src.own (L:=L) (S:=C.S) (w0:=C.w0) (j:=j) (o:=o) (n:=m*sz) (c:=lO L j) (by rw[h2]);rw[h3,h4]at hs;exact kO.MO (R:=goal C r0) news (by rw[g1,g2,g3,g4]) hs (aP k1) (bl k2) ⟨bl k3,bl k4⟩
    fun B cap r x1 x2=>zo ((A B cap r).ok ⟨d,_,_,_,none,r0⟩ (congrFun (congrFun (congrFun h7 B) cap) r) (hp B cap r x1 x2))
def wx (L:aX)(j:Nat):Bool×Nat×List aa×aC×Nat×Nat:=(mc L j,k7 L j,lO L j,rv L j,nD L j)
@[reducible] def VC.aO (fr:Bool)(j b1 n cp:Nat)(cs:List aa)(j2 b o m c:Nat)(T E sz bytes:Nat)(news:List aa)(A:Nat→Nat→List aa→VC C):VC C where
 pr:=(n≤cp∧cs.length=cp*sz)∧(n+m≤9223372036854775807∧(n+m)*bytes≤140737488355328)∧∀B cap r,n+m≤cap→(cs.take (n*sz)++news++r).length=cap*sz→(A B cap r).pr
 T:=((Option (gm×List aa×List aC)×Option cN×Option (Option Nat×Nat×Nat))×(Bool×Nat×List aa)×(Bool×Nat×List aa×aC×Nat×Nat)×Bool×Bool)×((B:Nat)→(cap:Nat)→(r:List aa)→(A B cap r).T)
 l s:=((vC C.P s.nt s.k s.e T E,(mc s.L j2,k7 s.L j2,((lO s.L j2).drop o).take (m*sz)),wx s.L j,(cB news.length (m*sz)&&rV news),s.q.isNone),
  fun B cap r=>(A B cap r).l (s.hp (.slice (SO B) (n+m) cap) (vJ fr (B,.cells ⟨cs.take (n*sz)++news++r⟩ E) (s.L.eraseIdx j))))
 N p:=(((some (.append,[.slice (some ⟨b1,0,none⟩) n cp,.slice (some ⟨b,o,none⟩) m c],[T,T]),some (.slice E),some (some sz,sz,bytes)),(true,b,news),(true,b1,cs,E,(0,0)),true,true),fun B cap r=>(A B cap r).N (p.2 B cap r))
 ok s h hp:=by
  obtain⟨d,k,e,L,q,r0⟩:=s;cases q with
  |some q=>exact absurd (congrArg (fun x=>x.1.2.2.2.2) h) (by simp)
  | none=>
   have h7:=congrArg Prod.snd h;have h:=congrArg kK h;obtain⟨h1,h⟩:=bD h;obtain⟨h2,h⟩:=bD h;obtain⟨h2,h3⟩:=bD h2;obtain⟨h3,h4⟩:=bD h3;obtain⟨h6,h⟩:=bD h;obtain⟨h5,-⟩:=bD h;simp only[wx,af]at h6;obtain⟨i1,rfl,i3,i4,i5⟩:=h6;obtain⟨z,g1,g2,g3,g4⟩:=xK h1;simp only[av]at h5;have hs:=Src.own (L:=L) (S:=C.S) (w0:=C.w0) (j:=j2) (o:=o) (n:=m*sz) (c:=lO L j2) (by rw[h2]);rw[h3,h4]at hs;exact kO.Ge (R:=goal C r0) j (z:=z) (cs:=cs) news (by rw[g1,g2,g3,g4,i1,i3,i4,i5]) hs (aP h5.1) (yj h5.2) hp.1 hp.2.1
    fun B cap r x1 x2=>zo ((A B cap r).ok ⟨d,_,_,_,none,r0⟩ (congrFun (congrFun (congrFun h7 B) cap) r) (hp.2.2 B cap r x1 x2))
@[reducible] def VC.aS (fr:Bool)(T U E bytes:Nat)(s0:BA)(A0:VC C)(A:Nat→Nat→List aa→VC C):VC C where
 pr:=(s0.size≤9223372036854775807∧s0.size*bytes≤140737488355328)∧(s0.size=0→A0.pr)∧(0<s0.size→∀B cap r,s0.size≤cap→((kU s0.data.toList)++r).length=cap*1→(A B cap r).pr)
 T:=((Option (gm×List aa×List aC)×Option cN×Option (Option Nat×Nat×Nat))×Option cN×Bool)×A0.T×((B:Nat)→(cap:Nat)→(r:List aa)→(A B cap r).T)
 l s:=((vC C.P s.nt s.k s.e T E,C.P.underlying U,s.q.isNone),A0.l (s.nx (.slice none 0 0)),fun B cap r=>(A B cap r).l (s.hp (.slice (SO B) s0.size cap) (vJ fr (B,.cells ⟨(kU s0.data.toList)++r⟩ E) s.L)))
 N p:=(((some (.append,[.slice none 0 0,.string s0],[T,U]),some (.slice E),some (some 1,1,bytes)),some .string,true),A0.N p.2.1,fun B cap r=>(A B cap r).N (p.2.2 B cap r))
 ok s h hp:=by
  obtain⟨d,k,e,L,q,r0⟩:=s;cases q with
  |some q=>exact absurd (congrArg (fun x=>x.1.2.2) h) (by simp)
  | none=>
   obtain⟨h,h7⟩:=bD h;obtain⟨h7,h8⟩:=bD h7;obtain⟨h1,h⟩:=bD h;obtain⟨hU,-⟩:=bD h;obtain⟨z,g1,g2,g3,g4⟩:=xK h1;exact kO.uc (R:=goal C r0) s0.size (kU s0.data.toList) (by rw[g1,g2,g3,g4]) (Gs hU s0) hp.1 (fun h0=>A0.ok ⟨d,_,_,_,none,r0⟩ h7 (hp.2.1 h0))
    fun h0 B cap r x1 x2=>zo ((A B cap r).ok ⟨d,_,_,_,none,r0⟩ (congrFun (congrFun (congrFun h8 B) cap) r) (hp.2.2 h0 B cap r x1 x2))
@[reducible] def VC.oS (fr:Bool)(j b1 len cp:Nat)(cs:List aa)(T U E bytes:Nat)(s0:BA)(A:Nat→Nat→List aa→VC C):VC C where
 pr:=(len≤cp∧cs.length=cp*1)∧(len+s0.size≤9223372036854775807∧(len+s0.size)*bytes≤140737488355328)∧∀B cap r,len+s0.size≤cap→(cs.take (len*1)++(kU s0.data.toList)++r).length=cap*1→(A B cap r).pr
 T:=((Option (gm×List aa×List aC)×Option cN×Option (Option Nat×Nat×Nat))×(Bool×Nat×List aa×aC×Nat×Nat)×Option cN×Bool)×((B:Nat)→(cap:Nat)→(r:List aa)→(A B cap r).T)
 l s:=((vC C.P s.nt s.k s.e T E,wx s.L j,C.P.underlying U,s.q.isNone),fun B cap r=>(A B cap r).l (s.hp (.slice (SO B) (len+s0.size) cap) (vJ fr (B,.cells ⟨cs.take (len*1)++(kU s0.data.toList)++r⟩ E) (s.L.eraseIdx j))))
 N p:=(((some (.append,[.slice (some ⟨b1,0,none⟩) len cp,.string s0],[T,U]),some (.slice E),some (some 1,1,bytes)),(true,b1,cs,E,(0,0)),some .string,true),fun B cap r=>(A B cap r).N (p.2 B cap r))
 ok s h hp:=by
  obtain⟨d,k,e,L,q,r0⟩:=s;cases q with
  |some q=>exact absurd (congrArg (fun x=>x.1.2.2.2) h) (by simp)
  | none=>
   obtain⟨h,h8⟩:=bD h;obtain⟨h1,h⟩:=bD h;obtain⟨h6,h⟩:=bD h;obtain⟨hU,-⟩:=bD h;simp only[wx,af]at h6;obtain⟨i1,rfl,i3,i4,i5⟩:=h6;obtain⟨z,g1,g2,g3,g4⟩:=xK h1;exact kO.xw (R:=goal C r0) j (z:=z) (cs:=cs) s0.size (kU s0.data.toList) (by rw[g1,g2,g3,g4,i1,i3,i4,i5]) (Gs hU s0) hp.1 hp.2.1
    fun B cap r x1 x2=>zo ((A B cap r).ok ⟨d,_,_,_,none,r0⟩ (congrFun (congrFun (congrFun h8 B) cap) r) (hp.2.2 B cap r x1 x2))
@[reducible] def VC.cS (j b o dl dc:Nat)(T E U:aC)(s0:BA)(c:List aa)(A:VC C):VC C:=
 .oE (fun P nt k e L=>(oa nt k e,P.underlying T,(P.info? E).map (·.size),P.underlying E,(mc L j,lO L j,nD L j,k7 L j)))
  (some (.copy,[.slice (some ⟨b,o,none⟩) dl dc,.string s0],[T,U]),some (.slice E),some 1,some (.int .u8),(true,c,(0,0),b)) (o+dl≤c.length) (.int .i64 ((min s0.size dl:Nat):Int)) (fun L=>oP L j (over c o (kU (s0.data.toList.take dl))))
  (fun h hF hn=>by
   simp only[af]at h;obtain⟨h1,h2,h3,h4,h5,h6,h7,rfl⟩:=h;exact kO.yU (T:=T) (E:=E) (U:=U) (dc:=dc) j (by rw[h1,h2,h3,h4,h5,h6,h7]) hF hn) A
@[reducible] def VC.cO (j b o dl dc:Nat)(j2 b2 o2 n m:Nat)(T E:aC)(c cs:List aa)(A:VC C):VC C where
 pr:=cs.length=min n dl∧(∀u∈cs,u.oneCell'=true)∧(o+cs.length≤c.length)∧A.pr
 T:=((Option (gm×List aa×List aC)×Option cN×Option Nat)×(Bool×List aa×(Nat×Nat)×Nat)×(Bool×Nat×List aa)×Bool)×A.T
 l s:=(((oa s.nt s.k s.e,C.P.underlying T,(C.P.info? E).map (·.size)),(mc s.L j,lO s.L j,nD s.L j,k7 s.L j),(mc s.L j2,k7 s.L j2,((lO s.L j2).drop o2).take (min n dl)),s.q.isNone),A.l (s.hp (.int .i64 (cs.length:Int)) (oP s.L j (over c o cs))))
 N p:=(((some (.copy,[.slice (some ⟨b,o,none⟩) dl dc,.slice (some ⟨b2,o2,none⟩) n m],[T,T]),some (.slice E),some 1),(true,c,(0,0),b),(true,b2,cs),true),A.N p.2)
 ok s h hp:=by
  obtain⟨d,k,e,L,q,r0⟩:=s;cases q with
  |some q=>exact absurd (congrArg (fun x=>x.1.2.2.2) h) (by simp)
  |none=>
   obtain⟨h,h8⟩:=bD h;obtain⟨h1,h⟩:=bD h;obtain⟨h2,h⟩:=bD h;obtain⟨h3,-⟩:=bD h;simp only[af]at h1 h2 h3;obtain⟨a1,a2,a3⟩:=h1;obtain⟨b1,b3,b4,rfl⟩:=h2;obtain⟨j1,j3,j4⟩:=h3;have hs:=Src.own (L:=L) (S:=C.S) (w0:=C.w0) (j:=j2) (o:=o2) (n:=min n dl) (c:=lO L j2) (by rw[j1]);rw[j3,j4]at hs;exact kO.JC (R:=goal C r0) (T:=T) (E:=E) (dc:=dc) (m:=m) j cs (by rw[a1,a2,a3,b1,b3,b4]) hs hp.1 hp.2.1 hp.2.2.1 (A.ok ⟨d,_,_,_,none,r0⟩ h8 hp.2.2.2)
@[reducible] def VC.cR (j b o n cap:Nat)(T E:aC)(z:aa)(sz bytes:Nat)(c:List aa)(A:VC C):VC C:=
 .oE (fun P nt k e L=>(oa nt k e,P.underlying T,nj P E,z.cells.size,(mc L j,lO L j,nD L j,k7 L j),z.cells.toList.all fun u=>u.oneCell'))
  (some (.clear,[.slice (some ⟨b,o,none⟩) n cap],[T]),some (.slice E),some (some z,sz,bytes),sz,(true,c,(0,0),b),true) (o+n*sz≤c.length) (.tuple #[]) (fun L=>oP L j (over c o (ox z.cells n)))
  (fun h hF hn=>by
   simp only[af]at h;obtain⟨h1,h2,h3,h4,⟨h5,h6,h7,rfl⟩,h8⟩:=h;exact kO.Nz (T:=T) (E:=E) (cap:=cap) (bytes:=bytes) (sz:=sz) j (by rw[h1,h2,h3,h4,h5,h6,h7]) h8 hF hn) A
@[reducible] def VC.sO (b o len cap sz l' c':Nat)(lo hi:Option aa)(x y:Int)(A:Nat→VC C)(hl:l'=y.toNat-x.toNat:=by first|rfl|simp)(hc:c'=cap-x.toNat:=by rfl)
  (hlo:(∃kd,lo=some (.int kd x))∨(lo=none∧x=0):=by first|exact .inl ⟨_,rfl⟩|exact .inr ⟨rfl,rfl⟩)(hhi:(∃kd,hi=some (.int kd y))∨(hi=none∧y=len):=by first|exact .inl ⟨_,rfl⟩|exact .inr ⟨rfl,rfl⟩):VC C where
 pr:=(0≤x∧x≤y∧y≤cap)∧∀q,q=(if x.toNat=cap then o else o+x.toNat*sz)→(A q).pr
 T:=(Option (aa×Option aa×Option aa×Option Nat)×Bool)×((q:Nat)→(A q).T)
 l s:=((yT C.P s.nt s.k s.e,s.q.isNone),fun q=>(A q).l (s.nx (.slice (some ⟨b,q,none⟩) l' c')))
 N p:=((some (.slice (some ⟨b,o,none⟩) len cap,lo,hi,some sz),true),fun q=>(A q).N (p.2 q))
 ok s h hp:=by
  obtain⟨d,k,e,L,q,r0⟩:=s;have h1:=congrArg (·.1.1) h;have h6:=congrArg (·.1.2) h;have h8:=congrArg (·.2) h;cases q with
  |some q=>exact absurd h6 (by simp)
  |none=>
   obtain⟨E,g1,g2⟩:=DZ h1;refine kO.rz (R:=goal C r0) (by rw[g1,g2]) hlo ?_ hp.1 rfl hl hc ((A _).ok _ (congrFun h8 _) (hp.2 _ rfl));rcases hhi with h|⟨h,h'⟩
   ·exact .inl h
   ·exact .inr ⟨h,h',by have:=hp.1.2.2;omega⟩
@[reducible] def VC.pC (j:Nat)(t:aC)(b off:Nat)(c:List aa)(E sz:Nat)(A:VC C):VC C:=
 .oT (fun P nt k e L=>(tU P nt k e,L[j]?,(P.info? t).map (·.size),cC (off+1) c.length)) (some (some (.pointer t),some .unsafePointer,.pointer (some ⟨b,off,none⟩)),some (b,.cells ⟨c⟩ E (0,0)),some (sz+1),true) (.pointer (some ⟨b,off,none⟩))
  (fun h hn=>by
   simp only[af]at h;obtain⟨h1,h2,h3,h4⟩:=h;exact kO.O9 (c:=c) (E:=E) (fz:=(0,0)) j (by rw[h1,h2,h3]) (bl h4) hn) A
@[reducible] def VC.pB (j:Nat)(u:aC)(b off n:Nat)(c:List aa)(E:Nat)(A:VC C):VC C:=
 .oT (fun P nt k e L=>(tU P nt k e,L[j]?,(P.info? u).isSome,liesAt P P.depth E (n/P.cellsOf E) off u 1,cB c.length n)) (some (some .unsafePointer,some (.pointer u),.pointer (some ⟨b,off,none⟩)),some (b,.cells ⟨c⟩ E (0,0)),true,true,true) (.pointer (some ⟨b,off,none⟩))
  (fun h hn=>by
   simp only[af]at h;obtain⟨h1,h2,h3,h4,h5⟩:=h;exact kO.Pu (c:=c) (E:=E) (fz:=(0,0)) (n:=n) j (by rw[h1,h2,h3,h4]) (aP h5) hn) A
@[reducible] def VC.uS (j b E pt it n:Nat)(c:List aa)(l:List UInt8)(A:VC C):VC C:=
 .oE (fun P nt k e L=>(oa nt k e,L[j]?,P.underlying pt,P.cellsOf E)) (some (.unsafeString,[.pointer (some ⟨b,0,none⟩),.int .i64 (n:Int)],[pt,it]),some (b,.cells ⟨c⟩ E),some (.pointer E),1) (c.take n=kU l∧l.length=n∧0<n∧n≤9223372036854775807) (.string ⟨l.toArray⟩) (fun L=>L.eraseIdx j)
  (fun h hF hn=>kO.XU j h hF hn) A
theorem D4 {M:List PanicEntry}{L:aX}:∀(fr:List (Fr C.P)) (d:xm C.P) (e:Env),pU C.R L C.S C.w0 M→nK C.P d.f d.fn.ntmps e M L C.S C.w0 (goal C fr)
 |[],d,_,h=>nK.lN d.hf h
 |x::r,d,_,h=>nK.inl d.hf (D4 r x.d x.e h)
@[reducible] def VC.cP (g:bO)(args:List aa)(L1:aX)(K:KT C):VC C where
 pr:=mq C.P g ⟨args⟩ L1 C.S C.w0 K.pr (fun ch L'=>pU C.R L' C.S C.w0 ch)
 T:=(aj→iD Next)×Bool×aX×K.T
 l s:=((fun W=>(execOp (kV s.e) (lq s.nt s.k s.e)).run C.P W),((cur s.nt s.k s.e).isSome&&s.q.isNone),s.L,K.l fun v L'=>s.hp v L')
 N p:=((fun W=>.ok (.enter g ⟨args⟩) W),true,L1,K.N p.2.2.2)
 ok s h hp:=by
  obtain⟨d,k,e,L',q,fr⟩:=s;simp only[af,av]at h;obtain⟨h1,⟨h2,h3⟩,rfl,h6⟩:=h;obtain⟨o,ho⟩:=aJ.1 h2;cases q with
  |some q=>simp at h3
  |none=>
   show kO C.P d.f d.fn.ntmps k e L' C.S C.w0 (goal C fr);exact kO.vr (L1:=L') (K:=K.pr) (K':=fun ch L'=>pU C.R L' C.S C.w0 ch) g ⟨args⟩ (fun W=>congrFun h1 W) (by simp[lq,ho]) hp (fun v L2 hk=>K.ok (fun v L2=>⟨d,kZ k,kX e (kW d.fn.ntmps k e) v,L2,none,fr⟩) h6 v L2 hk) fun ch L2 hk=>D4 fr d e hk
@[reducible] def VC.pn (t:aC)(v:aa)(L1:aX):VC C where
 pr:=pU C.R L1 C.S C.w0 [{v:=.iface t v,recovered:=false}]
 T:=Option aa×aX×Bool
 l s:=(Du s.nt s.k s.e,s.L,s.q.isNone)
 N _:=(some (.iface t v),L1,true)
 ok s h hp:=by
  obtain⟨d,k,e,L',q,fr⟩:=s;cases q with
  |some q=>exact absurd (congrArg (fun x=>x.2.2) h) (by simp)
  |none=>
   simp only[af]at h;obtain⟨h1,rfl,-⟩:=h;exact kO.panic h1 (D4 fr d e hp)
end
structure mi where
 unt:Int
 after:List Int
 appr:Int
 den:Int
deriving DecidableEq
structure kT where
 id:Int
 kind:Int
 text:BA
 story:Int
 ref:Int
 lab:mi
deriving DecidableEq
structure dF where
 n:Int
 time:Int
 kind:Int
 story:Int
 lang:BA
 rev:Int
 base:Int
 title:BA
 author:BA
 topics:List BA
 blocks:List kT
 lab:mi
 editor:Int
 block:Int
 sentence:Int
 text:BA
 name:BA
 partner:Int
 cls:Int
 unt:Int
deriving DecidableEq
abbrev dF.cells (f:dF)(tp:OA)(tc:Nat)(bp:OA)(bc:Nat)(ap:OA)(ac:Nat):List aa:=
 [.int .i64 f.n,.int .i64 f.time,.int .i64 f.kind,.int .i64 f.story,.string f.lang,.int .i64 f.rev,.int .i64 f.base,.string f.title,.string f.author,.slice tp f.topics.length tc,.slice bp f.blocks.length bc,
  .int .i64 f.lab.unt,.slice ap f.lab.after.length ac,.int .i64 f.lab.appr,.int .i64 f.lab.den,.int .i64 f.editor,.int .i64 f.block,.int .i64 f.sentence,.string f.text,.string f.name,.int .i64 f.partner,.int .i64 f.cls,.int .i64 f.unt]
end Go.Eng
