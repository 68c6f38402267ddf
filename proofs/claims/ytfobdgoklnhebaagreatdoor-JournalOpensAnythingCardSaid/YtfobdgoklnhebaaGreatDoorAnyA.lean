/- A part. -/
import Derived.WalkKit
import Derived.Deep.MidRow
import Derived.Deep.Quiet
import Derived.StillTail
import Derived.RangeFuncRecord
import Derived.Deep.Upon
import Derived.Lib.UnsafeStr
import Derived.Lib.Builder
set_option linter.unusedVariables false
set_option linter.unusedSimpArgs false
set_option maxRecDepth 100000
open Array renaming getElem?_eq_some_iff→bK,toList_inj→bR,getD_eq_getD_getElem?→bo,getElem?_setIfInBounds→cJ,replicate→cL,getElem?_eq_getElem→cj,getElem?_eq_none→dQ,ext_getElem?→dS,getElem?_modify→dz,map_congr_left→ea,mem_toList_iff→eb,getElem?_append_left→ib,getElem?_push→jl
open BitVec renaming ofInt→db
open Bool renaming and_eq_true→av,false_eq_true→dV,true_or→iO,or_eq_true→iy
open ByteArray.toList renaming loop→fe
open Go renaming Program→aB,TypeId→aC,Calls→aE,Value→aa,World→aj,Item→bA,Ending→bJ,FuncId→bO,IntKind→bW,MapEntry→cD,TypeDesc→cN,Oper→cW,FrameMode→cZ,PanicEntry→cf,step→dP,Frame→dZ,Src→eB,Operand→eP,Deferred→eY,Func→fu,Code→fv,Comes→gA,Addr→hO,LoopState→jT,HeadInv→jh,builtin→km
open Go.Act renaming mk→bB,put→gq
open Go.Builtin renaming zeroCells→aM,firstCells→eg,clear_→gT,append_→jN,copy_→ke
open Go.Call renaming operands→iB
open Go.Comes renaming of_steps→dO
open Go.Deferred renaming ofValue→jm
open Go.Frame renaming enter→fy,finish_at→gU
open Go.GStep renaming bare_after→fD,bare→fG,go→ik
open Go.Instr renaming sliceBounds→cG,findNow→dX,sureAddr→eD,sliceBound→eQ,loadAt→gB,lookup→gC,findKey→gy,sliceAt→iM,mapUpdate→ig,storeAt→iw,indexAt→kE,endRound→kv,checkKey→kx
open Go.Item.inRegion renaming injEq→bQ
open Go.Obj renaming cells→bu
open Go.Region renaming ready→bE,wanted→cH,schedule→cX,binds→ed,lexHead→fQ,seqB→fS,Mode→fx,chainB→gi,sinkB→gx,noSelect→jU
open Go.Region.linearise renaming go→bN
open Go.Result renaming andThen_ok→bw,andThen→cA
open Go.Sem renaming run_bind→aR,run_pure→cg,runT_eq→hV,run→kr
open Go.Steps renaming trans→fY,head→ie,one→jX
open Go.Value renaming int→ef
open Go.World renaming shape?→iG,frozen?→iK
open Go.stepG renaming exec→cx,apply→dE
open Int renaming toNat_of_nonneg→dM
open List renaming replicate→aA,drop_eq_getElem_cons→aG,length_cons→aI,take_of_length_le→aK,length_eq_zero_iff→aQ,drop_zero→aU,cons_append→aY,length_drop→aZ,length_append→ae,mem_append_right→ak,length_take→ao,getElem?_eq_getElem→ar,perm_append_comm→aw,mem_append_left→ay,getElem_mem→bH,getElem?_map→bP,getElem?_eq_some_iff→bU,mem_map→bV,mem_of_getElem?→bk,length_nil→bt,map_append→cE,nodup_cons→cM,getElem?_drop→cd,nodup_append→cm,mem_append→cn,getElem?_take→dA,take_append_drop→dK,range'→dU,mem_map_of_mem→da,map_cons→dk,length_map→du,ext_getElem?→eX,size_toArray→ec,getElem?_replicate→fE,getElem?_set→gF,eraseIdx_cons_zero→iE,eraseIdx_cons_succ→iF,drop_eq_nil_of_le→iN,mem_or_eq_of_mem_set→iu,mem_of_mem_eraseIdx→iz,set_cons_zero→jO,set_cons_succ→jP
open List.Mem renaming head→eI,tail→fX
open List.cons renaming injEq→bM,inj→jQ
open Nat renaming le_refl→aD,eq_of_beq_eq_true→aP,zero_add→az,le_trans→bC,mul_le_mul_right→bI,eq_zero_or_pos→bX,le_of_ble_eq_true→bl,beq→cB,ble→cC,add_mul→cU,lt_or_ge→cy,min_eq_left→dj,mod_lt→eC,blt→eZ,add_zero→fC,blt_eq→gD,lt_of_lt_of_le→gz,sub_zero→ji,strongRecOn→kF
open Option renaming isSome_iff_exists→aJ,map_some→bL,bind_some→eM,getD_some→eR,bind_none→jM
open Option.some renaming injEq→al,inj→bY
open Prod.mk renaming injEq→af
open UInt8 renaming ofNat→bg
namespace Go.Eng
open Go Go.RowKit
theorem rS (t:Array aa)(ds:List eY)(d:Option Tmp)(v:aa):((bB t ds).put d v)=⟨((bB t []).put d v).tmps,ds⟩:=by cases d<;>rfl
def rt (b:dZ)(a:Act)(k:List bA):dZ:={b.at a k with roundOf:=b.roundOf}
theorem qh {b:dZ}(h:b.roundOf=none)(a:Act)(k:List bA):rt b a k=b.at a k:=by simp[rt,Frame.at,h]
theorem JK (b:dZ)(a:Act)(k:List bA)(x:eP):(rt b a k).eval x=a.eval x:=by cases x<;>rfl
theorem Yu (b:dZ)(a:Act)(k:List bA):(rt b a k).eval=a.eval:=funext (JK b a k)
theorem xu (b:dZ)(a:Act)(ops:Array cW)(i:Nat)(rest:List Nat)(k:List bA)(v:aa):
  (rt b a (.inRegion ops (i::rest)::k)).finish v=rt b (a.put ((ops[i]?).bind (·.dst)) v) (.inRegion ops rest::k):=by
 cases h:(ops[i]?).bind (·.dst)<;>simp[Frame.finish,rt,Frame.at,gq,h]
theorem LO (b:dZ)(a:Act)(k:List bA)(M:List cf):(rt b a k).raise M={rt b a k with mode:=.panicking M}:=rfl
section moves
variable {P:Program}{b:Frame}{a:Act}{k:List Item}{cs:List Frame}{w:World}{ops:Array Oper}
theorem YU:dP P (lone (rt b a (.code .skip::k)) cs w)=.next (lone (rt b a k) cs w):=step_lone_go (by simp[stepG,cx,rt,Frame.at])
theorem Pw {l:Nat}:dP P (lone (rt b a (.code (.label l)::k)) cs w)=.next (lone (rt b a k) cs w):=step_lone_go (by simp[stepG,cx,rt,Frame.at])
theorem Xy {id:Nat}:dP P (lone (rt b a (.inBlock id::k)) cs w)=.next (lone (rt b a k) cs w):=step_lone_go (by simp[stepG,cx,rt,Frame.at])
theorem Vw {x y:fv}:dP P (lone (rt b a (.code (.seq x y)::k)) cs w)=.next (lone (rt b a (.code x::.code y::k)) cs w):=step_lone_go (by simp[stepG,cx,rt,Frame.at])
theorem IU {c:eP}{x y:fv}{t:Bool}(h:a.eval c=.bool t):dP P (lone (rt b a (.code (.cond c x y)::k)) cs w)=.next (lone (rt b a (.code (if t then x else y)::k)) cs w):=
 step_lone_go (by
  have:=JK b a (.code (.cond c x y)::k) c;simp only[rt,Frame.at]at this;simp[stepG,cx,rt,Frame.at,this,h])
theorem TU {id:Nat}{c:fv}:dP P (lone (rt b a (.code (.block id c)::k)) cs w)=.next (lone (rt b a (.code c::.inBlock id::k)) cs w):=step_lone_go (by simp[stepG,cx,rt,Frame.at])
theorem YA {c:fv}:dP P (lone (rt b a (.code (.scope c)::k)) cs w)=.next (lone (rt b a (.code c::.inScope c::k)) cs w):=step_lone_go (by simp[stepG,cx,rt,Frame.at])
theorem Qj {c:fv}:dP P (lone (rt b a (.inScope c::k)) cs w)=.next (lone (rt b a k) cs w):=step_lone_go (by simp[stepG,cx,rt,Frame.at])
theorem Tt {c:fv}:dP P (lone (rt b a (.code (.loop c)::k)) cs w)=.next (lone (rt b a (.code c::.inLoop c::k)) cs w):=step_lone_go (by simp[stepG,cx,rt,Frame.at])
theorem Ro {c:fv}:dP P (lone (rt b a (.inLoop c::k)) cs w)=.next (lone (rt b a (.code c::.inLoop c::k)) cs w):=step_lone_go (by simp[stepG,cx,rt,Frame.at])
theorem PD {id:Nat}{k':List bA}(h:exitTo id k=some k'):dP P (lone (rt b a (.code (.exit id)::k)) cs w)=.next (lone (rt b a k') cs w):=step_lone_go (by simp[stepG,cx,rt,Frame.at,h])
theorem VW {id:Nat}:dP P (lone (rt b a (.code (.region id ops false)::k)) cs w)=.next (lone (rt b a (.inRegion ops (List.range ops.size)::k)) cs w):=step_lone_go (by simp[stepG,cx,rt,Frame.at])
theorem V9:dP P (lone (rt b a (.inRegion ops []::k)) cs w)=.next (lone (rt b a k) cs w):=step_lone_go (by simp[stepG,cx,rt,Frame.at])
theorem Ds {id:Nat}:
  dP P (lone (rt b a (.code (.region id ops true)::k)) cs w)=
   .next (lone (rt b a (.inRegion ops (cX (P.follows .mixedOrders) ops (w.tape w.drawn (.order b.fn id)))::k)) cs {w with drawn:=w.drawn+1}):=
 step_lone_go (by simp[stepG,cx,rt,Frame.at,choose,kr,Question.forced,Question.cut])
theorem Fj {i:Nat}{rest:List Nat}(h:((ops[i]?).map (cH · (yielded ops a.tmps))).getD false=false):
  dP P (lone (rt b a (.inRegion ops (i::rest)::k)) cs w)=.next (lone (rt b (a.put ((ops[i]?).bind (·.dst)) undef) (.inRegion ops rest::k)) cs w):=by
 rw[←xu];exact step_lone_go (by
  have M:=h;simp only[rt,Frame.at]at*;simp[stepG,cx,M])
theorem wP {i:Nat}{rest:List Nat}{o:cW}(V:ops[i]?=some o)(a1:cH o (yielded ops a.tmps)=true)(M:b.roundOf=none∨∀c,o.op≠ .defer c):
    stepG P true {frame:=rt b a (.inRegion ops (i::rest)::k),callers:=cs,status:=.running,dying:=none} w=
      dE P true (rt b a (.inRegion ops (i::rest)::k)) cs none (execOp a.eval o) w:=by
  have O:=Yu b a (.inRegion ops (i::rest)::k);simp only[rt,Frame.at]at O;simp only[stepG,cx,stepG.oper,Frame.oper?,rt,Frame.at,V,a1,O,bL,eR,if_true];split
  · next h1 h2=>
                  rcases M with M|M
                  · rw[M]at h1;cases h1
                  · exact absurd h2 (M _)
  · rfl
end moves
def Next.WI:Next→Bool
 | .defer _=>true
 |_=>false
theorem yY {P:aB}{ρ:eP→aa}{o:cW}{w w':aj}{n:Next}(M:(execOp ρ o).run P w=.ok n w')(hn:Eng.Next.WI n=false)(c:Call):o.op≠ .defer c:=by
 intro h;simp only[execOp,h,aR]at M;cases hq:(resolve ρ c o.type).run P w with
 |ok d w1=>rw[hq]at M;simp[cA]at M;obtain⟨rfl,_⟩:=M;cases hn
 |halt h w1=>rw[hq]at M;simp[cA]at M
structure Goal (P:aB) where
 ds:List eY
 ok:dZ→List dZ→Machine→Prop
 back:∀b cs m m1,Steps P m m1→ok b cs m1→ok b cs m
def lN {P:aB}(R:bJ→aj→Prop):Goal P where
 ds:=[]
 ok b cs m:=b.kind=.normal→b.roundOf=none→∃e w' fr,R e w'∧gA P m (lone fr cs w') e∧fr.fn=b.fn∧fr.leaving P w' e
 back b cs m m1 hs h hk hq:=by
  obtain⟨e,w',fr,hr,hc,hl⟩:=h hk hq;exact⟨e,w',fr,hr,dO hs hc,hl⟩
def yM {P:aB}(ds:List eY)(R:bJ→aj→Prop):Goal P:={(lN (P:=P) R)with ds:=ds}
def At (P:aB)(f:bO)(k:List bA)(t:Array aa)(w:aj)(R:Goal P):Prop:=
 ∀(b:dZ) (cs:List dZ),b.fn=f→R.ok b cs (lone (rt b ⟨t,R.ds⟩ k) cs w)
theorem At.calls {P:aB}{f:bO}{fn:fu}{c:fv}{args:Array aa}{w:aj}{R:bJ→aj→Prop}
  (a1:P.funcs[f]?=some fn)(O:fn.body=some c)
  (h:At P f [.code c] (args++cL (fn.ntmps-args.size) undef) w (lN R)):aE P f args w R:=by
 intro cs;have V:fy P f args .normal=
   ({(default:dZ)with fn:=f,kind:=.normal}:dZ).at {tmps:=args++cL (fn.ntmps-args.size) undef,defers:=[]} [.code c]:=by
  simp[fy,Frame.at,a1,O]
 rw[V];have M:=h {(default:dZ)with fn:=f,kind:=.normal} cs rfl rfl rfl;rw[qh rfl]at M;exact M
theorem At.step {P:aB}{f:bO}{k k':List bA}{t t':Array aa}{w w':aj}{R:Goal P}
  (O:∀(b:dZ) (cs:List dZ),b.fn=f→dP P (lone (rt b ⟨t,R.ds⟩ k) cs w)=.next (lone (rt b ⟨t',R.ds⟩ k') cs w'))
  (h:At P f k' t' w' R):At P f k t w R:=
 fun b cs M=>R.back _ _ _ _ (.one (O b cs M)) (h b cs M)
theorem At.value {P:aB}{f:bO}{k:List bA}{t:Array aa}{w w':aj}{R:Goal P}{ops:Array cW}{i:Nat}{rest:List Nat}{o:cW}{v:aa}
  (M:ops[i]?=some o)(a3:cH o (yielded ops t)=true)(O:(execOp (bB t []).eval o).run P w=.ok (.value v) w')
  (h:At P f (.inRegion ops rest::k) ((bB t []).put o.dst v).tmps w' R):At P f (.inRegion ops (i::rest)::k) t w R:=by
 refine At.step (fun b cs _=>?_) h;have a1:=wP (P:=P) (b:=b) (a:=⟨t,R.ds⟩) (k:=k) (cs:=cs) (w:=w) (rest:=rest) M a3 (.inr (yY O rfl));have V:(rt b ⟨t,R.ds⟩ (.inRegion ops (i::rest)::k)).finish v=rt b ((bB t R.ds).put o.dst v) (.inRegion ops rest::k):=by rw[xu,M];rfl
 rw[←rS];have a2:(execOp (bB t R.ds).eval o).run P w=.ok (.value v) w':=O;refine step_lone_go ?_;rw[a1,←V];simp[dE,a2]
theorem At.BP {P:aB}{f:bO}{k:List bA}{t:Array aa}{w w':aj}{R:Goal P}{ops:Array cW}{i:Nat}{rest:List Nat}{o:cW}
  (M:ops[i]?=some o)(a3:cH o (yielded ops t)=true)(O:(execOp (bB t []).eval o).run P w=.ok .skip w')
  (h:At P f (.inRegion ops rest::k) ((bB t []).put o.dst undef).tmps w' R):At P f (.inRegion ops (i::rest)::k) t w R:=by
 refine At.step (fun b cs _=>?_) h;have a1:=wP (P:=P) (b:=b) (a:=⟨t,R.ds⟩) (k:=k) (cs:=cs) (w:=w) (rest:=rest) M a3 (.inr (yY O rfl));have V:(rt b ⟨t,R.ds⟩ (.inRegion ops (i::rest)::k)).finish undef=rt b ((bB t R.ds).put o.dst undef) (.inRegion ops rest::k):=by rw[xu,M];rfl
 rw[←rS];have a2:(execOp (bB t R.ds).eval o).run P w=.ok .skip w':=O;refine step_lone_go ?_;rw[a1,←V];simp[dE,a2]
theorem At.BK {P:aB}{f:bO}{k:List bA}{t:Array aa}{w:aj}{R:Goal P}{ops:Array cW}{i:Nat}{rest:List Nat}{o:cW}
  (M:ops[i]?=some o)(V:cH o (yielded ops t)=false)
  (h:At P f (.inRegion ops rest::k) ((bB t []).put o.dst undef).tmps w R):At P f (.inRegion ops (i::rest)::k) t w R:=by
 refine At.step (fun b cs _=>?_) h;rw[←rS];have O:=Fj (P:=P) (b:=b) (a:=⟨t,R.ds⟩) (k:=k) (cs:=cs) (w:=w) (ops:=ops) (i:=i) (rest:=rest) (by simp[M];simpa using V);simpa only[M,eM]using O
theorem At.enter {P:aB}{f:bO}{k:List bA}{t:Array aa}{w w':aj}{R:Goal P}{ops:Array cW}{i:Nat}{rest:List Nat}{o:cW}{g:bO}{args:Array aa}
  (M:ops[i]?=some o)(a9:cH o (yielded ops t)=true)(O:(execOp (bB t []).eval o).run P w=.ok (.enter g args) w')
  (h:aE P g args w' fun e V=>∃v,e=.returned v∧At P f (.inRegion ops rest::k) ((bB t []).put o.dst v).tmps V R):At P f (.inRegion ops (i::rest)::k) t w R:=by
 intro b cs a2;have a5:=wP (P:=P) (b:=b) (a:=⟨t,R.ds⟩) (k:=k) (cs:=cs) (w:=w) (rest:=rest) M a9 (.inr (yY O rfl));have a7:(execOp (bB t R.ds).eval o).run P w=.ok (.enter g args) w':=O;obtain⟨e,V,fr,⟨v,rfl,a1⟩,a8,_,a6⟩:=h (rt b ⟨t,R.ds⟩ (.inRegion ops (i::rest)::k)::cs);have a3:dP P (lone (rt b ⟨t,R.ds⟩ (.inRegion ops (i::rest)::k)) cs w)=
   .next (lone (fy P g args .normal) (rt b ⟨t,R.ds⟩ (.inRegion ops (i::rest)::k)::cs) w'):=
  step_lone_go (by rw[a5];simp[dE,a7,rt,Frame.at])
 have a4:(rt b ⟨t,R.ds⟩ (.inRegion ops (i::rest)::k)).finish v=rt b ⟨((bB t []).put o.dst v).tmps,R.ds⟩ (.inRegion ops rest::k):=by
  rw[xu,M];show rt b ((bB t R.ds).put o.dst v) _=_;rw[rS]
 refine R.back _ _ _ _ (.head a3 (fY a8 (.one (step_leave_returned a6)))) ?_;rw[a4];exact a1 b cs a2
theorem At.ret {P:aB}{f:bO}{fn:fu}{k:List bA}{t:Array aa}{w:aj}{R:bJ→aj→Prop}{v:aa}
  (O:P.funcs[f]?=some fn)(a2:(results fn t).run P w=.ok v w)(h:R (.returned v) w):At P f (.code .ret::k) t w (lN R):=by
 intro b cs M V a1;exact⟨.returned v,w,{b.at ⟨t,[]⟩ (.code .ret::k)with mode:=.returning},h,by rw[qh a1];exact .one step_ret,rfl,rfl,rfl,V,fn,by rw[←O,←M];rfl,a2⟩
theorem At.fin {P:aB}{f:bO}{fn:fu}{t:Array aa}{w:aj}{R:bJ→aj→Prop}{v:aa}
  (O:P.funcs[f]?=some fn)(a2:(results fn t).run P w=.ok v w)(h:R (.returned v) w):At P f [] t w (lN R):=by
 intro b cs M V a1;exact⟨.returned v,w,{b.at ⟨t,[]⟩ []with mode:=.returning},h,by rw[qh a1];exact .one step_end,rfl,rfl,rfl,V,fn,by rw[←O,←M];rfl,a2⟩
abbrev Env:=List (Nat×aa)
def get?:Env→Nat→Option aa
 |[],_=>none
 |(j,v)::r,i=>bif cB j i then some v else get? r i
def ev (e:Env):eP→Option aa
 | .tmp t=>get? e t
 | .const v=>some v
 | .global g=>some (.pointer (some ⟨g,0,none⟩))
 | .func f=>some (.func (.func f) #[] #[])
def kV (e:Env)(x:eP):aa:=match ev e x with|some v=>v|none=>undef
def xy:List (Option aa)→Bool
 |[]=>true
 |some _::r=>xy r
 |none::_=>false
def known (e:Env)(o:Op):Bool:=xy (o.operands.toList.map (ev e))
def kX (e:Env):Option Tmp→aa→Env
 |some d,v=>(d,v)::e
 |none,_=>e
def pD (nt:Nat):Option Tmp→Bool
 |some d=>cC (d+1) nt
 |none=>true
structure mF (nt:Nat)(e:Env)(t:Array aa):Prop where
 size:t.size=nt
 slot:∀i v,get? e i=some v→t[i]?=some v
theorem mF.ev {nt:Nat}{e:Env}{t:Array aa}(h:mF nt e t){x:eP}{v:aa}(M:ev e x=some v)(ds:List eY):(bB t ds).eval x=v:=by
 cases x with
 |tmp i=>simp only[Eng.ev]at M;simp[Act.eval,bo,h.slot i v M]
 |const u=>simp only[Eng.ev,al]at M;exact M
 |global g=>simp only[Eng.ev,al]at M;exact M
 |func f=>simp only[Eng.ev,al]at M;exact M
theorem Dw:∀(l:List (Option aa)),xy l=true→∀x∈l,x.isSome=true
 |[],_,_,hx=>by simp at hx
 |some v::r,h,x,hx=>by
  simp only[xy]at h;cases hx with
  |head=>rfl
  |tail _ hm=>exact Dw r h x hm
 |none::r,h,_,_=>by simp[xy]at h
theorem mF.kV {nt:Nat}{e:Env}{t:Array aa}(h:mF nt e t){o:Op}(O:known e o=true)(ds:List eY):
  ∀x∈o.operands.toList,(bB t ds).eval x=kV e x:=by
 intro x V;have:=Dw _ O (Eng.ev e x) (bV.2 ⟨x,V,rfl⟩);obtain⟨v,M⟩:=aJ.1 this;rw[h.ev M,Eng.kV,M]
theorem mF.put {nt:Nat}{e:Env}{t:Array aa}(h:mF nt e t){d:Option Tmp}(O:pD nt d=true)(v:aa)(ds:List eY):
  mF nt (kX e d v) ((bB t ds).put d v).tmps:=by
 cases d with
 |none=>exact h
 | some d=>
  have V:d<t.size:=by rw[h.size];exact bl O
  refine⟨by simp[gq,h.size],fun i u M=>?_⟩;simp only[kX,get?]at M;simp only[gq];rw[cJ];cases hb:cB d i with
  |true=>
   have:d=i:=aP hb;subst this;simp only[hb,cond_true,al]at M;simp[V,M]
  |false=>
   have a1:d≠i:=fun e=>by subst e;simp at hb
   simp only[hb,cond_false]at M;rw[if_neg a1];exact h.slot i u M
def tq:Op→Bool
 | .select ..| .go _| .send ..| .recv ..=>false
 |_=>true
theorem resolve_congr (ρ ρ':eP→aa)(c:Call)(t:aC)(h:∀x∈c.operands.toList,ρ x=ρ' x):resolve ρ c t=resolve ρ' c t:=by
 have M:c.args.map ρ=c.args.map ρ':=by
  apply ea;intro x V;apply h;simp only[iB,Array.toList_append,cn];exact .inr (by simpa using V)
 cases hc:c.callee with
 |value f=>
  have O:ρ f=ρ' f:=h f (by simp[iB,hc]);simp only[resolve,hc,M,O]
 |invoke r n=>
  have O:ρ r=ρ' r:=h r (by simp[iB,hc]);simp only[resolve,hc,M,O]
 |builtin b=>simp only[resolve,hc,M]
theorem execOp_congr (ρ ρ':eP→aa)(o:cW)(hp:tq o.op=true)(h:∀x∈o.op.operands.toList,ρ x=ρ' x):execOp ρ o=execOp ρ' o:=by
 obtain⟨a2,op,V,pos,after,a3⟩:=o;cases op<;>simp only[tq,dV]at hp<;>simp only[Op.operands]at h<;>simp only[execOp]
 case build t parts=>
  have:(parts.map fun(i,x)=>(i,ρ x))=(parts.map fun(i,x)=>(i,ρ' x)):=by
   apply ea;rintro⟨i,x⟩ M;exact congrArg _ (h x (by simp;exact⟨i,by simpa using M⟩))
  rw[this]
 case buildSlice t n parts=>
  have:(parts.map fun(i,x)=>(i,ρ x))=(parts.map fun(i,x)=>(i,ρ' x)):=by
   apply ea;rintro⟨i,x⟩ M;exact congrArg _ (h x (by simp;exact⟨i,by simpa using M⟩))
  rw[this]
 case makeFunc fn a b=>
  have e1:a.map ρ=a.map ρ':=ea fun x M=>h x (by simp;exact .inl (by simpa using M))
  have O:b.map ρ=b.map ρ':=ea fun x M=>h x (by simp;exact .inr (by simpa using M))
  rw[e1,O]
 case makeMap t r=>cases r with
  |none=>rfl
  |some r=>simp only[bL];rw[h r (by simp)]
 case slice T x lo hi mx=>
  have e0:ρ x=ρ' x:=h x (by simp);have e1:lo.map ρ=lo.map ρ':=by cases lo with|none=>rfl|some y=>simp only[bL];rw[h y (by simp)]
  have O:hi.map ρ=hi.map ρ':=by cases hi with|none=>rfl|some y=>simp only[bL];rw[h y (by simp)]
  have a1:mx.map ρ=mx.map ρ':=by cases mx with|none=>rfl|some y=>simp only[bL];rw[h y (by simp)]
  rw[e0,e1,O,a1]
 case call c=>rw[resolve_congr ρ ρ' c V h]
 case defer c=>rw[resolve_congr ρ ρ' c V h]
 all_goals first
  |rfl
  |(rw[h _ (eI _),h _ (fX _ (eI _)),h _ (fX _ (fX _ (eI _)))];done)
  |(rw[h _ (eI _),h _ (fX _ (eI _))];done)
  |(rw[h _ (eI _)];done)
abbrev aX:=List (Nat×Obj)
structure Kept (S:List Nat)(w0 W:aj):Prop where
 os:W.os=w0.os
 tape:W.tape=w0.tape
 output:W.output=w0.output
 size:w0.heap.size≤W.heap.size
 block:∀k,k<w0.heap.size→k∉S→W.heap[k]?=w0.heap[k]?
structure Mem (L:aX)(S:List Nat)(w0 W:aj):Prop where
 nodup:(L.map (·.1)).Nodup
 here:∀p∈L,W.heap[p.1]?=some p.2
 own:∀p∈L,w0.heap.size≤p.1∨p.1∈S
 kept:Kept S w0 W
theorem Kept.refl (S:List Nat)(w:aj):Kept S w w:=⟨rfl,rfl,rfl,aD _,fun _ _ _=>rfl⟩
theorem Kept.trans {S:List Nat}{a b c:aj}(h:Kept S a b)(k:Kept S b c):Kept S a c:=
 ⟨k.os.trans h.os,k.tape.trans h.tape,k.output.trans h.output,bC h.size k.size,fun i hi M=>(k.block i (gz hi h.size) M).trans (h.block i hi M)⟩
theorem Kept.below {w W:aj}(h:Kept [] w W):Below w.heap.size w W:=⟨h.os,h.tape,h.output,h.size,fun k M=>h.block k M (by simp)⟩
theorem Kept.Ya {w W:aj}(h:Below w.heap.size w W)(S:List Nat):Kept S w W:=⟨h.os,h.tape,h.output,h.size,fun k M _=>h.block k M⟩
theorem Mem.start (S:List Nat)(w:aj):Mem [] S w w:=⟨by simp,by simp,by simp,Kept.refl S w⟩
theorem Mem.lt {L:aX}{S:List Nat}{w0 W:aj}(h:Mem L S w0 W){p:Nat×Obj}(hp:p∈L):p.1<W.heap.size:=by
 have:=h.here p hp;rcases cy p.1 W.heap.size with h|h
 ·exact h
 ·rw[dQ h]at this;cases this
theorem Mem.after {L:aX}{S:List Nat}{w0 W M:aj}(h:Mem L S w0 W)(O:Below W.heap.size W M):Mem L S w0 M:=
 ⟨h.nodup,fun p hp=>(O.block p.1 (h.lt hp)).trans (h.here p hp),h.own,h.kept.trans (Kept.Ya O S)⟩
theorem Mem.alloc {L:aX}{S:List Nat}{w0 W:aj}(h:Mem L S w0 W)(o:Obj):Mem (L++[(W.heap.size,o)]) S w0 {W with heap:=W.heap.push o}:=by
 refine⟨?_,?_,?_,?_⟩
 ·rw[cE,cm]
  refine⟨h.nodup,by simp,?_⟩;intro a M b O;obtain⟨p,hp,rfl⟩:=bV.1 M;simp at O;have:=h.lt hp;omega
 ·intro p hp
  rcases cn.1 hp with hp|hp
  ·have:=h.lt hp
   show(W.heap.push o)[p.1]?=_;rw[jl,if_neg (by omega)];exact h.here p hp
  ·simp at hp
   subst hp;show(W.heap.push o)[W.heap.size]?=_;simp
 ·intro p hp
  rcases cn.1 hp with hp|hp
  ·exact h.own p hp
  ·simp at hp
   subst hp;exact .inl h.kept.size
 ·refine h.kept.trans ⟨rfl,rfl,rfl,by simp,fun k V _=>?_⟩
  show(W.heap.push o)[k]?=_;rw[jl,if_neg (by omega)]
theorem Nd {L:aX}(h:(L.map (·.1)).Nodup){p q:Nat×Obj}(hp:p∈L)(M:q∈L)(e:p.1=q.1):p=q:=by
 induction L with
 |nil=>cases hp
 | cons x r ih=>
  simp only[dk,cM,bV,not_exists,not_and]at h;cases hp with
  |head=>cases M with
   |head=>rfl
   |tail _ M=>exact absurd e.symm (h.1 q M)
  |tail _ hp=>cases M with
   |head=>exact absurd e (h.1 p hp)
   |tail _ M=>exact ih h.2 hp M
theorem Mem.setObj {L:aX}{S:List Nat}{w0 W:aj}(h:Mem L S w0 W){j:Nat}{B:Nat}{o:Obj}(V:L[j]?=some (B,o))(o':Obj)
  {M:aj}(a9:M.os=W.os)(b1:M.tape=W.tape)(a8:M.output=W.output)(O:M.heap=W.heap.setIfInBounds B o'):Mem (L.set j (B,o')) S w0 M:=by
 have hm:(B,o)∈L:=bk V;have a1:=h.lt hm;have a3:j<L.length:=(bU.1 V).1;have a2:(L.set j (B,o')).map (·.1)=L.map (·.1):=by
  rw[List.map_set];apply eX;intro i;rw[gF];split
  ·next e=>
   subst e;simp only[du,a3,if_true];rw[bP,V];rfl
  ·rfl
 refine⟨by rw[a2];exact h.nodup,?_,?_,?_⟩
 ·intro p hp
  rw[O,cJ];rcases iu hp with hp'|hp'
  ·by_cases e:B=p.1
   ·have:=Nd h.nodup hm hp' e
    subst this

    have a7:((L.set j (B,o')).map (·.1)).Nodup:=by rw[a2];exact h.nodup
    have a5:(B,o')∈L.set j (B,o'):=List.mem_iff_getElem?.2 ⟨j,by rw[gF];simp[a3]⟩;have:=Nd a7 hp a5 rfl;rw[this];simp[a1]
   ·rw[if_neg e];exact h.here p hp'
  ·subst hp';simp[a1]
 ·intro p hp
  rcases iu hp with hp'|hp'
  ·exact h.own p hp'
  ·subst hp';exact h.own (B,o) hm
 ·refine⟨a9.trans h.kept.os,b1.trans h.kept.tape,a8.trans h.kept.output,by rw[O];simp;exact h.kept.size,fun k a6 a4=>?_⟩
  rw[O,cJ];rw[if_neg]
  ·exact h.kept.block k a6 a4
  ·intro e
   subst e;rcases h.own _ hm with h'|h'
   ·simp at h';omega
   ·exact a4 h'
def kO (P:aB)(f nt:Nat)(k:List bA)(e:Env)(L:aX)(S:List Nat)(w0:aj)(R:Goal P):Prop:=
 ∀t W,mF nt e t→Mem L S w0 W→At P f k t W R
def pK (ops:Array cW)(e:Env)(o:cW):Option Bool:=
 match o.guard with
 |none=>some true
 | some (j,want)=>
  match ops[j]? with
  |none=>some false
  | some oj=>
   match oj.dst with
   |none=>some false
   |some d=>
    match get? e d with
    |some (.bool b)=>match b,want with|true,true=>some true|false,false=>some true|true,false=>some false|false,true=>some false
    |some (.tuple _)=>some false
    |_=>none
theorem mF.wanted {nt:Nat}{e:Env}{t:Array aa}(h:mF nt e t){ops:Array cW}{o:cW}{b:Bool}(M:pK ops e o=some b):
  cH o (yielded ops t)=b:=by
 unfold pK at M;unfold cH;split at M
 ·next hg=>rw[hg];simpa using M
 ·next j want hg=>
  rw[hg];simp only;unfold yielded;split at M
  ·next ho=>rw[ho];simp at M;subst M;rfl
  ·next oj ho=>
   rw[ho];simp only[eM];split at M
   ·next hd=>rw[hd];simp at M;subst M;rfl
   ·next d hd=>
    rw[hd];simp only[eM];split at M
    ·next b' hget=>
     rw[h.slot d _ hget];cases b'<;>cases want<;>simp at M<;>subst M<;>rfl
    ·next vs hget=>
     rw[h.slot d _ hget];simp at M;subst M;rfl
    ·cases M
def cur (nt:Nat)(k:List bA)(e:Env):Option cW:=
 match k with
 | .inRegion ops (i::_)::_=>
  match ops[i]? with
  |some o=>match pK ops e o with
   |some true=>bif known e o.op&&(tq o.op&&pD nt o.dst)then some o else none
   |_=>none
  |none=>none
 |_=>none
def kZ:List bA→List bA
 | .inRegion ops (_::rest)::k=>.inRegion ops rest::k
 |k=>k
theorem pG {nt:Nat}{k:List bA}{e:Env}{o:cW}(h:cur nt k e=some o):
  ∃ops i rest k',k=.inRegion ops (i::rest)::k'∧ops[i]?=some o∧pK ops e o=some true∧known e o.op=true∧tq o.op=true∧pD nt o.dst=true:=by
 unfold cur at h;split at h
 ·next ops i rest k'=>
  split at h
  ·next o' ho=>
   split at h
   ·next hw=>
    cases hb:(known e o'.op&&(tq o'.op&&pD nt o'.dst))with
    |true=>
     rw[hb]at h;simp only[cond_true,al]at h;subst h;simp only[av]at hb;exact⟨_,_,_,_,rfl,ho,hw,hb.1,hb.2.1,hb.2.2⟩
    |false=>rw[hb]at h;simp at h
   ·cases h
  ·cases h
 ·cases h
theorem kO.op {P:aB}{f nt:Nat}{k:List bA}{e:Env}{L:aX}{S:List Nat}{w0:aj}{R:Goal P}{o:cW}
  (hc:cur nt k e=some o)
  (h:∀W,Mem L S w0 W→∃v M,(execOp (kV e) o).run P W=.ok (.value v) M∧∀t,mF nt (kX e o.dst v) t→At P f (kZ k) t M R):kO P f nt k e L S w0 R:=by
 intro t W O hm;obtain⟨ops,i,rest,k',rfl,a4,a5,a2,hp,a1⟩:=pG hc;obtain⟨v,M,V,a3⟩:=h W hm;rw[←execOp_congr (bB t []).eval (kV e) o hp (O.kV a2 [])]at V;exact At.value a4 (O.wanted a5) V (a3 _ (O.put a1 v []))
theorem kO.Bk {P:aB}{f nt:Nat}{k:List bA}{e:Env}{L:aX}{S:List Nat}{w0:aj}{R:Goal P}{o:cW}
  (hc:cur nt k e=some o)
  (h:∀W,Mem L S w0 W→∃M,(execOp (kV e) o).run P W=.ok .skip M∧∀t,mF nt (kX e o.dst undef) t→At P f (kZ k) t M R):kO P f nt k e L S w0 R:=by
 intro t W O hm;obtain⟨ops,i,rest,k',rfl,a4,a5,a2,hp,a1⟩:=pG hc;obtain⟨M,V,a3⟩:=h W hm;rw[←execOp_congr (bB t []).eval (kV e) o hp (O.kV a2 [])]at V;exact At.BP a4 (O.wanted a5) V (a3 _ (O.put a1 undef []))
def one (P:aB)(nt:Nat)(k:List bA)(e:Env)(w:aj):Option (List bA×Env×aj):=
 match k with
 | .code .skip::k=>some (k,e,w)
 | .code (.label _)::k=>some (k,e,w)
 | .inBlock _::k=>some (k,e,w)
 | .code (.seq x y)::k=>some (.code x::.code y::k,e,w)
 | .code (.cond c x y)::k=>match ev e c with
  |some (.bool b)=>match b with
   |true=>some (.code x::k,e,w)
   |false=>some (.code y::k,e,w)
  |_=>none
 | .code (.block id c)::k=>some (.code c::.inBlock id::k,e,w)
 | .code (.scope c)::k=>some (.code c::.inScope c::k,e,w)
 | .inScope _::k=>some (k,e,w)
 | .code (.loop c)::k=>some (.code c::.inLoop c::k,e,w)
 | .inLoop c::k=>some (.code c::.inLoop c::k,e,w)
 | .code (.exit id)::k=>match exitTo id k with
  |some k'=>some (k',e,w)
  |none=>none
 | .code (.region _ ops draw)::k=>match draw with
  |false=>some (.inRegion ops (List.range ops.size)::k,e,w)
  |true=>none
 | .inRegion _ []::k=>some (k,e,w)
 | .inRegion ops (i::rest)::k=>match ops[i]? with
  |none=>some (.inRegion ops rest::k,e,w)
  | some o=>match pK ops e o with
   |none=>none
   |some false=>bif pD nt o.dst then some (.inRegion ops rest::k,kX e o.dst undef,w)else none
   | some true=>bif known e o.op&&(tq o.op&&pD nt o.dst)then
     match(execOp (kV e) o).run P w with
     | .ok (.value v) w'=>some (.inRegion ops rest::k,kX e o.dst v,w')
     | .ok .skip w'=>some (.inRegion ops rest::k,kX e o.dst undef,w')
     |_=>none
    else none
 |_=>none
theorem W2 {P:aB}{f nt:Nat}{k k':List bA}{e e':Env}{w w':aj}{t:Array aa}{R:Goal P}
  (h:one P nt k e w=some (k',e',w'))(M:mF nt e t)(O:∀t',mF nt e' t'→At P f k' t' w' R):At P f k t w R:=by
 unfold one at h;split at h
 ·simp at h;obtain⟨rfl,rfl,rfl⟩:=h;exact At.step (fun _ _ _=>YU) (O t M)
 ·simp at h;obtain⟨rfl,rfl,rfl⟩:=h;exact At.step (fun _ _ _=>Pw) (O t M)
 ·simp at h;obtain⟨rfl,rfl,rfl⟩:=h;exact At.step (fun _ _ _=>Xy) (O t M)
 ·simp at h;obtain⟨rfl,rfl,rfl⟩:=h;exact At.step (fun _ _ _=>Vw) (O t M)
 ·next c x y k=>
  split at h
  ·next b hb=>
   have hc:=M.ev hb [];cases b
   ·simp at h;obtain⟨rfl,rfl,rfl⟩:=h;exact At.step (fun _ _ _=>IU (t:=false) hc) (O t M)
   ·simp at h;obtain⟨rfl,rfl,rfl⟩:=h;exact At.step (fun _ _ _=>IU (t:=true) hc) (O t M)
  ·cases h
 ·simp at h;obtain⟨rfl,rfl,rfl⟩:=h;exact At.step (fun _ _ _=>TU) (O t M)
 ·simp at h;obtain⟨rfl,rfl,rfl⟩:=h;exact At.step (fun _ _ _=>YA) (O t M)
 ·simp at h;obtain⟨rfl,rfl,rfl⟩:=h;exact At.step (fun _ _ _=>Qj) (O t M)
 ·simp at h;obtain⟨rfl,rfl,rfl⟩:=h;exact At.step (fun _ _ _=>Tt) (O t M)
 ·simp at h;obtain⟨rfl,rfl,rfl⟩:=h;exact At.step (fun _ _ _=>Ro) (O t M)
 ·next id k=>
  split at h
  ·next k2 hx=>simp at h;obtain⟨rfl,rfl,rfl⟩:=h;exact At.step (fun _ _ _=>PD hx) (O t M)
  ·cases h
 ·next id ops draw k=>
  cases draw
  ·simp at h;obtain⟨rfl,rfl,rfl⟩:=h;exact At.step (fun _ _ _=>VW) (O t M)
  ·simp at h
 ·simp at h;obtain⟨rfl,rfl,rfl⟩:=h;exact At.step (fun _ _ _=>V9) (O t M)
 ·next ops i rest k=>
  split at h
  ·next ho=>
   simp at h;obtain⟨rfl,rfl,rfl⟩:=h;refine At.step (fun b cs _=>?_) (O t M);have a1:=Fj (P:=P) (b:=b) (a:=⟨t,R.ds⟩) (k:=k) (cs:=cs) (w:=w) (ops:=ops) (i:=i) (rest:=rest) (by simp[ho]);simpa only[ho,jM,gq]using a1
  ·next o ho=>
   split at h
   ·cases h
   ·next hw=>
    cases hd:pD nt o.dst with
    |true=>
     simp[hd]at h;obtain⟨rfl,rfl,rfl⟩:=h;exact At.BK ho (M.wanted hw) (O _ (M.put hd undef []))
    |false=>simp[hd]at h
   ·next hw=>
    cases hb:(known e o.op&&(tq o.op&&pD nt o.dst))with
    |false=>rw[hb]at h;simp at h
    | true=>
     rw[hb]at h;simp only[av]at hb;simp only[cond_true]at h;have V:=execOp_congr (bB t []).eval (kV e) o hb.2.1 (M.kV hb.1 []);split at h
     ·next v w2 hr=>
      simp at h;obtain⟨rfl,rfl,rfl⟩:=h;exact At.value ho (M.wanted hw) (by rw[V];exact hr) (O _ (M.put hb.2.2 v []))
     ·next w2 hr=>
      simp at h;obtain⟨rfl,rfl,rfl⟩:=h;exact At.BP ho (M.wanted hw) (by rw[V];exact hr) (O _ (M.put hb.2.2 undef []))
     ·cases h
 ·cases h
def run (P:aB)(nt:Nat):Nat→List bA→Env→aj→Option (List bA×Env×aj)
 |0,k,e,w=>some (k,e,w)
 |n+1,k,e,w=>match one P nt k e w with
  |some (k',e',w')=>run P nt n k' e' w'
  |none=>none
theorem Gi {P:aB}{f nt:Nat}{R:Goal P}:∀(n:Nat) {k k':List bA} {e e':Env} {w w':aj} {t:Array aa}
  (_:run P nt n k e w=some (k',e',w')) (_:mF nt e t) (_:∀t',mF nt e' t'→At P f k' t' w' R),At P f k t w R
 |0,_,_,_,_,_,_,t,h,hk,hnext=>by
  simp[run]at h;obtain⟨rfl,rfl,rfl⟩:=h;exact hnext t hk
 |n+1,_,_,_,_,_,_,t,h,hk,hnext=>by
  simp only[run]at h;split at h
  ·next k2 e2 w2 h1=>exact W2 h1 hk fun t' M=>Gi n h M hnext
  ·cases h
def dw:aj:=default
def kN (P:aB)(nt n:Nat)(k:List bA)(e:Env):List bA:=match run P nt n k e dw with|some (k',_,_)=>k'|none=>[]
def eN (P:aB)(nt n:Nat)(k:List bA)(e:Env):Env:=match run P nt n k e dw with|some (_,e',_)=>e'|none=>[]
theorem kO.run {P:aB}{f nt:Nat}{k:List bA}{e:Env}{L:aX}{S:List Nat}{w0:aj}{R:Goal P}(n:Nat)
  (h:∀W,Eng.run P nt n k e W=some (kN P nt n k e,eN P nt n k e,W))(V:kO P f nt (kN P nt n k e) (eN P nt n k e) L S w0 R):kO P f nt k e L S w0 R:=
 fun _ W M hm=>Gi n (h W) M fun t' O=>V t' W O hm
section
variable {P:Program}{f nt:Nat}{k:List Item}{e:Env}{L:aX}{S:List Nat}{w0:World}{R:Goal P}
theorem kO.push {i:Nat}{v:aa}(h:get? e i=some v)(hn:kO P f nt k ((i,v)::e) L S w0 R):kO P f nt k e L S w0 R:=by
 intro t W O hm;refine hn t W ⟨O.size,fun j u M=>?_⟩ hm;simp only[get?]at M;cases hb:cB i j with
 |true=>
  have:i=j:=aP hb;subst this;rw[hb]at M;simp only[cond_true,al]at M;subst M;exact O.slot i v h
 |false=>rw[hb]at M;exact O.slot j u M
def restrict (e:Env):List Nat→Option Env
 |[]=>some []
 | i::r=>match get? e i with
  |none=>none
  |some v=>match restrict e r with
   |none=>none
   |some e'=>some ((i,v)::e')
theorem tP {e:Env}:∀{M:List Nat} {e':Env},restrict e M=some e'→∀i v,get? e' i=some v→get? e i=some v
 |[],e',h,i,v,hv=>by simp[restrict]at h;subst h;simp[get?]at hv
 | j ::r,e',h,i,v,hv=>by
  simp only[restrict]at h;split at h
  ·cases h
  ·next u hu=>
   split at h
   ·cases h
   ·next e2 h2=>
    simp at h;subst h;simp only[get?]at hv;cases hb:cB j i with
    |true=>
     have:j=i:=aP hb;subst this;rw[hb]at hv;simp only[cond_true,al]at hv;subst hv;exact hu
    |false=>rw[hb]at hv;exact tP h2 i v hv
def nE (L:aX):List Nat→aX
 |[]=>[]
 |i::r=>match L[i]? with
  |some x=>x::nE L r
  |none=>nE L r
def xQ (i:Nat):List Nat→Bool
 |[]=>true
 |j::r=>bif cB i j then false else xQ i r
def o5:List Nat→Bool
 |[]=>true
 |i::r=>bif xQ i r then o5 r else false
theorem Jw {i:Nat}:∀{l:List Nat},xQ i l=true→i∉l
 |[],_=>by simp
 | j::r,h=>by
  simp only[xQ]at h;cases hb:cB i j with
  |true=>rw[hb]at h;simp at h
  |false=>
   rw[hb]at h;intro hm;cases hm with
   |head=>simp at hb
   |tail _ hm=>exact Jw (by simpa using h) hm
theorem rY:∀{l:List Nat},o5 l=true→l.Nodup
 |[],_=>List.nodup_nil
 |i::r,h=>by
  simp only[o5]at h;cases hn:xQ i r with
  |false=>rw[hn]at h;simp at h
  |true=>rw[hn]at h;exact cM.2 ⟨Jw hn,rY (by simpa using h)⟩
theorem vH:∀{V:List Nat} {x:Nat×Obj},x∈nE L V→∃i∈V,L[i]?=some x
 |[],_,h=>by simp[nE]at h
 | i::r,x,h=>by
  simp only[nE]at h;split at h
  ·next y hy=>
   cases h with
   |head=>exact⟨i,by simp,hy⟩
   |tail _ h=>obtain⟨j,M,O⟩:=vH h;exact⟨j,by simp[M],O⟩
  ·obtain⟨j,M,O⟩:=vH h;exact⟨j,by simp[M],O⟩
theorem Mem.vB {W:aj}(hm:Mem L S w0 W){a3:List Nat}(h:a3.Nodup):Mem (nE L a3) S w0 W:=by
 have a9:∀(i j:Nat) (x y:Nat×Obj),L[i]?=some x→L[j]?=some y→x.1=y.1→i=j:=by
  intro i j x y hi O V;have b1:=(bU.1 hi).1;have b3:=(bU.1 O).1;have a4:(L.map (·.1))[i]?=some x.1:=by rw[bP,hi];rfl
  have a5:(L.map (·.1))[j]?=some x.1:=by rw[bP,O];simp[V]
  have a1:i<(L.map (·.1)).length:=by simpa using b1
  have a2:j<(L.map (·.1)).length:=by simpa using b3
  rw[ar a1]at a4;rw[ar a2]at a5;have a6:(L.map (·.1))[i]=(L.map (·.1))[j]:=(bY a4).trans (bY a5).symm;have a7:=List.pairwise_iff_getElem.1 hm.nodup;rcases Nat.lt_trichotomy i j with h|h|h
  ·exact absurd a6 (a7 i j a1 a2 h)
  ·exact h
  ·exact absurd a6.symm (a7 j i a2 a1 h)
 refine⟨?_,fun p hp=>?_,fun p hp=>?_,hm.kept⟩
 ·induction a3 with
  |nil=>simp[nE]
  | cons i r ih=>
   simp only[nE];have a8:=ih (cM.1 h).2;split
   ·next x M=>
    rw[dk,cM];refine⟨fun b4=>?_,a8⟩;obtain⟨y,b5,V⟩:=bV.1 b4;obtain⟨j,O,b6⟩:=vH b5;have:=a9 i j x y M b6 V.symm;subst this;exact(cM.1 h).1 O
   ·exact a8
 ·obtain⟨i,_,M⟩:=vH hp;exact hm.here p (bk M)
 ·obtain⟨i,_,M⟩:=vH hp;exact hm.own p (bk M)
theorem kO.cut (O:List Nat){k':List bA}{e':Env}{L':aX}(hn:kO P f nt k' e' L' S w0 R)(h:(k,restrict e (e'.map (·.1)),nE L O,o5 O)=(k',some e',L',true)):kO P f nt k e L S w0 R:=by
 simp only[af]at h;obtain⟨rfl,h,rfl,V⟩:=h;intro t W M hm;exact hn t W ⟨M.size,fun i v a1=>M.slot i v (tP h i v a1)⟩ (hm.vB (rY V))
theorem kO.split (i:Nat){b:Bool}(h:get? e i=some (.bool b))(O:b=true→kO P f nt k ((i,.bool true)::e) L S w0 R)
  (M:b=false→kO P f nt k ((i,.bool false)::e) L S w0 R):kO P f nt k e L S w0 R:=by
 cases b
 ·exact kO.push h (M rfl)
 ·exact kO.push h (O rfl)
theorem kO.Pg (i:Nat){p:Prop}[Decidable p](h:get? e i=some (.bool (decide p)))(V:p→kO P f nt k ((i,.bool true)::e) L S w0 R)
  (O:¬p→kO P f nt k ((i,.bool false)::e) L S w0 R):kO P f nt k e L S w0 R:=
 kO.split i h (fun M=>V (of_decide_eq_true M)) (fun M=>O (of_decide_eq_false M))
theorem kO.DY (i:Nat){p:Prop}[Decidable p](h:get? e i=some (.bool (!decide p)))(V:¬p→kO P f nt k ((i,.bool true)::e) L S w0 R)
  (O:p→kO P f nt k ((i,.bool false)::e) L S w0 R):kO P f nt k e L S w0 R:=
 kO.split i h (fun M=>V (of_decide_eq_false (by simpa using M))) (fun M=>O (of_decide_eq_true (by simpa using M)))
theorem Ht (a:ByteArray):∀(n i:Nat) (r:List UInt8),a.size-i=n→fe a i r=r.reverse++a.data.toList.drop i
 |0,i,r,h=>by
  unfold fe;have:¬i<a.size:=by omega
  rw[if_neg this];have M:a.data.toList.length≤i:=by simp;have:a.size=a.data.size:=rfl;omega
  rw[iN M];simp
 | n+1,i,r,h=>by
  unfold fe;have hi:i<a.size:=by omega
  rw[if_pos hi];rw[Ht a n (i+1) _ (by omega)];have O:i<a.data.toList.length:=by simpa using hi
  rw[aG O];have:a.get! i=a.data.toList[i]:=by
   show a.data[i]! =_;rw[getElem!_pos a.data i hi];simp
  rw[this];simp
theorem toList_eq (a:ByteArray):a.toList=a.data.toList:=by
 unfold ByteArray.toList;rw[Ht a a.size 0 [] (by omega)];simp
theorem uZ (x y:ByteArray):(x.toList==y.toList)=true↔x=y:=by
 rw[toList_eq,toList_eq,beq_iff_eq];constructor
 ·intro h;exact ByteArray.ext (bR.1 h)
 ·rintro rfl;rfl
theorem kO.letI (i:Nat){kd:bW}{n:Int}(h:get? e i=some (.int kd n))(hn:∀x,x=n→kO P f nt k ((i,.int kd x)::e) L S w0 R):kO P f nt k e L S w0 R:=
 kO.push h (hn n rfl)
theorem kO.zb (i:Nat){n:ByteArray}(h:get? e i=some (.string n))(hn:∀x,x=n→kO P f nt k ((i,.string x)::e) L S w0 R):kO P f nt k e L S w0 R:=
 kO.push h (hn n rfl)
def lq (nt:Nat)(k:List bA)(e:Env):cW:=match cur nt k e with|some o=>o|none=>default
def kW (nt:Nat)(k:List bA)(e:Env):Option Tmp:=match cur nt k e with|some o=>o.dst|none=>none
theorem kO.ow {o:cW}{v:aa}(hc:cur nt k e=some o)(O:∀W,Mem L S w0 W→(execOp (kV e) o).run P W=.ok (.value v) W)
  (hn:kO P f nt (kZ k) (kX e (kW nt k e) v) L S w0 R):kO P f nt k e L S w0 R:=by
 refine kO.op hc fun W hm=>⟨v,W,O W hm,fun t M=>hn t W ?_ hm⟩
 simpa only[kW,hc]using M
def OpV (P:aB)(nt:Nat)(k:List bA)(e:Env)(L:aX)(S:List Nat)(w0:aj)(v:aa):Prop:=∃o,cur nt k e=some o∧∀W,Mem L S w0 W→(execOp (kV e) o).run P W=.ok (.value v) W
theorem OpV.E {v:aa}(h:OpV P nt k e L S w0 v)(hn:kO P f nt (kZ k) (kX e (kW nt k e) v) L S w0 R):kO P f nt k e L S w0 R:=let ⟨_,h1,h2⟩:=h;kO.ow h1 h2 hn
theorem kO.yE {o:cW}{L':aX}(hc:cur nt k e=some o)(a2:∀W,Mem L S w0 W→∃M,(execOp (kV e) o).run P W=.ok .skip M∧Mem L' S w0 M)
  (hn:kO P f nt (kZ k) (kX e (kW nt k e) undef) L' S w0 R):kO P f nt k e L S w0 R:=by
 refine kO.Bk hc fun W hm=>?_
 obtain⟨M,O,V⟩:=a2 W hm;exact⟨M,O,fun t a1=>hn t M (by simpa only[kW,hc]using a1) V⟩
theorem run_lift {s:Sem aa}{v:aa}{W M:aj}(h:s.run P W=.ok v M):(do pure (Next.value (←s)):Sem Next).run P W=.ok (.value v) M:=by
 rw[aR,h];rfl
def k8 (s:ByteArray)(i:Int):Int:=(((s.data.toList)[i.toNat]?).getD 0).toNat
def vY (P:aB)(nt:Nat)(k:List bA)(e:Env):Option (Option cN×aa×aa):=
 match cur nt k e with
 |some o=>match o.op with
  | .index T x i=>some (P.underlying T,kV e x,kV e i)
  |_=>none
 |none=>none
theorem OpV.sg {s:ByteArray}{kd:bW}{i:Int}(h:vY P nt k e=some (some .string,.string s,.int kd i))(M:0≤i∧i<s.size):OpV P nt k e L S w0 (.int .u8 (k8 s i)):=by
 unfold vY at h;split at h
 ·next o hc=>
  split at h
  ·next T x ix ho=>
   simp only[al,af]at h;obtain⟨O,a1,hi⟩:=h;refine⟨_,hc,fun W _=>?_⟩;simp only[execOp,ho,a1,hi];refine run_lift ?_;rw[run_index_string _ _ _ _ _ O,dif_pos M];have V:i.toNat<s.data.toList.length:=by have:s.size=s.data.size:=rfl;simp;omega
   have:(s[i.toNat]'(by omega))=((s.data.toList)[i.toNat]?).getD 0:=by
    rw[ar V];simp[ByteArray.getElem_eq_getElem_data]
   rw[this];rfl
  ·cases h
 ·cases h
theorem kO.sg {s:ByteArray}{kd:bW}{i:Int}(h:vY P nt k e=some (some .string,.string s,.int kd i))(M:0≤i∧i<s.size)(hn:kO P f nt (kZ k) (kX e (kW nt k e) (.int .u8 (k8 s i))) L S w0 R):kO P f nt k e L S w0 R:=(OpV.sg h M).E hn
def asSlice (P:aB)(nt:Nat)(k:List bA)(e:Env):Option (Option cN×aa×Option aa×Option aa×Option aa):=
 match cur nt k e with
 |some o=>match o.op with
  | .slice T x lo hi mx=>some (P.underlying T,kV e x,lo.map (kV e),hi.map (kV e),mx.map (kV e))
  |_=>none
 |none=>none
theorem OpV.sj {s:ByteArray}{lo hi:Option aa}(h:asSlice P nt k e=some (some .string,.string s,lo,hi,none)){a b:Int}
  (a1:(∃kd,lo=some (.int kd a))∨(lo=none∧a=0))(V:(∃kd,hi=some (.int kd b))∨(hi=none∧b=s.size))(M:0≤a∧a≤b∧b≤s.size):OpV P nt k e L S w0 (.string (s.extract a.toNat b.toNat)):=by
 unfold asSlice at h;split at h
 ·next o hc=>
  split at h
  ·next T x l2 h2 m2 ho=>
   simp only[al,af]at h;obtain⟨O,a4,a3,a2,hm⟩:=h;refine⟨_,hc,fun W _=>?_⟩;simp only[execOp,ho,a4,a3,a2,hm];refine run_lift ?_;rw[run_sliceAt_string _ _ _ _ _ _ O];rcases a1 with⟨kd,rfl⟩|⟨rfl,rfl⟩<;>rcases V with⟨kd',rfl⟩|⟨rfl,rfl⟩
   ·exact run_slice_string _ _ _ _ _ _ _ O M.1 M.2.1 M.2.2
   ·rw[run_slice_string_from_if _ _ _ _ _ O,if_pos ⟨M.1,M.2.1⟩];simp
   ·rw[run_slice_string_to_if _ _ _ _ _ O,if_pos ⟨M.2.1,M.2.2⟩];rfl
   ·rw[run_slice_string_all _ _ _ O];simp
  ·cases h
 ·cases h
theorem kO.sj {s:ByteArray}{lo hi:Option aa}(h:asSlice P nt k e=some (some .string,.string s,lo,hi,none)){a b:Int}
  (a1:(∃kd,lo=some (.int kd a))∨(lo=none∧a=0))(V:(∃kd,hi=some (.int kd b))∨(hi=none∧b=s.size))(M:0≤a∧a≤b∧b≤s.size)(hn:kO P f nt (kZ k) (kX e (kW nt k e) (.string (s.extract a.toNat b.toNat))) L S w0 R):kO P f nt k e L S w0 R:=(OpV.sj h a1 V M).E hn
def qC (nt:Nat)(k:List bA)(e:Env):Option (BinOp×aa×aa):=
 match cur nt k e with
 |some o=>match o.op with
  | .binOp op _ x y _=>some (op,kV e x,kV e y)
  |_=>none
 |none=>none
theorem FE {op:BinOp}{a b:aa}(h:qC nt k e=some (op,a,b)):∃o T x y U,cur nt k e=some o∧o.op=.binOp op T x y U∧kV e x=a∧kV e y=b:=by
 unfold qC at h;split at h
 ·next o hc=>
  split at h
  ·next op' T x y U ho=>
   simp only[al,af]at h;obtain⟨rfl,M,O⟩:=h;exact⟨o,T,x,y,U,hc,ho,M,O⟩
  ·cases h
 ·cases h
theorem Fm {op:BinOp}(T:aC)(x y:eP)(a b:aa)(W:aj)(h:op≠ .eql∧op≠ .neq):(eqGuard op T x y a b).run P W=.ok () W:=by
 cases op<;>simp_all [eqGuard]
theorem OpV.concat {x y:ByteArray}(h:qC nt k e=some (.add,.string x,.string y))(M:x.size+y.size≤9223372036854775807):OpV P nt k e L S w0 (.string (x++y)):=by
 obtain⟨o,T,a,b,U,hc,a1,O,V⟩:=FE h;refine⟨_,hc,fun W _=>?_⟩;simp only[execOp,a1,O,V];refine run_lift ?_;rw[aR,Fm _ _ _ _ _ _ (by simp)];simp only[cA,binOp,Op.stringOp];rw[if_neg (by show¬(((x.size+y.size:Nat):Int)>9223372036854775807);omega)];rfl
theorem kO.concat {x y:ByteArray}(h:qC nt k e=some (.add,.string x,.string y))(M:x.size+y.size≤9223372036854775807)(hn:kO P f nt (kZ k) (kX e (kW nt k e) (.string (x++y))) L S w0 R):kO P f nt k e L S w0 R:=(OpV.concat h M).E hn
theorem OpV.shl {kd kc:bW}{x y:Int}(h:qC nt k e=some (.shl,.int kd x,.int kc y))(M:0≤y):OpV P nt k e L S w0 (.int kd (kd.wrap (x*2^(min y.toNat kd.bits)))):=by
 obtain⟨o,T,a,b,U,hc,a1,O,V⟩:=FE h;refine⟨_,hc,fun W _=>?_⟩;simp only[execOp,a1,O,V];refine run_lift ?_;rw[aR,Fm _ _ _ _ _ _ (by simp)];simp only[cA,binOp,Op.shift];rw[if_neg (by omega)];rfl
theorem kO.shl {kd kc:bW}{x y:Int}(h:qC nt k e=some (.shl,.int kd x,.int kc y))(M:0≤y)(hn:kO P f nt (kZ k) (kX e (kW nt k e) (.int kd (kd.wrap (x*2^(min y.toNat kd.bits))))) L S w0 R):kO P f nt k e L S w0 R:=(OpV.shl h M).E hn
theorem OpV.rem {kd:bW}{x y:Int}(h:qC nt k e=some (.rem,.int kd x,.int kd y))(M:y≠0):OpV P nt k e L S w0 (.int kd (x.tmod y)):=by
 obtain⟨o,T,a,b,U,hc,a1,O,V⟩:=FE h;refine⟨_,hc,fun W _=>?_⟩;simp only[execOp,a1,O,V];refine run_lift ?_;rw[aR,Fm _ _ _ _ _ _ (by simp)];simp[cA,binOp,Op.intDiv,M]
theorem kO.rem {kd:bW}{x y:Int}(h:qC nt k e=some (.rem,.int kd x,.int kd y))(M:y≠0)(hn:kO P f nt (kZ k) (kX e (kW nt k e) (.int kd (x.tmod y))) L S w0 R):kO P f nt k e L S w0 R:=(OpV.rem h M).E hn
def eA (P:aB)(g:bO)(args:Array aa)(L:aX)(S:List Nat)(w0:aj)(K:aa→aX→Prop):Prop:=
 ∀W,Mem L S w0 W→aE P g args W fun e W'=>∃v L',e=.returned v∧Mem L' S w0 W'∧K v L'
theorem kO.call (g:bO)(args:Array aa){L1:aX}{K:aa→aX→Prop}(a8:∀W,(execOp (kV e) (lq nt k e)).run P W=.ok (.enter g args) W)
  (hc:(cur nt k e,L)=(some (lq nt k e),L1))(h:eA P g args L1 S w0 K)
  (hn:∀v L',K v L'→kO P f nt (kZ k) (kX e (kW nt k e) v) L' S w0 R):kO P f nt k e L S w0 R:=by
 intro t W M hm;simp only[af]at hc;obtain⟨hc,rfl⟩:=hc;obtain⟨ops,i,rest,k',rfl,a7,a9,a5,hp,a2⟩:=pG hc;have O:=a8 W;rw[←execOp_congr (bB t []).eval (kV e) _ hp (M.kV a5 [])]at O;refine At.enter a7 (M.wanted a9) O ((h W hm).mono fun en V a4=>?_);obtain⟨v,L',a3,a6,a1⟩:=a4;refine⟨v,a3,hn v L' a1 _ V ?_ a6⟩;have:=M.put a2 v [];simpa only[kW,hc]using this
def l9 (P:aB)(g:bO)(args:Array aa)(v:aa):Prop:=
 ∀W,aE P g args W fun e W'=>e=.returned v∧Below W.heap.size W W'
theorem eA.pure {g:bO}{args:Array aa}{v:aa}{K:aa→aX→Prop}(h:l9 P g args v)(O:K v L):eA P g args L S w0 K:=
 fun W hm=>(h W).mono fun _ _ M=>⟨v,L,M.1,hm.after M.2,O⟩
def Fin (R:bJ→aj→Prop)(L:aX)(S:List Nat)(w0:aj)(v:aa):Prop:=∀W,Mem L S w0 W→R (.returned v) W
def rq (e:Env)(rs:List ResultVar):Option aa:=
 match rs with
 |[]=>some (.tuple #[])
 |[.tmp a]=>get? e a
 | [.tmp a,.tmp b]=>match get? e a with
  |some x=>match get? e b with
   |some y=>some (.tuple #[x,y])
   |none=>none
  |none=>none
 | [.tmp a,.tmp b,.tmp c]=>match get? e a with
  | some x=>match get? e b with
   |some y=>match get? e c with
    |some z=>some (.tuple #[x,y,z])
    |none=>none
   |none=>none
  |none=>none
 |_=>none
theorem mF.getD {t:Array aa}(M:mF nt e t){i:Nat}{v:aa}(h:get? e i=some v):t.getD i undef=v:=by
 rw[bo,M.slot i v h];rfl
theorem Eu {fn:fu}{t:Array aa}(O:mF nt e t){v:aa}(h:rq e fn.results.toList=some v)(W:aj):(results fn t).run P W=.ok v W:=by
 have M:fn.results=fn.results.toList.toArray:=by simp
 unfold rq at h;split at h
 ·next h0=>rw[h0]at M;simp at h;subst h;exact results_none M _ _ _
 ·next a h0=>rw[h0]at M;rw[results_tmp M,O.getD h]
 ·next a b h0=>
  rw[h0]at M;split at h
  ·next x hx=>
   split at h
   ·next y hy=>simp at h;subst h;rw[results_tmp2 M,O.getD hx,O.getD hy]
   ·cases h
  ·cases h
 ·next a b c h0=>
  rw[h0]at M;split at h
  ·next x hx=>
   split at h
   ·next y hy=>
    split at h
    ·next z hz=>simp at h;subst h;rw[results_tmp3 M,O.getD hx,O.getD hy,O.getD hz]
    ·cases h
   ·cases h
  ·cases h
 ·cases h
def oX:List bA→Bool
 | .code .ret::_=>true
 |[]=>true
 |_=>false
theorem kO.ret {R:bJ→aj→Prop}{fn:fu}{v:aa}{L1:aX}(V:P.funcs[f]?=some fn)(M:(oX k,rq e fn.results.toList,L)=(true,some v,L1))(h:Fin R L1 S w0 v):kO P f nt k e L S w0 (lN R):=by
 simp only[af]at M;obtain⟨O,M,rfl⟩:=M;intro t W a1 hm;unfold oX at O;split at O
 ·exact At.ret V (Eu a1 M W) (h W hm)
 ·exact At.fin V (Eu a1 M W) (h W hm)
 ·cases O
def M3 (k:bW)(x y:Int):Int:=k.wrap ((db k.bits x|||db k.bits y).toNat:Int)
def qL (k:bW)(x y:Int):Int:=k.wrap ((db k.bits x^^^db k.bits y).toNat:Int)
def CO (k:bW)(x:Int):Int:=qL k (if k.signed then-1 else k.max) x
def sub:fv→List Nat→fv
 |c,[]=>c
 | .seq a b,i::r=>match i with|0=>sub a r|_=>sub b r
 | .cond _ a b,i::r=>match i with|0=>sub a r|_=>sub b r
 | .block _ b,_::r=>sub b r
 | .loop b,_::r=>sub b r
 | .scope b,_::r=>sub b r
 | .rangeFunc _ _ a b,i::r=>match i with|0=>sub a r|_=>sub b r
 |c,_=>c
def body (fn:fu):fv:=match fn.body with|some c=>c|none=>.skip
def qY:Nat→List aa→Env
 |_,[]=>[]
 |i,v::r=>(i,v)::qY (i+1) r
theorem C4:∀(vs:List aa) (i j:Nat) (v:aa),get? (qY i vs) j=some v→i≤j∧vs[j-i]?=some v
 |[],_,_,_,h=>by simp[qY,get?]at h
 | u::r,i,j,v,h=>by
  simp only[qY,get?]at h;cases hb:cB i j with
  |true=>
   have:i=j:=aP hb;subst this;rw[hb]at h;simp at h;subst h;simp
  |false=>
   rw[hb]at h;have V:i≠j:=fun e=>by subst e;simp at hb
   obtain⟨O,M⟩:=C4 r (i+1) j v h;refine⟨by omega,?_⟩;have:j-i=(j-(i+1))+1:=by omega
   rw[this];simpa using M
theorem kO.calls {fn:fu}{args:List aa}{L:aX}{S:List Nat}{w0 W:aj}{R:bJ→aj→Prop}(a4:P.funcs[f]?=some fn)(O:(fn.body.isSome,fn.ntmps,cC args.length nt)=(true,nt,true))(hm:Mem L S w0 W)
  (h:kO P f nt [.code (body fn)] (qY 0 args) L S w0 (lN R)):aE P f ⟨args⟩ W R:=by
 simp only[af]at O;obtain⟨V,a1,a2⟩:=O;obtain⟨c,hc⟩:=aJ.1 V;refine At.calls a4 hc ?_;have a3:body fn=c:=by simp[body,hc]
 rw[←a3];have a5:args.length≤nt:=bl a2;refine h _ W ⟨?_,?_⟩ hm
 ·simp[a1];omega
 ·intro i v M
  obtain⟨_,M⟩:=C4 args 0 i v M;simp only[ji]at M;have hi:i<args.length:=(bU.1 M).1;rw[ib (by simpa using hi)];simpa using M
end
section
variable {P:Program}{f nt:Nat}{k:List Item}{e:Env}{L:aX}{S:List Nat}{w0:World}{R:Goal P}
def k7 (L:aX)(j:Nat):Nat:=match L[j]? with|some (B,_)=>B|none=>0
def lO (L:aX)(j:Nat):List aa:=match L[j]? with|some (_,.cells c _ _)=>c.toList|_=>[]
def rv (L:aX)(j:Nat):aC:=match L[j]? with|some (_,.cells _ t _)=>t|_=>0
def nD (L:aX)(j:Nat):Nat×Nat:=match L[j]? with|some (_,.cells _ _ fz)=>fz|_=>(0,0)
def mc (L:aX)(j:Nat):Bool:=match L[j]? with|some (_,.cells _ _ _)=>true|_=>false
def oP (L:aX)(j:Nat)(c:List aa):aX:=L.set j (k7 L j,.cells ⟨c⟩ (rv L j) (nD L j))
theorem AE {L:aX}{j:Nat}(h:mc L j=true):L[j]?=some (k7 L j,.cells ⟨lO L j⟩ (rv L j) (nD L j)):=by
 unfold mc at h;split at h
 ·next B c t fz hj=>simp[k7,lO,rv,nD,hj]
 ·cases h
theorem Mem.pf {W:aj}(hm:Mem L S w0 W){j:Nat}(h:mc L j=true):W.heap[k7 L j]?=some (.cells ⟨lO L j⟩ (rv L j) (nD L j)):=
 hm.here _ (bk (AE h))
theorem pN (b o j:Nat):(⟨b,o,none⟩:hO).add j=⟨b,o+j,none⟩:=by unfold Addr.add;split<;>simp_all
def ur:cN→Bool
 | .struct _| .array _ _=>true
 |_=>false
def mS (P:aB)(T:aC)(c:List aa)(off:Nat):Option aa:=
 match P.underlying T with
 |none=>none
 | some d=>match ur d with
  |true=>match P.info? T with
   |some i=>bif cC (off+i.size) c.length then some (.agg ⟨(c.drop off).take i.size⟩)else none
   |none=>none
  |false=>c[off]?
theorem cell_of_heap {W:aj}{B:Nat}{c:List aa}{t:aC}{fz:Nat×Nat}(h:W.heap[B]?=some (.cells ⟨c⟩ t fz))(off:Nat):W.cell? ⟨B,off,none⟩=c[off]?:=by
 simp[World.cell?,h]
theorem vd {W:aj}{B off:Nat}{c:List aa}{t:aC}{fz:Nat×Nat}{T:aC}{v:aa}(h:W.heap[B]?=some (.cells ⟨c⟩ t fz))(M:mS P T c off=some v):
  (gB T (.pointer (some ⟨B,off,none⟩))).run P W=.ok v W:=by
 unfold mS at M;split at M
 ·cases M
 ·next d hd=>
  split at M
  ·next ha=>
   split at M
   ·next i hi=>
    cases hb:cC (off+i.size) c.length with
    |false=>rw[hb]at M;simp at M
    | true=>
     have a1:=bl hb;rw[hb]at M;simp only[cond_true,al]at M;subst M;have:=run_loadAt_mid (P:=P) W B off T ((c.drop off).take i.size) d (fun j u O=>?_) hd (by cases d<;>simp_all [ur]) (by simp[hi];omega)
     ·simpa using this
     ·rw[cell_of_heap h]
      rw[dA]at O;split at O
      ·rw[cd]at O;exact O
      ·cases O
   ·cases M
  ·next ha=>
   have V:(isAgg T).run P W=.ok false W:=by
    unfold isAgg;rw[aR,run_underlying hd W];cases d<;>simp_all [ur]
   simp only[gB,eD,aR,cg,bw,loadVar,V];simp[run_load,cell_of_heap h,M]
def nI (nt:Nat)(k:List bA)(e:Env):Option (aC×aa):=
 match cur nt k e with
 |some o=>match o.op with
  | .load T x=>some (T,kV e x)
  |_=>none
 |none=>none
theorem yb {T:aC}{a:aa}(h:nI nt k e=some (T,a)):∃o x,cur nt k e=some o∧o.op=.load T x∧kV e x=a:=by
 unfold nI at h;split at h
 ·next o hc=>
  split at h
  ·next T' x ho=>simp only[al,af]at h;obtain⟨rfl,M⟩:=h;exact⟨o,x,hc,ho,M⟩
  ·cases h
 ·cases h
theorem OpV.load (j off:Nat){T:aC}{v:aa}(h:(nI nt k e,mc L j,mS P T (lO L j) off)=(some (T,.pointer (some ⟨k7 L j,off,none⟩)),true,some v)):OpV P nt k e L S w0 v:=by
 simp only[af]at h;obtain⟨M,O,V⟩:=h;obtain⟨o,x,hc,a1,a2⟩:=yb M;refine⟨_,hc,fun W hm=>?_⟩;simp only[execOp,a1,a2];exact run_lift (vd (hm.pf O) V)
theorem kO.load (j off:Nat){T:aC}{v:aa}(h:(nI nt k e,mc L j,mS P T (lO L j) off)=(some (T,.pointer (some ⟨k7 L j,off,none⟩)),true,some v))(hn:kO P f nt (kZ k) (kX e (kW nt k e) v) L S w0 R):kO P f nt k e L S w0 R:=(OpV.load j off h).E hn
theorem OpV.um (j:Nat){off:Nat}{T:aC}{v:aa}{c:List aa}(h:(nI nt k e,mc L j,lO L j)=(some (T,.pointer (some ⟨k7 L j,off,none⟩)),true,c))(M:mS P T c off=some v):OpV P nt k e L S w0 v:=by
 simp only[af]at h;obtain⟨O,V,a1⟩:=h;obtain⟨o,x,hc,a2,a3⟩:=yb O;refine⟨_,hc,fun W hm=>?_⟩;simp only[execOp,a2,a3];exact run_lift (vd (hm.pf V) (a1▸M))
theorem kO.um (j:Nat){off:Nat}{T:aC}{v:aa}{c:List aa}(h:(nI nt k e,mc L j,lO L j)=(some (T,.pointer (some ⟨k7 L j,off,none⟩)),true,c))(M:mS P T c off=some v)(hn:kO P f nt (kZ k) (kX e (kW nt k e) v) L S w0 R):kO P f nt k e L S w0 R:=(OpV.um j h M).E hn
theorem o4 {T:aC}{c:List aa}{off:Nat}{v:aa}(h:c[off]?=some v)(M:(P.underlying T).map ur=some false):mS P T c off=some v:=by
 unfold mS;cases hd:P.underlying T with
 |none=>rw[hd]at M;cases M
 |some d=>
  rw[hd]at M;simp at M;simp[M,h]
theorem vN {T:aC}{c:List aa}{off n:Nat}{vs:List aa}(h:(c.drop off).take n=vs)(O:off+n≤c.length)(M:(P.underlying T).map ur=some true)(hi:(P.info? T).map (·.size)=some n):mS P T c off=some (.agg ⟨vs⟩):=by
 unfold mS;cases hd:P.underlying T with
 |none=>rw[hd]at M;cases M
 | some d=>
  rw[hd]at M;simp at M;cases hq:P.info? T with
  |none=>rw[hq]at hi;cases hi
  |some i=>
   rw[hq]at hi;simp at hi;have:cC (off+n) c.length=true:=Nat.ble_eq_true_of_le O;simp[M,this,hi,h]
def lG (w:aj)(b:Nat):Option (List aa):=match w.heap[b]? with|some (.cells c _ _)=>some c.toList|_=>none
theorem OpV.pV {b off:Nat}{T:aC}{v:aa}{c:List aa}(h:nI nt k e=some (T,.pointer (some ⟨b,off,none⟩)))(M:b∉S)(hc:lG w0 b=some c)(O:mS P T c off=some v):OpV P nt k e L S w0 v:=by
 obtain⟨o,x,V,a2,a3⟩:=yb h;refine⟨_,V,fun W hm=>?_⟩;simp only[execOp,a2,a3];refine run_lift ?_;unfold lG at hc;split at hc
 ·next c' t fz hh=>
  simp at hc;subst hc;have a1:b<w0.heap.size:=by
   rcases cy b w0.heap.size with h|h
   ·exact h
   ·rw[dQ h]at hh;cases hh
  refine vd (t:=t) (fz:=fz) ?_ O;rw[hm.kept.block b a1 M,hh]
 ·cases hc
theorem kO.pV {b off:Nat}{T:aC}{v:aa}{c:List aa}(h:nI nt k e=some (T,.pointer (some ⟨b,off,none⟩)))(M:b∉S)(hc:lG w0 b=some c)(O:mS P T c off=some v)(hn:kO P f nt (kZ k) (kX e (kW nt k e) v) L S w0 R):kO P f nt k e L S w0 R:=(OpV.pV h M hc O).E hn
def q8 (nt:Nat)(k:List bA)(e:Env):Option (aC×aa×aa):=
 match cur nt k e with
 |some o=>match o.op with
  | .store T x v=>some (T,kV e x,kV e v)
  |_=>none
 |none=>none
theorem AL {T:aC}{a v:aa}(h:q8 nt k e=some (T,a,v)):∃o x y,cur nt k e=some o∧o.op=.store T x y∧kV e x=a∧kV e y=v:=by
 unfold q8 at h;split at h
 ·next o hc=>
  split at h
  ·next T' x y ho=>simp only[al,af]at h;obtain⟨rfl,M,O⟩:=h;exact⟨o,x,y,hc,ho,M,O⟩
  ·cases h
 ·cases h
def rV:List aa→Bool
 |[]=>true
 |v::r=>bif v.oneCell' then rV r else false
theorem yj:∀{l:List aa},rV l=true→∀v∈l,v.oneCell'=true
 |[],_,_,h=>by cases h
 | v::r,h,x,hx=>by
  simp only[rV]at h;cases hv:v.oneCell' with
  |false=>rw[hv]at h;simp at h
  |true=>
   rw[hv]at h;cases hx with
   |head=>exact hv
   |tail _ hm=>exact yj (by simpa using h) x hm
def ue (P:aB)(T:aC)(c:List aa)(off:Nat)(v:aa):Option (List aa):=
 match P.info? T with
 |none=>none
 |some i=>bif (cB v.cells.toList.length i.size&&cC (off+i.size) c.length)&&rV v.cells.toList then some (c.take off++v.cells.toList++c.drop (off+v.cells.toList.length))else none
theorem World.wa (W:aj)(B:Nat)(c c':Array aa)(t:aC)(fz:Nat×Nat)(h:W.heap[B]?=some (.cells c t fz)):(W.setRow B c').heap=W.heap.setIfInBounds B (.cells c' t fz):=by
 apply dS;intro i;simp only[World.setRow,dz,cJ];split
 ·next hi=>
  subst hi;have:B<W.heap.size:=(bK.1 h).1;rw[h];simp[this]
 ·rfl
theorem De {W:aj}{B off:Nat}{c c':List aa}{t:aC}{T:aC}{v:aa}(h:W.heap[B]?=some (.cells ⟨c⟩ t (0,0)))(M:ue P T c off v=some c'):
  (iw T (.pointer (some ⟨B,off,none⟩)) v).run P W=.ok () (W.setRow B ⟨c'⟩):=by
 unfold ue at M;split at M
 ·cases M
 ·next i hi=>
  cases hb:(cB v.cells.toList.length i.size&&cC (off+i.size) c.length)&&rV v.cells.toList with
  |false=>rw[hb]at M;simp at M
  |true=>
   rw[hb]at M;simp only[cond_true,al]at M;subst M;simp only[av]at hb;obtain⟨⟨O,V⟩,a1⟩:=hb;have O:=aP O;have V:=bl V;have a3:=run_storeCells_at P B off t v.cells.toList 0 ⟨c⟩ W h (by simp;simp at O;omega) (yj a1);simp only[iw,eD,aR,cg,bw,storeVar,sizeOf,typeInfo,run_program,hi];have a2:¬(v.cells.size≠i.size):=by simpa using O
   simp only[a2,if_false];rw[a3];simp
theorem Mem.setRow {W:aj}(hm:Mem L S w0 W){j:Nat}(h:mc L j=true)(c':List aa):Mem (oP L j c') S w0 (W.setRow (k7 L j) ⟨c'⟩):=
 Mem.setObj hm (AE h) _ rfl rfl rfl (World.wa W _ _ _ _ _ (hm.pf h))
def vi (P:aB)(T:aC)(c:List aa)(off:Nat)(v:aa):Bool:=match ue P T c off v with|some _=>true|none=>false
def tC (P:aB)(T:aC)(c:List aa)(off:Nat)(v:aa):List aa:=match ue P T c off v with|some c'=>c'|none=>[]
theorem kO.store (j off:Nat){T:aC}{v:aa}(h:(q8 nt k e,mc L j,nD L j,vi P T (lO L j) off v)=(some (T,.pointer (some ⟨k7 L j,off,none⟩),v),true,(0,0),true))
  (hn:kO P f nt (kZ k) (kX e (kW nt k e) undef) (oP L j (tC P T (lO L j) off v)) S w0 R):kO P f nt k e L S w0 R:=by
 simp only[af]at h;obtain⟨V,M,a1,a2⟩:=h;obtain⟨o,x,y,hc,a4,a5,a6⟩:=AL V;cases hp:ue P T (lO L j) off v with
 |none=>simp[vi,hp]at a2
 |some c'=>
  have a3:tC P T (lO L j) off v=c':=by simp[tC,hp]
  rw[a3]at hn;refine kO.yE hc (fun W hm=>⟨W.setRow (k7 L j) ⟨c'⟩,?_,hm.setRow M c'⟩) hn;simp only[execOp,a4,a5,a6];have O:=hm.pf M;rw[a1]at O;rw[aR,De O hp];rfl
theorem Gj {W:aj}{B off:Nat}{c:List aa}{t:aC}{fz:Nat×Nat}{v:aa}(h:W.heap[B]?=some (.cells ⟨c⟩ t fz)):W.setCell ⟨B,off,none⟩ v=W.setRow B ⟨c.set off v⟩:=by
 unfold World.setCell World.setRow;congr 1;apply dS;intro i;simp only[dz];split
 ·next hi=>subst hi;rw[h];simp
 ·rfl
theorem kO.xP (j:Nat){off lo hi:Nat}{T:aC}{v:aa}{c:List aa}(h:(q8 nt k e,mc L j,v.oneCell',(P.info? T).map (·.size),lO L j,nD L j)=(some (T,.pointer (some ⟨k7 L j,off,none⟩),v),true,true,some 1,c,(lo,hi)))
  (a6:off<c.length)(a9:off<lo∨hi≤off)
  (hn:kO P f nt (kZ k) (kX e (kW nt k e) undef) (oP L j (c.set off v)) S w0 R):kO P f nt k e L S w0 R:=by
 simp only[af]at h;obtain⟨a2,V,a3,M,a4,a5⟩:=h;obtain⟨o,x,y,hc,b1,b3,b4⟩:=AL a2;refine kO.yE hc (fun W hm=>⟨W.setRow (k7 L j) ⟨c.set off v⟩,?_,hm.setRow V _⟩) hn;have O:=hm.pf V;rw[a4,a5]at O;cases hq:P.info? T with
 |none=>rw[hq]at M;cases M
 | some i=>
  rw[hq]at M;simp at M;have hcs:v.cells= #[v]:=by cases v<;>simp_all [Value.cells,Value.oneCell']
  have a7:W.cell? ⟨k7 L j,off,none⟩=some (c[off]):=by rw[cell_of_heap O,ar a6]
  have a8:W.frozen? ⟨k7 L j,off,none⟩=false:=by
   simp only[iK,O];rcases a9 with h|h
   ·simp;intro a1;omega
   ·simp;intro a1;omega
  simp only[execOp,b1,b3,b4,aR,iw,eD,cg,bw,storeVar,sizeOf,typeInfo,run_program,hq,hcs];simp only[M,ec,aI,bt,az,ne_eq,not_true,if_false,storeCells];simp only[aR,Addr.add_zero',run_store P W _ v _ a3,a7,a8,dV,if_false,bw,cg];rw[Gj O]
theorem kO.new (M:Nat→aa)(o:Obj)(h:∀W,(execOp (kV e) (lq nt k e)).run P W=.ok (.value (M W.heap.size)) {W with heap:=W.heap.push o})(hc:cur nt k e=some (lq nt k e))
  (hn:∀B,kO P f nt (kZ k) (kX e (kW nt k e) (M B)) (L++[(B,o)]) S w0 R):kO P f nt k e L S w0 R:=by
 refine kO.op hc fun W hm=>⟨M W.heap.size,_,h W,fun t O=>hn W.heap.size t _ ?_ (hm.alloc o)⟩
 simpa only[kW,hc]using O
def rZ (P:aB)(nt:Nat)(k:List bA)(e:Env):Option (Option cN×aa×aa):=
 match cur nt k e with
 |some o=>match o.op with
  | .indexAddr T x i=>some (P.underlying T,kV e x,kV e i)
  |_=>none
 |none=>none
theorem Gx {d:Option cN}{a i:aa}(h:rZ P nt k e=some (d,a,i)):∃o T x y,cur nt k e=some o∧o.op=.indexAddr T x y∧P.underlying T=d∧kV e x=a∧kV e y=i:=by
 unfold rZ at h;split at h
 ·next o hc=>
  split at h
  ·next T x y ho=>simp only[al,af]at h;obtain⟨M,O,V⟩:=h;exact⟨o,T,x,y,hc,ho,M,O,V⟩
  ·cases h
 ·cases h
theorem OpV.nr {E:aC}{b o len cap sz o':Nat}{kd:bW}{i:Int}(h:(rZ P nt k e,(P.info? E).map (·.size))=(some (some (.slice E),.slice (some ⟨b,o,none⟩) len cap,.int kd i),some sz))
  (O:0≤i∧i<len)(V:o'=o+i.toNat*sz):OpV P nt k e L S w0 (.pointer (some ⟨b,o',none⟩)):=by
 simp only[af]at h;obtain⟨a1,M⟩:=h;obtain⟨op,T,x,y,hc,a3,a2,a4,a5⟩:=Gx a1;cases hq:P.info? E with
 |none=>rw[hq]at M;cases M
 |some ii=>
  rw[hq]at M;simp at M;refine⟨_,hc,fun W hm=>?_⟩;simp only[execOp,a3,a4,a5];refine run_lift ?_;simp only[kE,asIntOf,aR,cg,bw,run_underlying a2,O,and_self,if_true,sizeOf,typeInfo,run_program,hq,pN,M,←V]
theorem kO.nr {E:aC}{b o len cap sz o':Nat}{kd:bW}{i:Int}(h:(rZ P nt k e,(P.info? E).map (·.size))=(some (some (.slice E),.slice (some ⟨b,o,none⟩) len cap,.int kd i),some sz))
  (O:0≤i∧i<len)(V:o'=o+i.toNat*sz)(hn:kO P f nt (kZ k) (kX e (kW nt k e) (.pointer (some ⟨b,o',none⟩))) L S w0 R):kO P f nt k e L S w0 R:=(OpV.nr h O V).E hn
theorem kO.JP {E:aC}{n b o sz o':Nat}{kd:bW}{i:Int}(h:(rZ P nt k e,(P.info? E).map (·.size))=(some (some (.array n E),.pointer (some ⟨b,o,none⟩),.int kd i),some sz))
  (V:0≤i∧i<n)(a2:o'=o+i.toNat*sz)(hn:kO P f nt (kZ k) (kX e (kW nt k e) (.pointer (some ⟨b,o',none⟩))) L S w0 R):kO P f nt k e L S w0 R:=by
 simp only[af]at h;obtain⟨O,M⟩:=h;obtain⟨op,T,x,y,hc,a3,a1,a4,a5⟩:=Gx O;cases hq:P.info? E with
 |none=>rw[hq]at M;cases M
 |some ii=>
  rw[hq]at M;simp at M;refine kO.ow hc (fun W hm=>?_) hn;simp only[execOp,a3,a4,a5];refine run_lift ?_;simp only[kE,asIntOf,eD,aR,cg,bw,run_underlying a1,V,and_self,if_true,sizeOf,typeInfo,run_program,hq,pN,M,←a2]
theorem OpV.rz {E:aC}{b o len cap sz o' l' c':Nat}{lo hi:Option aa}{x y:Int}(h:(asSlice P nt k e,(P.info? E).map (·.size))=(some (some (.slice E),.slice (some ⟨b,o,none⟩) len cap,lo,hi,none),some sz))
  (a5:(∃kd,lo=some (.int kd x))∨(lo=none∧x=0))(a3:(∃kd,hi=some (.int kd y))∨(hi=none∧y=len∧len≤cap))(a1:0≤x∧x≤y∧y≤cap)
  (a6:o'=if x.toNat=cap then o else o+x.toNat*sz)(a4:l'=y.toNat-x.toNat)(a2:c'=cap-x.toNat):OpV P nt k e L S w0 (.slice (some ⟨b,o',none⟩) l' c'):=by
 simp only[af]at h;obtain⟨O,V⟩:=h;unfold asSlice at O;split at O
 ·next op hc=>
  split at O
  ·next T x' l2 h2' m2 hop=>
   simp only[al,af]at O;obtain⟨a8,b4,b1,a9,b3⟩:=O;cases hq:P.info? E with
   |none=>rw[hq]at V;cases V
   | some ii=>
    rw[hq]at V;simp at V;refine⟨_,hc,fun W hm=>?_⟩;simp only[execOp,hop,b4,b1,a9,b3];refine run_lift ?_;have key:(cG true len cap lo hi none).run P W=.ok (x.toNat,y.toNat,cap) W:=by
     have b5:(y.toNat:Int)=y:=dM (by omega);have a7:∀kd M,(eQ (.int kd y) cap M).run P W=.ok y.toNat W:=fun kd M=>run_sliceBound W kd y cap M (by omega) a1.2.2
     have b2:∀kd M,(eQ (.int kd x) y.toNat M).run P W=.ok x.toNat W:=fun kd M=>run_sliceBound W kd x y.toNat M a1.1 (by omega)
     rcases a5 with⟨kd,rfl⟩|⟨rfl,rfl⟩<;>rcases a3 with⟨kd',rfl⟩|⟨rfl,rfl,_⟩
     ·simp only[cG,aR,cg,bw,a7,b2]
     ·simp only[cG,aR,cg,bw]
      have:=b2 kd .sliceB;simp only[Int.toNat_natCast]at this;simp[this]
     ·simp only[cG,aR,cg,bw,a7];rfl
     ·simp only[cG,aR,cg,bw];simp
    simp only[iM,aR,run_underlying a8,bw,Instr.slice,key,sizeOf,typeInfo,run_program,hq,cg];simp only[bL,pN,V];rw[a6,a4,a2];congr 1
    by_cases hcx:cap=x.toNat
    ·simp[hcx]
    ·have:¬x.toNat=cap:=fun h=>hcx h.symm
     simp[hcx,this]
  ·cases O
 ·cases O
theorem kO.rz {E:aC}{b o len cap sz o' l' c':Nat}{lo hi:Option aa}{x y:Int}(h:(asSlice P nt k e,(P.info? E).map (·.size))=(some (some (.slice E),.slice (some ⟨b,o,none⟩) len cap,lo,hi,none),some sz))
  (a5:(∃kd,lo=some (.int kd x))∨(lo=none∧x=0))(a3:(∃kd,hi=some (.int kd y))∨(hi=none∧y=len∧len≤cap))(a1:0≤x∧x≤y∧y≤cap)
  (a6:o'=if x.toNat=cap then o else o+x.toNat*sz)(a4:l'=y.toNat-x.toNat)(a2:c'=cap-x.toNat)(hn:kO P f nt (kZ k) (kX e (kW nt k e) (.slice (some ⟨b,o',none⟩) l' c')) L S w0 R):kO P f nt k e L S w0 R:=(OpV.rz h a5 a3 a1 a6 a4 a2).E hn
end
section
variable {P:Program}{f nt:Nat}{k:List Item}{e:Env}{L:aX}{S:List Nat}{w0:World}{R:Goal P}
def kU (l:List UInt8):List aa:=l.map fun b=>ef .u8 (b.toNat:Int)
def tU (P:aB)(nt:Nat)(k:List bA)(e:Env):Option (Option cN×Option cN×aa):=
 match cur nt k e with
 |some o=>match o.op with
  | .convert s d x=>some (P.underlying s,P.underlying d,kV e x)
  |_=>none
 |none=>none
theorem Cv {a b:Option cN}{v:aa}(h:tU P nt k e=some (a,b,v)):∃o s d x,cur nt k e=some o∧o.op=.convert s d x∧P.underlying s=a∧P.underlying d=b∧kV e x=v:=by
 unfold tU at h;split at h
 ·next o hc=>
  split at h
  ·next s d x ho=>simp only[al,af]at h;obtain⟨M,O,V⟩:=h;exact⟨o,s,d,x,hc,ho,M,O,V⟩
  ·cases h
 ·cases h
theorem foldl_push (l:List UInt8):∀(r:ByteArray),(l.map fun b=>(b.toNat:Int)).foldl (fun r n=>r.push (bg n.toNat)) r=⟨(r.data.toList++l).toArray⟩:=by
 induction l with
 |nil=>intro r;simp
 |cons b l ih=>
  intro r;simp only[dk,List.foldl_cons];rw[ih];congr 1;have:bg (Int.toNat (b.toNat:Int))=b:=by simp
  rw[this];simp
theorem kO.toString (j:Nat){E:aC}{o len cap:Nat}{c:List aa}{l:List UInt8}
  (h:(tU P nt k e,P.underlying E,mc L j,lO L j)=(some (some (.slice E),some .string,.slice (some ⟨k7 L j,o,none⟩) len cap),some (.int .u8),true,c))
  (O:(c.drop o).take len=kU l∧l.length=len)
  (hn:kO P f nt (kZ k) (kX e (kW nt k e) (.string ⟨l.toArray⟩)) L S w0 R):kO P f nt k e L S w0 R:=by
 simp only[af]at h;obtain⟨V,a1,a2,a3⟩:=h;obtain⟨op,b1,a9,x,hc,a6,a7,a4,a8⟩:=Cv V;refine kO.ow hc (fun W hm=>?_) hn;have M:=hm.pf a2;rw[a3]at M;simp only[execOp,a6,a8];refine run_lift ?_;simp only[convert,aR,run_underlying a7,run_underlying a4,bw,run_underlying a1];have a5:(loadCells ⟨k7 L j,o,none⟩ len).run P W=.ok ((l.map fun b=>(b.toNat:Int)).map (ef .u8)).toArray W:=by
  have:=run_loadCells_list (P:=P) (w:=W) ⟨k7 L j,o,none⟩ (kU l) (fun i u hi=>?_)
  ·have e1:(kU l).length=len:=by simp[kU,O.2]
   rw[e1]at this;rw[this];simp[kU,Function.comp_def]
  ·rw[pN,cell_of_heap M]
   rw[←O.1,dA]at hi;split at hi
   ·rw[cd]at hi;exact hi
   ·cases hi
 rw[run_bytesToString W _ _ _ _ a5,foldl_push];rfl
def EC (P:aB)(nt:Nat)(k:List bA)(e:Env):Option (Option cN×aa×aa):=
 match cur nt k e with
 |some o=>match o.op with
  | .makeSlice T l c=>some (P.underlying T,kV e l,kV e c)
  |_=>none
 |none=>none
def nj (P:aB)(E:aC):Option (Option aa×Nat×Nat):=(P.info? E).map fun i=>(i.zero,i.size,i.bytes)
theorem Qt (z:aa)(n:Nat):madeCells #[z] n=⟨aA n z⟩:=by
 apply bR.1;simp[madeCells];apply eX;intro i;simp only[bP,fE]
 by_cases h:i<n
 ·simp[h,Nat.mod_one]
 ·simp[h]
theorem kO.make {E:aC}{kl kc:bW}{n m:Int}{z:aa}{bytes:Nat}
  (h:(EC P nt k e,nj P E,z.cells)=(some (some (.slice E),.int kl n,.int kc m),some (some z,1,bytes),#[z]))
  (V:0≤n∧n≤m∧(bytes:Int)*m≤281474976710656∧m≤9223372036854775807)
  (hn:∀B,kO P f nt (kZ k) (kX e (kW nt k e) (.slice (some ⟨B,0,none⟩) n.toNat m.toNat)) (L++[(B,.cells ⟨aA m.toNat z⟩ E)]) S w0 R):kO P f nt k e L S w0 R:=by
 simp only[af]at h;obtain⟨M,O,a1⟩:=h;unfold EC at M;split at M
 ·next o hc=>
  split at M
  ·next T l c ho=>
   simp only[al,af]at M;obtain⟨a2,a6,a4⟩:=M;unfold nj at O;cases hq:P.info? E with
   |none=>rw[hq]at O;cases O
   |some i=>
    rw[hq]at O;simp only[bL,al,af]at O;obtain⟨a8,a7,a3⟩:=O;refine kO.op hc fun W hm=>⟨.slice (some ⟨W.heap.size,0,none⟩) n.toNat m.toNat,_,?_,fun t a5=>hn W.heap.size t _ (by simpa only[kW,hc]using a5) (hm.alloc (.cells ⟨aA m.toNat z⟩ E))⟩
    simp only[execOp,ho,a6,a4];refine run_lift ?_;rw[run_make W T E i z a2 hq a8 kl kc n m V.1 V.2.1 (by rw[a3];exact V.2.2.1) V.2.2.2];rw[a1,a7,Nat.mul_one,Qt];rfl
  ·cases M
 ·cases M
def oa (nt:Nat)(k:List bA)(e:Env):Option (Builtin×List aa×List aC):=
 match cur nt k e with
 | some o=>match o.op with
  | .call c=>match c.callee with
   | .builtin b=>some (b,c.args.toList.map (kV e),c.argTypes.toList)
   |_=>none
  |_=>none
 |none=>none
theorem rJ {b:Builtin}{M:List aa}{O:List aC}(h:oa nt k e=some (b,M,O)):
  ∃o c,cur nt k e=some o∧o.op=.call c∧c.callee=.builtin b∧c.args.map (kV e)=⟨M⟩∧c.argTypes=⟨O⟩:=by
 unfold oa at h;split at h
 ·next o hc=>
  split at h
  ·next c ho=>
   split at h
   ·next b' hb=>
    simp only[al,af]at h;obtain⟨rfl,V,a1⟩:=h;refine⟨o,c,hc,ho,hb,?_,?_⟩
    ·apply bR.1;simpa using V
    ·apply bR.1;simpa using a1
   ·cases h
  ·cases h
 ·cases h
theorem Gf {o:cW}{c:Call}{b:Builtin}{M:List aa}{O:List aC}(a2:o.op=.call c)(a1:c.callee=.builtin b)(V:c.args.map (kV e)=⟨M⟩)(a3:c.argTypes=⟨O⟩)
  (h:b≠ .print∧b≠ .println)(W:aj):(execOp (kV e) o).run P W=(km b ⟨O⟩ o.type #[] ⟨M⟩).run P W:=by
 simp only[execOp,a2,resolve,a1,V,a3,aR,cg,bw,invoke];cases b<;>simp_all [km]
theorem Mem.drop {W:aj}(hm:Mem L S w0 W)(j:Nat):Mem (L.eraseIdx j) S w0 W:=
 ⟨(List.Sublist.map _ (List.eraseIdx_sublist L j)).nodup hm.nodup,fun p hp=>hm.here p (iz hp),fun p hp=>hm.own p (iz hp),hm.kept⟩
theorem Mem.perm {L':aX}{W:aj}(hm:Mem L S w0 W)(hp:L'.Perm L):Mem L' S w0 W:=
 ⟨(hp.map _).nodup_iff.2 hm.nodup,fun p h=>hm.here p (hp.mem_iff.1 h),fun p h=>hm.own p (hp.mem_iff.1 h),hm.kept⟩
theorem Mem.drew {W:aj}(hm:Mem L S w0 W):Mem L S w0 W.drew:=
 ⟨hm.nodup,hm.here,hm.own,⟨hm.kept.os,hm.kept.tape,hm.kept.output,hm.kept.size,hm.kept.block⟩⟩
def Src (L:aX)(S:List Nat)(w0:aj)(a:hO)(news:List aa):Prop:=∀W,Mem L S w0 W→∀j u,news[j]?=some u→W.cell? (a.add j)=some u
theorem Src.own {j o n:Nat}{c:List aa}(h:(mc L j,lO L j)=(true,c)):Src L S w0 ⟨k7 L j,o,none⟩ ((c.drop o).take n):=by
 simp only[af]at h;obtain⟨O,V⟩:=h;intro W hm i u hi;have M:=hm.pf O;rw[V]at M;rw[pN,cell_of_heap M];rw[dA]at hi;split at hi
 ·rw[cd]at hi;exact hi
 ·cases hi
theorem Src.nil (a:hO):Src L S w0 a []:=fun _ _ j u h=>by simp at h
theorem vk (z:Array aa)(n:Nat):(aM z n).toList.length=n*z.size:=by simp[aM]
theorem SZ (T E:aC)(z:aa)(sz bytes:Nat)(a2:P.underlying T=some (.slice E))(M:nj P E=some (some z,sz,bytes))(a9:z.cells.size=sz)
  (a:hO)(m c:Nat)(news:List aa)(V:news.length=m*sz)(a6:Src L S w0 a news)(a1:0<m)(b1:m≤9223372036854775807)(b3:m*bytes≤140737488355328)(ty:aC)(W:aj)(hm:Mem L S w0 W):
  ∃B cap r O,(jN #[T,T] ty #[.slice none 0 0,.slice (some a) m c]).run P W=.ok (.slice (some ⟨B,0,none⟩) m cap) O∧m≤cap∧(news++r).length=cap*sz∧
   Mem (L++[(B,.cells ⟨news++r⟩ E)]) S w0 O:=by
 unfold nj at M;cases hq:P.info? E with
 |none=>rw[hq]at M;cases M
 | some i=>
  rw[hq]at M;simp only[bL,al,af]at M;obtain⟨a8,a7,a3⟩:=M;have a5:=run_append_nil (P:=P) W T ty E i z a2 hq a8 a m c news (by rw[a7];exact V) (a6 W hm) a1 (by omega) (by rw[a3];omega);refine⟨W.heap.size,grownCap W m 0 E,(aM z.cells (grownCap W m 0 E-m)).toList,_,a5,grownCap_ge W m 0 E,?_,?_⟩
  ·rw[ae,vk,V,a9,←cU]
   congr 1;have:=grownCap_ge W m 0 E;omega
  ·have:=hm.drew.alloc (.cells ⟨news++(aM z.cells (grownCap W m 0 E-m)).toList⟩ E)
   have a4:(news.toArray++aM z.cells (grownCap W m 0 E-m))=⟨news++(aM z.cells (grownCap W m 0 E-m)).toList⟩:=by
    apply bR.1;simp
   rw[a4];exact this
theorem SA (j:Nat)(T E:aC)(z:aa)(sz bytes:Nat)(b3:P.underlying T=some (.slice E))(M:nj P E=some (some z,sz,bytes))(c8:z.cells.size=sz)
  (n cap:Nat)(cs:List aa)(a8:mc L j=true)(hcs:lO L j=cs)(a5:rv L j=E)(a6:nD L j=(0,0))(hn:n≤cap)(a9:cs.length=cap*sz)
  (a:hO)(m c:Nat)(news:List aa)(V:news.length=m*sz)(b5:Src L S w0 a news)(b6:∀u∈news,u.oneCell'=true)(c9:n+m≤9223372036854775807)(b9:(n+m)*bytes≤140737488355328)
  (ty:aC)(W:aj)(hm:Mem L S w0 W):
  ∃B a3 r b1,(jN #[T,T] ty #[.slice (some ⟨k7 L j,0,none⟩) n cap,.slice (some a) m c]).run P W=.ok (.slice (some ⟨B,0,none⟩) (n+m) a3) b1∧n+m≤a3∧
   (cs.take (n*sz)++news++r).length=a3*sz∧Mem (L.eraseIdx j++[(B,.cells ⟨cs.take (n*sz)++news++r⟩ E)]) S w0 b1:=by
 have a7:=hm.pf a8;rw[hcs,a5,a6]at a7;have c3:L[j]?=some (k7 L j,.cells ⟨cs⟩ E (0,0)):=by rw[AE a8,hcs,a5,a6]
 have c4:j<L.length:=(bU.1 c3).1;have c5:n*sz≤cs.length:=by rw[a9];exact bI _ hn
 unfold nj at M;cases hq:P.info? E with
 |none=>rw[hq]at M;cases M
 | some i=>
  rw[hq]at M;simp only[bL,al,af]at M;obtain⟨c7,O,c2⟩:=M
  by_cases hroom:n+m≤cap
  ·have a1:=run_append_room (P:=P) W T ty E i b3 hq (k7 L j) n cap ⟨cs⟩ a7 a m c news (by rw[O];exact V) (b5 W hm) b6 hroom (by
    rw[O,V];simp only[ec,a9];rw[←cU];exact bI _ hroom)
   rw[O]at a1;refine⟨k7 L j,cap,cs.drop (n*sz+news.length),_,a1,hroom,?_,?_⟩
   ·simp only[ae,ao,aZ,V,a9]
    have:(n+m)*sz≤cap*sz:=bI _ hroom;rw[cU]at this;have d0:min (n*sz) (cap*sz)=n*sz:=dj (by omega);omega
   ·have b7:=hm.setRow a8 (cs.take (n*sz)++news++cs.drop (n*sz+news.length))
    have a4:(cs.toArray.toList.take (n*sz)++news++cs.toArray.toList.drop (n*sz+news.length)).toArray=⟨cs.take (n*sz)++news++cs.drop (n*sz+news.length)⟩:=rfl;rw[a4];refine b7.perm ?_;unfold oP;rw[a5,a6]

    have key:∀(l:aX) (i:Nat) (x:Nat×Obj),i<l.length→(l.eraseIdx i++[x]).Perm (l.set i x):=by
     intro l;induction l with
     |nil=>intro i x h;simp at h
     | cons y l ih=>
      intro i x h;cases i with
      |zero=>
       simp only[iE,jO];exact(aw (l₁:=l) (l₂:=[x]))
      |succ i=>
       simp only[iF,jP,aY];exact(ih i x (by simpa using h)).cons y
    exact key L j _ c4
  ·have c6:∀q u,(cs.take (n*sz))[q]?=some u→W.cell? ((⟨k7 L j,0,none⟩:hO).add q)=some u:=by
    intro q u a2;rw[pN,cell_of_heap a7,az];rw[dA]at a2;split at a2
    ·exact a2
    ·cases a2
   have b4:(cs.take (n*sz)).length=n*i.size:=by rw[ao,O];exact dj c5
   have a1:=run_append_grow (P:=P) W T ty E i z b3 hq c7 ⟨k7 L j,0,none⟩ n cap (cs.take (n*sz)) b4 c6 a m c news (by rw[O];exact V) (b5 W hm) (by omega) (by omega) (growslice_fits (by omega) (by rw[c2];exact b9));refine⟨W.heap.size,grownCap W (n+m) cap E,(aM z.cells (grownCap W (n+m) cap E-(n+m))).toList,_,a1,grownCap_ge W (n+m) cap E,?_,?_⟩
   ·rw[ae,ae,vk,V,c8,b4,O,←cU,←cU]
    congr 1;have:=grownCap_ge W (n+m) cap E;omega
   ·have:=(hm.drop j).drew.alloc (.cells ⟨cs.take (n*sz)++news++(aM z.cells (grownCap W (n+m) cap E-(n+m))).toList⟩ E)
    have a4:((cs.take (n*sz)).toArray++news.toArray++aM z.cells (grownCap W (n+m) cap E-(n+m)))=⟨cs.take (n*sz)++news++(aM z.cells (grownCap W (n+m) cap E-(n+m))).toList⟩:=by
     apply bR.1;simp
    rw[a4];exact this
theorem kO.tM {o:cW}{c:Call}{b:Builtin}{O:List aa}{V:List aC}(hc:cur nt k e=some o)(a6:o.op=.call c)(a4:c.callee=.builtin b)(a3:c.args.map (kV e)=⟨O⟩)(a7:c.argTypes=⟨V⟩)(hp:b≠ .print∧b≠ .println)
  (h:∀W,Mem L S w0 W→∃v M,(km b ⟨V⟩ o.type #[] ⟨O⟩).run P W=.ok (.value v) M∧∀t,mF nt (kX e (kW nt k e) v) t→At P f (kZ k) t M R):kO P f nt k e L S w0 R:=by
 refine kO.op hc fun W hm=>?_
 obtain⟨v,M,a1,a2⟩:=h W hm;refine⟨v,M,?_,fun t a5=>a2 t (by simpa only[kW,hc]using a5)⟩;rw[Gf a6 a4 a3 a7 hp W];exact a1
theorem kO.MO {T E:aC}{z:aa}{sz bytes:Nat}{a:hO}{m c:Nat}(news:List aa)
  (h:(oa nt k e,P.underlying T,nj P E,z.cells.size)=(some (.append,[.slice none 0 0,.slice (some a) m c],[T,T]),some (.slice E),some (some z,sz,bytes),sz))
  (b6:Src L S w0 a news)(a9:news.length=m*sz)(V:0<m)(O:m≤9223372036854775807∧m*bytes≤140737488355328)
  (hn:∀B cap r,m≤cap→(news++r).length=cap*sz→kO P f nt (kZ k) (kX e (kW nt k e) (.slice (some ⟨B,0,none⟩) m cap)) (L++[(B,.cells ⟨news++r⟩ E)]) S w0 R):kO P f nt k e L S w0 R:=by
 simp only[af]at h;obtain⟨a1,a2,a3,a4⟩:=h;obtain⟨o,cl,hc,b4,a7,a5,b7⟩:=rJ a1;refine kO.tM hc b4 a7 a5 b7 (by simp) fun W hm=>?_
 obtain⟨B,cap,r,M,b5,a6,b1,b3⟩:=SZ T E z sz bytes a2 a3 a4 a m c news a9 b6 V O.1 O.2 o.type W hm;exact⟨_,M,run_lift b5,fun t a8=>hn B cap r a6 b1 t M a8 b3⟩
theorem kO.Ge (j:Nat){T E:aC}{z:aa}{sz bytes n cap:Nat}{a:hO}{m c:Nat}{cs:List aa}(news:List aa)
  (h:(oa nt k e,P.underlying T,nj P E,z.cells.size,mc L j,lO L j,rv L j,nD L j)=
   (some (.append,[.slice (some ⟨k7 L j,0,none⟩) n cap,.slice (some a) m c],[T,T]),some (.slice E),some (some z,sz,bytes),sz,true,cs,E,(0,0)))
  (c5:Src L S w0 a news)(b7:news.length=m*sz)(a2:∀u∈news,u.oneCell'=true)(a1:n≤cap∧cs.length=cap*sz)(V:n+m≤9223372036854775807∧(n+m)*bytes≤140737488355328)
  (hn:∀B M r,n+m≤M→(cs.take (n*sz)++news++r).length=M*sz→kO P f nt (kZ k) (kX e (kW nt k e) (.slice (some ⟨B,0,none⟩) (n+m) M)) (L.eraseIdx j++[(B,.cells ⟨cs.take (n*sz)++news++r⟩ E)]) S w0 R):
  kO P f nt k e L S w0 R:=by
 simp only[af]at h;obtain⟨a3,a4,a5,a6,a7,a8,a9,b1⟩:=h;obtain⟨o,cl,hc,c3,b5,b3,c6⟩:=rJ a3;refine kO.tM hc c3 b5 b3 c6 (by simp) fun W hm=>?_
 obtain⟨B,M,r,O,c4,b4,b9,c2⟩:=SA j T E z sz bytes a4 a5 a6 n cap cs a7 a8 a9 b1 a1.1 a1.2 a m c news b7 c5 a2 V.1 V.2 o.type W hm;exact⟨_,O,run_lift c4,fun t b6=>hn B M r b4 b9 t O b6 c2⟩
def over (c:List aa)(o:Nat)(cs:List aa):List aa:=c.take o++cs++c.drop (o+cs.length)
theorem wm {c:List aa}{o:Nat}{cs:List aa}(h:o+cs.length≤c.length):(over c o cs).length=c.length:=by simp[over];omega
theorem zd (l:List UInt8):∀u∈kU l,u.oneCell'=true:=by
 intro u M;obtain⟨b,_,rfl⟩:=bV.1 M;rfl
theorem kO.yU (j:Nat){T E U:aC}{o dl dc:Nat}{s:ByteArray}{c:List aa}
  (h:(oa nt k e,P.underlying T,(P.info? E).map (·.size),P.underlying E,mc L j,lO L j,nD L j)=
   (some (.copy,[.slice (some ⟨k7 L j,o,none⟩) dl dc,.string s],[T,U]),some (.slice E),some 1,some (.int .u8),true,c,(0,0)))
  (b5:o+dl≤c.length)
  (hn:kO P f nt (kZ k) (kX e (kW nt k e) (.int .i64 ((min s.size dl:Nat):Int))) (oP L j (over c o (kU (s.data.toList.take dl)))) S w0 R):kO P f nt k e L S w0 R:=by
 simp only[af]at h;obtain⟨a1,a2,M,b4,O,a3,a4⟩:=h;obtain⟨op,cl,hc,a9,a6,a5,b3⟩:=rJ a1;refine kO.tM hc a9 a6 a5 b3 (by simp) fun W hm=>?_
 have V:=hm.pf O;rw[a3,a4]at V;refine⟨_,W.setRow (k7 L j) ⟨over c o (kU (s.data.toList.take dl))⟩,run_lift (v:=.int .i64 ((min s.size dl:Nat):Int)) ?_,fun t a7=>hn t _ a7 (hm.setRow O _)⟩;have b7:s.data.toList.length=s.size:=by simp
 have b6:(kU (s.data.toList.take dl)).length≤dl:=by simp only[kU,du,ao];omega
 have b1:=run_storeCells_at P (k7 L j) o (rv L j) (kU (s.data.toList.take dl)) 0 ⟨c⟩ W V (by simp only[fC,ec];omega) (zd _);cases hq:P.info? E with
 |none=>rw[hq]at M;cases M
 | some i=>
  rw[hq]at M;simp at M;have qp:List.take (min s.size dl) (List.map (fun b=>ef .u8 (b.toNat:Int)) s.data.toList)=kU (s.data.toList.take dl):=by
   simp only[kU,List.map_take];rcases Nat.le_total s.size dl with hle|hle
   ·rw[dj hle,aK (by simp),aK (by simp;omega)]
   ·rw[Nat.min_eq_right hle]
  have a8:∀x y:Nat,Nat.min x y=min x y:=fun _ _=>rfl
  show(ke #[T,U] op.type #[.slice (some ⟨k7 L j,o,none⟩) dl dc,.string s]).run P W=_;simp[ke,run_underlying a2,Builtin.lenOf,sizeOf,typeInfo,hq,eg,a8];rw[qp,b1];simp[over,goInt,cA]
theorem kO.JC (j:Nat){T E:aC}{o dl dc n m:Nat}{a:hO}{c:List aa}(cs:List aa)
  (h:(oa nt k e,P.underlying T,(P.info? E).map (·.size),mc L j,lO L j,nD L j)=
   (some (.copy,[.slice (some ⟨k7 L j,o,none⟩) dl dc,.slice (some a) n m],[T,T]),some (.slice E),some 1,true,c,(0,0)))
  (b4:Src L S w0 a cs)(b1:cs.length=min n dl)(V:∀u∈cs,u.oneCell'=true)(a8:o+cs.length≤c.length)
  (hn:kO P f nt (kZ k) (kX e (kW nt k e) (.int .i64 (cs.length:Int))) (oP L j (over c o cs)) S w0 R):kO P f nt k e L S w0 R:=by
 simp only[af]at h;obtain⟨a1,a2,a3,M,a4,a5⟩:=h;obtain⟨op,cl,hc,b3,a7,a6,b5⟩:=rJ a1;refine kO.tM hc b3 a7 a6 b5 (by simp) fun W hm=>?_
 have O:=hm.pf M;rw[a4,a5]at O;refine⟨_,W.setRow (k7 L j) ⟨over c o cs⟩,run_lift (v:=.int .i64 (cs.length:Int)) ?_,fun t a9=>hn t _ a9 (hm.setRow M _)⟩;have:=run_copy_row (P:=P) W T T op.type E (k7 L j) o dl dc a n m ⟨c⟩ (rv L j) cs a2 a3 O (by rw[b1]) (b4 W hm) (by simpa using a8) V;rw[this];simp[goInt,over]
end
section
section
variable {P:Program}{f:FuncId}{ops:Array Oper}{R:Goal P}{C:World→Prop}
def yv (P:aB)(md:fx)(ops:Array cW)(C:aj→Prop)(n:Nat)(L:Array Bool→Act→Prop):Nat→Array Bool→Act→Prop
 |0,listed,a=>L listed a
 |f+1,listed,a=>
  bE md ops listed≠[]∧∀i∈bE md ops listed,i<n∧qOp P ops C i (yv P md ops C n L f (listed.setIfInBounds i true)) a
theorem QR {md:fx}{n i:Nat}{a3:cW}{v:aa}{L:Array Bool→Act→Prop}(hi:ops[i]?=some a3)(b5:∀(j:Nat) (o:cW) cs b,ops[j]?=some o→o.op≠ .select cs b)
  (b4:n<ops.size→gx md ops n=true∧gi md ops n=true)(c7:i<n)
  (c3:∀listed a,L listed a→∀j∈bE md ops listed,n≤j):
  ∀(f:Nat) (listed:Array Bool) (a:Act),jh md ops n listed→
   (∀j a1,ops[j]?=some a1→j≠i→listed.getD j true=false→(∀e∈a1.after,ed md e=true→e.on≠i)→a3.apart ops a1=true)→
   i∈bE md ops listed→YieldsIn P ops C a3 v a→
   yv P md ops C n L f (listed.setIfInBounds i true) (a.put a3.dst v)→yv P md ops C n L (f+1) listed a:=by
 have b3:∀listed,jh md ops n listed→listed.getD i true=false→∀j∈bE md ops listed,j<n:=by
  intro listed a2 O j M;rcases cy j n with h|h
  ·exact h
  ·obtain⟨_,a1,a4,_⟩:=mem_ready.1 M
   have d2:j<ops.size:=(bK.1 a4).1;have hn:n<ops.size:=by omega
   exact absurd M (tail_waits (b4 hn).1 (b4 hn).2 hn a2 _ i rfl c7 O j h)
 intro f;induction f with
 | zero=>
  intro listed a a2 _ V a7 H;have O:=(mem_ready.1 V).1;refine⟨fun h=>(by rw[h]at V;cases V),fun j M=>?_⟩;have a6:=b3 listed a2 O j M;refine⟨a6,?_⟩
  by_cases hji:j=i
  ·subst hji;exact a7.qOp hi H
  ·have:=c3 _ _ H j (ready_mono M hji)
   omega
 | succ f ih=>
  intro listed a a2 a9 V a7 H;have O:=(mem_ready.1 V).1;refine⟨fun h=>(by rw[h]at V;cases V),fun j M=>?_⟩;have a6:=b3 listed a2 O j M;refine⟨a6,?_⟩
  by_cases hji:j=i
  ·subst hji;exact a7.qOp hi H
  ·have a5:=(H.2 j (ready_mono M hji)).2
   obtain⟨b1,a1,a4,b9⟩:=mem_ready.1 M;have d1:∀e∈a1.after,ed md e=true→e.on≠i:=fun e c4 c2 c5=>by
    have a5:=b9 e c4 c2;rw[c5,getD_both O]at a5;cases a5
   have b7:=qOp_put a4 (a9 j a1 a4 hji b1 d1) (fun cs b=>b5 i a3 cs b hi) (fun cs b=>b5 j a1 cs b a4) a7 a5;have c6:∀k ok,ops[k]?=some ok→k≠i→(listed.setIfInBounds j true).getD k true=false→
     (∀e∈ok.after,ed md e=true→e.on≠i)→a3.apart ops ok=true:=fun k ok c8 c9 O d0=>by
    refine a9 k ok c8 c9 ?_ d0
    by_cases hjk:j=k
    ·subst hjk;exact b1
    ·rw[getD_set_ne true hjk]at O;exact O
   refine qOp_mono (fun b6 a8=>ih (listed.setIfInBounds j true) b6 (a2.set M a6) c6 (ready_mono V (Ne.symm hji)) a8.1 ?_) b7;rw[Array.setIfInBounds_comm _ _ hji];exact a8.2
theorem N9 {md:fx}{n g:Nat}{Lq:Act→Prop}(a3:jU ops=true)(a2:n<ops.size→gx md ops n=true∧gi md ops n=true):
  ∀(l:List cW) (k:Nat) (listed:Array Bool) (a:Act),(∀j,j<l.length→l[j]?=ops[k+j]?)→k+l.length=n→jh md ops n listed→
  fQ md ops g l.length k listed=true→wpQuiet P ops C Lq l a→
  yv P md ops C n (fun a4 O=>fS md ops g n a4=true∧Lq O) l.length listed a
 |[],k,listed,a,_,hk,_,hB,h=>by
  have:k=n:=by simpa using hk
  subst this;exact⟨by simpa[fQ]using hB,h⟩
 | o::l,k,listed,a,hl,hk,inv,hB,h=>by
  have M:ops[k]?=some o:=by simpa using(hl 0 (by simp)).symm
  simp only[aI,fQ,av]at hB;obtain⟨⟨a9,a8⟩,a5⟩:=hB;have V:k<n:=by simp only[aI]at hk;omega
  have a1:k∈bE md ops listed:=by simpa using a9
  have b1:qOp P ops C k (wpQuiet P ops C Lq l) a:=by unfold qOp;simp only[M];exact h
  obtain⟨v,b3,a6⟩:=yieldsIn_of_qOp M b1;exact QR M (Region.noSelect_spec a3) a2 V (fun a4 O a7=>seqB_ready a7.1) l.length listed a inv (Region.free_spec M a8) a1 b3
   (N9 a3 a2 l (k+1) _ _ (fun j b4=>by have:=hl (j+1) (by simp;omega);simpa[Nat.add_assoc,Nat.add_comm 1 j]using this) (by simp only[aI]at hk;omega) (inv.set a1 V) a5 a6)
theorem put_defers {a:Act}{d:Option Tmp}{v:aa}(h:a.defers=[]):(a.put d v).defers=[]:=by cases d<;>exact h
theorem At.QB {i:Nat}{rest:List Nat}{k:List bA}{a:Act}{K:Act→Prop}(a3:a.defers=[])(O:qOp P ops C i K a){w:aj}(a1:C w)
  (V:∀a2 w',a2.defers=[]→C w'→K a2→At P f (.inRegion ops rest::k) a2.tmps w' R):At P f (.inRegion ops (i::rest)::k) a.tmps w R:=by
 obtain⟨t,ds⟩:=a;simp only at a3;subst a3;unfold qOp at O;split at O
 ·next ho=>
  refine At.step (fun b cs _=>?_) (V _ w rfl a1 O);have a5:=Fj (P:=P) (b:=b) (a:=⟨t,R.ds⟩) (k:=k) (cs:=cs) (w:=w) (ops:=ops) (i:=i) (rest:=rest) (by simp[ho]);simpa only[ho,jM,gq]using a5
 ·next o ho=>
  split at O
  ·next hwt=>
   obtain⟨v,a6,hn⟩:=O;have M:=a6 w a1;unfold Oper.quietAt at M;cases hr:(execOp (bB t []).eval o).run P w with
   |halt x w'=>rw[hr]at M;exact M.elim
   | ok nx w'=>
    rw[hr]at M;cases nx<;>simp only[Oper.quietUpon]at M
    case value u=>
     obtain⟨rfl,rfl⟩:=M;exact At.value ho hwt hr (V _ _ (put_defers rfl) a1 hn)
    case skip=>
     obtain⟨rfl,rfl⟩:=M;exact At.BP ho hwt hr (V _ _ (put_defers rfl) a1 hn)
    case enter g args=>
     obtain⟨rfl,hc⟩:=M;refine At.enter ho hwt hr (hc.mono fun e a7 a4=>?_);exact⟨v,a4.1,V _ _ (put_defers rfl) a4.2 hn⟩
  ·next hwt=>exact At.BK ho (by simpa using hwt) (V _ _ (put_defers rfl) a1 O)
theorem Bq (md:fx)(M t:Nat)(listed:Array Bool):bN md ops (M+1) t listed []=
  match(bE md ops listed)[t%(bE md ops listed).length]? with
  |some i=>i::bN md ops M (t/(bE md ops listed).length) (listed.setIfInBounds i true) []
  |none=>[]:=by
 show(match(bE md ops listed)[t%(bE md ops listed).length]? with
   |some i=>bN md ops M (t/(bE md ops listed).length) (listed.setIfInBounds i true) [i]
   |none=>[].reverse)=_
 split
 ·rw[linearise_go_acc];rfl
 ·rfl
theorem Dl {md:fx}:∀(g n t:Nat) (listed:Array Bool),fS md ops g n listed=true→bN md ops g t listed []=dU n g
 |0,_,_,_,_=>by simp[bN]
 |g+1,n,t,listed,h=>by
  simp only[fS,av,decide_eq_true_eq]at h;rw[Bq,h.1];simp only[List.length_singleton,Nat.mod_one,List.getElem?_cons_zero,Nat.div_one];rw[Dl g (n+1) t _ h.2];rfl
theorem At.Mt {md:fx}{n g:Nat}{Lq:Act→Prop}{k:List bA}
  (O:∀a w,a.defers=[]→C w→Lq a→At P f (.inRegion ops (dU n g)::k) a.tmps w R):
  ∀(m:Nat) (listed:Array Bool) (a:Act) (w:aj) (t:Nat),a.defers=[]→C w→
   yv P md ops C n (fun a5 M=>fS md ops g n a5=true∧Lq M) m listed a→
   At P f (.inRegion ops (bN md ops (m+g) t listed [])::k) a.tmps w R
 |0,listed,a,w,t,ha,hw,h=>by
  rw[az,Dl g n t listed h.1];exact O a w ha hw h.2
 | m+1,listed,a,w,t,ha,hw,h=>by
  rw[show m+1+g=(m+g)+1 by omega,Bq];have a3:0<(bE md ops listed).length:=by
   cases hr:bE md ops listed with
   |nil=>exact absurd hr h.1
   |cons x xs=>simp
  have V:t%(bE md ops listed).length<(bE md ops listed).length:=eC _ a3;rw[ar V];have hi:=h.2 _ (bH V);exact At.QB ha hi.2 hw (fun M w' a2 a4 a1=>At.Mt O m _ M w' _ a2 a4 a1)
def xA (ops:Array cW)(n:Nat):Bool:=
 jU ops&&cC n ops.size&&(cB n ops.size||(gx .any ops n&&gi .any ops n))&&fQ .any ops (ops.size-n) n 0 (cL ops.size false)
theorem At.draw {id:Nat}{k:List bA}{t:Array aa}{w:aj}(n:Nat)(hm:P.follows .mixedOrders=true)(a1:xA ops n=true)(a3:C {w with drawn:=w.drawn+1})
  (h:wpQuiet P ops C (fun a=>a.defers=[]→∀w',C w'→At P f (.inRegion ops (dU n (ops.size-n))::k) a.tmps w' R) (ops.toList.take n) ⟨t,[]⟩):
  At P f (.code (.region id ops true)::k) t w R:=by
 simp only[xA,av,iy]at a1;obtain⟨⟨⟨b1,hn⟩,M⟩,a7⟩:=a1;have hn:=bl hn;have a8:n<ops.size→gx .any ops n=true∧gi .any ops n=true:=fun b6=>by
  rcases M with M|M
  ·have:=aP M;omega
  ·exact M
 have V:(ops.toList.take n).length=n:=by simp;omega
 have b5:jh .any ops n (cL ops.size false):=
  ⟨by simp,fun j b7 _ O=>(by rw[getD_replicate_false]at O;cases O),fun t _ b3=>getD_in (by simpa using b3) (getD_replicate_false _ _)⟩
 have H:=N9 (md:=.any) (g:=ops.size-n) b1 a8 (ops.toList.take n) 0 _ _ (fun j a2=>by
  have a6:j<n:=by rw[V]at a2;exact a2
  simp[a6]) (by simpa using V) b5 (by rw[V];exact a7) h
 have a9:∀τ,cX (P.follows .mixedOrders) ops τ=bN .any ops ops.size τ (cL ops.size false) []:=fun τ=>by
  simp only[cX,hm,iO,if_true];rfl
 refine At.step (k':=.inRegion ops (cX (P.follows .mixedOrders) ops (w.tape w.drawn (.order f id)))::k) (t':=t) (w':={w with drawn:=w.drawn+1})
  (fun b cs a5=>by have:=Ds (P:=P) (b:=b) (a:=⟨t,R.ds⟩) (k:=k) (cs:=cs) (w:=w) (id:=id) (ops:=ops);rw[a5]at this;exact this) ?_
 rw[a9];rw[V]at H;have key:=At.Mt (P:=P) (f:=f) (R:=R) (C:=C) (ops:=ops) (md:=.any) (n:=n) (g:=ops.size-n) (k:=k)
  (Lq:=fun a=>a.defers=[]→∀w',C w'→At P f (.inRegion ops (dU n (ops.size-n))::k) a.tmps w' R)
  (fun a w a4 b4 O=>O a4 w b4) n (cL ops.size false) ⟨t,[]⟩ {w with drawn:=w.drawn+1} (w.tape w.drawn (.order f id)) rfl a3 H
 rw[show n+(ops.size-n)=ops.size by omega]at key;exact key
end
variable {P:Program}{f nt:Nat}{k:List Item}{e:Env}{L:aX}{S:List Nat}{w0:World}{R:Goal P}{ops:Array Oper}{n:Nat}{kk:List Item}
def k5 (P:aB)(f nt:Nat)(ops:Array cW)(n:Nat)(kk:List bA)(k:List bA)(e:Env)(L:aX)(S:List Nat)(w0:aj)(R:Goal P):Prop:=
 ∀i,k=[.inRegion ops (dU i (n-i))]→i≤n→∀t,mF nt e t→
  wpQuiet P ops (Mem L S w0) (fun a=>a.defers=[]→∀w',Mem L S w0 w'→At P f (.inRegion ops (dU n (ops.size-n))::kk) a.tmps w' R) ((ops.toList.take n).drop i) ⟨t,[]⟩
def qK (ops:Array cW)(n:Nat):List bA:=[.inRegion ops (dU 0 n)]
def wI (ops:Array cW)(n:Nat)(kk:List bA):List bA:=.inRegion ops (dU n (ops.size-n))::kk
def m7:List bA→Array cW
 | .code (.region _ ops _)::_=>ops
 |_=> #[]
def uK:List bA→List bA
 |_::k=>k
 |[]=>[]
def sm:List bA→Bool
 | .code (.region _ _ true)::_=>true
 |_=>false
theorem kO.draw (n:Nat)(O:(sm k,P.follows .mixedOrders,xA (m7 k) n)=(true,true,true))
  (h:k5 P f nt (m7 k) n (uK k) (qK (m7 k) n) e L S w0 R):kO P f nt k e L S w0 R:=by
 simp only[af]at O;obtain⟨M,V,a1⟩:=O;unfold sm at M;split at M
 ·next id ops k'=>
  intro t W a2 hm;have:=h 0 rfl (Nat.zero_le _) t a2;simp only[aU]at this;exact At.draw n V a1 ⟨hm.nodup,hm.here,hm.own,⟨hm.kept.os,hm.kept.tape,hm.kept.output,hm.kept.size,hm.kept.block⟩⟩ this
 ·cases M
theorem k5.done (h:k=[.inRegion ops []])(hn:kO P f nt (wI ops n kk) e L S w0 R):k5 P f nt ops n kk k e L S w0 R:=by
 intro i hi V t M;rw[h]at hi;simp only[bM,bQ,true_and,and_true]at hi;have O:=congrArg List.length hi;simp only[List.length_range',bt]at O;rw[iN (by simp;omega)];exact fun _ w' hm=>hn t w' M hm
theorem k5.push {i:Nat}{v:aa}(h:get? e i=some v)(hn:k5 P f nt ops n kk k ((i,v)::e) L S w0 R):k5 P f nt ops n kk k e L S w0 R:=by
 intro j M V t O;refine hn j M V t ⟨O.size,fun j u M=>?_⟩;simp only[get?]at M;cases hb:cB i j with
 |true=>
  have:i=j:=aP hb;subst this;rw[hb]at M;simp only[cond_true,al]at M;subst M;exact O.slot i v h
 |false=>rw[hb]at M;exact O.slot j u M
theorem Ky {i n j:Nat}{rest:List Nat}(h:i::rest=dU j (n-j)):j=i∧j<n∧rest=dU (j+1) (n-(j+1)):=by
 rcases bX (n-j)with h0|h0
 ·rw[h0]at h;cases h
 ·have M:n-j=(n-(j+1))+1:=by omega
  rw[M,List.range'_succ]at h;exact⟨(jQ h).1.symm,by omega,(jQ h).2⟩
theorem MH {i:Nat}{o:cW}(V:ops[i]?=some o)(hn:i<n):(ops.toList.take n).drop i=o::(ops.toList.take n).drop (i+1):=by
 have a1:i<ops.toList.length:=by have:=(bK.1 V).1;simpa using this
 have O:i<(ops.toList.take n).length:=by simp only[ao];omega
 rw[aG O];congr 1;have M:(ops.toList.take n)[i]?=some o:=by rw[dA,if_pos hn];simpa using V
 rw[ar O]at M;exact bY M
theorem k5.yS {o:cW}{v:aa}(hc:cur nt k e=some o)
  (a8:∀W,Mem L S w0 W→(execOp (kV e) o).run P W=.ok (.value v) W∨∃g args,(execOp (kV e) o).run P W=.ok (.enter g args) W∧aE P g args W fun en a1=>en=.returned v∧Mem L S w0 a1)
  (hn:k5 P f nt ops n kk (kZ k) (kX e (kW nt k e) v) L S w0 R):k5 P f nt ops n kk k e L S w0 R:=by
 intro j M b3 t O;obtain⟨V,i,rest,k',rfl,a7,b1,a5,hp,a3⟩:=pG hc;simp only[bM,bQ]at M;obtain⟨⟨rfl,M⟩,rfl⟩:=M;obtain⟨rfl,a4,a9⟩:=Ky M;rw[MH a7 a4];have a2:kW nt (.inRegion V (j::rest)::[]) e=o.dst:=by simp only[kW,hc]
 rw[a2]at hn;have a6:=hn (j+1) (by simp only[kZ,a9]) (by omega) _ (O.put a3 v []);show(if cH o (yielded V (bB t []).tmps)then _ else _);rw[if_pos (O.wanted b1)];refine⟨v,fun W hm=>?_,by rw[rS];exact a6⟩;unfold Oper.quietAt;rw[execOp_congr (bB t []).eval (kV e) o hp (O.kV a5 [])];rcases a8 W hm with h|⟨g,args,h,hcalls⟩
 ·rw[h];exact⟨rfl,rfl⟩
 ·rw[h];exact⟨rfl,hcalls⟩
theorem k5.ow {o:cW}{v:aa}(hc:cur nt k e=some o)(M:∀W,Mem L S w0 W→(execOp (kV e) o).run P W=.ok (.value v) W)
  (hn:k5 P f nt ops n kk (kZ k) (kX e (kW nt k e) v) L S w0 R):k5 P f nt ops n kk k e L S w0 R:=
 k5.yS hc (fun W hm=>.inl (M W hm)) hn
theorem OpV.Q {v:aa}(h:OpV P nt k e L S w0 v)(hn:k5 P f nt ops n kk (kZ k) (kX e (kW nt k e) v) L S w0 R):k5 P f nt ops n kk k e L S w0 R:=let ⟨_,h1,h2⟩:=h;k5.ow h1 h2 hn
def vQ (P:aB)(nt:Nat)(k:List bA)(e:Env):aa:=match(execOp (kV e) (lq nt k e)).run P dw with| .ok (.value v) _=>v|_=>undef
theorem k5.pure (hc:cur nt k e=some (lq nt k e))(h:∀W,(execOp (kV e) (lq nt k e)).run P W=.ok (.value (vQ P nt k e)) W)
  (hn:k5 P f nt ops n kk (kZ k) (kX e (kW nt k e) (vQ P nt k e)) L S w0 R):k5 P f nt ops n kk k e L S w0 R:=
 k5.ow hc (fun W _=>h W) hn
def ry (nt:Nat)(k:List bA)(e:Env):Option (Option Tmp):=
 match k with
 | .inRegion ops (i::_)::_=>match ops[i]? with
  |some o=>match pK ops e o with
   |some false=>bif pD nt o.dst then some o.dst else none
   |_=>none
  |none=>none
 |_=>none
def oA (nt:Nat)(k:List bA)(e:Env):Option Tmp:=match ry nt k e with|some d=>d|none=>none
theorem k5.skip (h:ry nt k e=some (oA nt k e))(hn:k5 P f nt ops n kk (kZ k) (kX e (oA nt k e) undef) L S w0 R):k5 P f nt ops n kk k e L S w0 R:=by
 intro j M a3 t O;generalize oA nt k e=d at h hn;unfold ry at h;split at h
 ·next ops' i rest k'=>
  split at h
  ·next o ho=>
   split at h
   ·next hw=>
    cases hd:pD nt o.dst with
    |false=>simp[hd]at h
    |true=>
     simp only[hd,cond_true,al]at h;subst h;simp only[bM,bQ]at M;obtain⟨⟨rfl,M⟩,rfl⟩:=M;obtain⟨rfl,V,a2⟩:=Ky M;rw[MH ho V];have a1:=hn (j+1) (by simp only[kZ,a2]) (by omega) _ (O.put hd undef []);show(if cH o (yielded ops' (bB t []).tmps)then _ else _);rw[if_neg (by rw[O.wanted hw];simp)];rw[rS];exact a1
   ·cases h
  ·cases h
 ·cases h
def lV (P:aB)(g:bO)(args:Array aa)(L:aX)(S:List Nat)(w0:aj)(v:aa):Prop:=
 ∀W,Mem L S w0 W→aE P g args W fun e W'=>e=.returned v∧Mem L S w0 W'
theorem lV.of {g:bO}{args:Array aa}{v:aa}(h:l9 P g args v):lV P g args L S w0 v:=fun W hm=>(h W).mono fun _ _ M=>⟨M.1,hm.after M.2⟩
theorem k5.call (g:bO)(args:Array aa){v:aa}{L1:aX}(M:∀W,(execOp (kV e) (lq nt k e)).run P W=.ok (.enter g args) W)
  (hc:(cur nt k e,L)=(some (lq nt k e),L1))(h:lV P g args L1 S w0 v)
  (hn:k5 P f nt ops n kk (kZ k) (kX e (kW nt k e) v) L S w0 R):k5 P f nt ops n kk k e L S w0 R:=by
 simp only[af]at hc;obtain⟨hc,rfl⟩:=hc;exact k5.yS hc (fun W hm=>.inr ⟨g,args,M W,h W hm⟩) hn
end
section
variable {P:Program}{f nt:Nat}{k:List Item}{e:Env}{L:aX}{S:List Nat}{w0:World}{R:Goal P}{ops:Array Oper}{nq:Nat}{kk:List Item}
theorem k5.split (i:Nat){b:Bool}(h:get? e i=some (.bool b))(O:b=true→k5 P f nt ops nq kk k ((i,.bool true)::e) L S w0 R)
  (M:b=false→k5 P f nt ops nq kk k ((i,.bool false)::e) L S w0 R):k5 P f nt ops nq kk k e L S w0 R:=by
 cases b
 ·exact k5.push h (M rfl)
 ·exact k5.push h (O rfl)
theorem k5.DY (i:Nat){p:Prop}[Decidable p](h:get? e i=some (.bool (!decide p)))(V:¬p→k5 P f nt ops nq kk k ((i,.bool true)::e) L S w0 R)
  (O:p→k5 P f nt ops nq kk k ((i,.bool false)::e) L S w0 R):k5 P f nt ops nq kk k e L S w0 R:=
 k5.split i h (fun M=>V (of_decide_eq_false (by simpa using M))) (fun M=>O (of_decide_eq_true (by simpa using M)))
theorem k5.zb (i:Nat){n:ByteArray}(h:get? e i=some (.string n))(hn:∀x,x=n→k5 P f nt ops nq kk k ((i,.string x)::e) L S w0 R):k5 P f nt ops nq kk k e L S w0 R:=
 k5.push h (hn n rfl)
theorem k5.sg {s:ByteArray}{kd:bW}{i:Int}(h:vY P nt k e=some (some .string,.string s,.int kd i))(M:0≤i∧i<s.size)
  (hn:k5 P f nt ops nq kk (kZ k) (kX e (kW nt k e) (.int .u8 (k8 s i))) L S w0 R):k5 P f nt ops nq kk k e L S w0 R:=(OpV.sg h M).Q hn
theorem k5.sj {s:ByteArray}{lo hi:Option aa}(h:asSlice P nt k e=some (some .string,.string s,lo,hi,none)){a b:Int}
  (V:(∃kd,lo=some (.int kd a))∨(lo=none∧a=0))(O:(∃kd,hi=some (.int kd b))∨(hi=none∧b=s.size))(M:0≤a∧a≤b∧b≤s.size)
  (hn:k5 P f nt ops nq kk (kZ k) (kX e (kW nt k e) (.string (s.extract a.toNat b.toNat))) L S w0 R):k5 P f nt ops nq kk k e L S w0 R:=(OpV.sj h V O M).Q hn
theorem k5.concat {x y:ByteArray}(h:qC nt k e=some (.add,.string x,.string y))(M:x.size+y.size≤9223372036854775807)
  (hn:k5 P f nt ops nq kk (kZ k) (kX e (kW nt k e) (.string (x++y))) L S w0 R):k5 P f nt ops nq kk k e L S w0 R:=(OpV.concat h M).Q hn
theorem k5.shl {kd kc:bW}{x y:Int}(h:qC nt k e=some (.shl,.int kd x,.int kc y))(M:0≤y)
  (hn:k5 P f nt ops nq kk (kZ k) (kX e (kW nt k e) (.int kd (kd.wrap (x*2^(min y.toNat kd.bits))))) L S w0 R):k5 P f nt ops nq kk k e L S w0 R:=(OpV.shl h M).Q hn
theorem k5.rem {kd:bW}{x y:Int}(h:qC nt k e=some (.rem,.int kd x,.int kd y))(M:y≠0)
  (hn:k5 P f nt ops nq kk (kZ k) (kX e (kW nt k e) (.int kd (x.tmod y))) L S w0 R):k5 P f nt ops nq kk k e L S w0 R:=(OpV.rem h M).Q hn
theorem k5.load (j off:Nat){T:aC}{v:aa}(h:(nI nt k e,mc L j,mS P T (lO L j) off)=(some (T,.pointer (some ⟨k7 L j,off,none⟩)),true,some v))
  (hn:k5 P f nt ops nq kk (kZ k) (kX e (kW nt k e) v) L S w0 R):k5 P f nt ops nq kk k e L S w0 R:=(OpV.load j off h).Q hn
theorem k5.pV {b off:Nat}{T:aC}{v:aa}{c:List aa}(h:nI nt k e=some (T,.pointer (some ⟨b,off,none⟩)))(M:b∉S)(hc:lG w0 b=some c)(O:mS P T c off=some v)
  (hn:k5 P f nt ops nq kk (kZ k) (kX e (kW nt k e) v) L S w0 R):k5 P f nt ops nq kk k e L S w0 R:=(OpV.pV h M hc O).Q hn
theorem k5.nr {E:aC}{b o len cap sz o':Nat}{kd:bW}{i:Int}(h:(rZ P nt k e,(P.info? E).map (·.size))=(some (some (.slice E),.slice (some ⟨b,o,none⟩) len cap,.int kd i),some sz))
  (M:0≤i∧i<len)(O:o'=o+i.toNat*sz)(hn:k5 P f nt ops nq kk (kZ k) (kX e (kW nt k e) (.pointer (some ⟨b,o',none⟩))) L S w0 R):k5 P f nt ops nq kk k e L S w0 R:=(OpV.nr h M O).Q hn
theorem k5.rz {E:aC}{b o len cap sz o' l' c':Nat}{lo hi:Option aa}{x y:Int}(h:(asSlice P nt k e,(P.info? E).map (·.size))=(some (some (.slice E),.slice (some ⟨b,o,none⟩) len cap,lo,hi,none),some sz))
  (a2:(∃kd,lo=some (.int kd x))∨(lo=none∧x=0))(V:(∃kd,hi=some (.int kd y))∨(hi=none∧y=len∧len≤cap))(M:0≤x∧x≤y∧y≤cap)
  (a3:o'=if x.toNat=cap then o else o+x.toNat*sz)(a1:l'=y.toNat-x.toNat)(O:c'=cap-x.toNat)
  (hn:k5 P f nt ops nq kk (kZ k) (kX e (kW nt k e) (.slice (some ⟨b,o',none⟩) l' c')) L S w0 R):k5 P f nt ops nq kk k e L S w0 R:=(OpV.rz h a2 V M a3 a1 O).Q hn
end
section
variable {P:Program}{f nt:Nat}{k:List Item}{e:Env}{L:aX}{S:List Nat}{w0:World}{R:Goal P}
def pS (P:aB)(f nt:Nat)(ops:Array cW)(fuel:Nat)(listed:Array Bool)(k:List bA)(e:Env)(L:aX)(S:List Nat)(w0:aj)(R:Goal P):Prop:=
 ∀t,kO P f nt (.inRegion ops (bN .any ops fuel t listed [])::k) e L S w0 R
def yo (Φ:Nat→Prop):List Nat→Prop
 |[]=>True
 |i::r=>Φ i∧yo Φ r
theorem yo.get {Φ:Nat→Prop}:∀{l:List Nat},yo Φ l→∀i∈l,Φ i
 |_::_,h,_,.head _=>h.1
 |_::_,h,_,.tail _ hm=>yo.get h.2 _ hm
theorem pS.step {ops:Array cW}{V:Nat}{listed:Array Bool}(M:List Nat)(O:(bE .any ops listed,M.isEmpty)=(M,false))
  (h:yo (fun i=>∀t,kO P f nt (.inRegion ops (i::bN .any ops V t (listed.setIfInBounds i true) [])::k) e L S w0 R) M):
  pS P f nt ops (V+1) listed k e L S w0 R:=by
 intro t;simp only[af]at O;obtain⟨O,a2⟩:=O;have a3:0<M.length:=by
  cases M with
  |nil=>simp at a2
  |cons x xs=>simp
 rw[Bq,O];have a1:t%M.length<M.length:=eC _ a3;rw[ar a1];exact h.get _ (bH a1) _
theorem kO.Yv {V:Nat}{listed:Array Bool}{a3:Array cW}{a2:List bA}(a1:(sm k,P.follows .mixedOrders,m7 k,uK k,(m7 k).size,cL (m7 k).size false)=(true,true,a3,a2,V,listed))
  (h:pS P f nt a3 V listed a2 e L S w0 R):kO P f nt k e L S w0 R:=by
 simp only[af]at a1;obtain⟨O,hm,rfl,rfl,rfl,rfl⟩:=a1;unfold sm at O;split at O
 ·next id ops k'=>
  intro t w a5 M;have a6:∀τ,cX (P.follows .mixedOrders) ops τ=bN .any ops ops.size τ (cL ops.size false) []:=fun τ=>by
   simp only[cX,hm,iO,if_true];rfl
  refine At.step (k':=.inRegion ops (cX (P.follows .mixedOrders) ops (w.tape w.drawn (.order f id)))::k') (t':=t) (w':={w with drawn:=w.drawn+1})
   (fun b cs a4=>by have:=Ds (P:=P) (b:=b) (a:=⟨t,R.ds⟩) (k:=k') (cs:=cs) (w:=w) (id:=id) (ops:=ops);rw[a4]at this;exact this) ?_
  rw[a6];exact h _ _ _ a5 ⟨M.nodup,M.here,M.own,⟨M.kept.os,M.kept.tape,M.kept.output,M.kept.size,M.kept.block⟩⟩
 ·cases O
theorem Q8 {x:Int}{r:List aa}(h:0≤x∧x<256):((.int .u8 x::r:List aa).drop 0).take 1=kU [bg x.toNat]∧([bg x.toNat]:List UInt8).length=1:=by
 refine⟨?_,rfl⟩;have:(bg x.toNat).toNat=x.toNat:=by rw[UInt8.toNat_ofNat'];omega
 simp only[aU,List.take_succ_cons,List.take_zero,kU,dk,List.map_nil,this];congr 2;omega
end
section
variable {P:Program}{f nt:Nat}{k:List Item}{e:Env}{L:aX}{S:List Nat}{w0:World}{R:Goal P}
theorem kO.front {x:Nat×Obj}(hn:kO P f nt k e (x::L) S w0 R):kO P f nt k e (L++[x]) S w0 R:=
 fun t W M hm=>hn t W M (hm.perm (by simpa using(aw (l₁:=[x]) (l₂:=L))))
def lP (P:aB)(g:bO)(args:Array aa)(L0:aX)(K:aa→aX→Prop):Prop:=
 ∀W,Mem L0 (L0.map (·.1)) W W→aE P g args W fun e W'=>∃v L',e=.returned v∧Mem L' (L0.map (·.1)) W W'∧K v L'
theorem eA.lF {g:bO}{args:Array aa}{L0 L1:aX}{K K':aa→aX→Prop}(h:lP P g args L0 K)(hp:(L0++L1).Perm L)(a8:∀v L',K v L'→∃a2,(L'++L1).Perm a2∧K' v a2):eA P g args L S w0 K':=by
 intro W hm;have M:Mem (L0++L1) S w0 W:=hm.perm hp;have a5:=M.nodup;rw[cE,cm]at a5;obtain⟨b6,n1,a7⟩:=a5;refine(h W ⟨b6,fun p hp=>M.here p (ay _ hp),fun p hp=>.inr (da hp),Kept.refl _ W⟩).mono ?_;rintro e b7 ⟨v,L',rfl,O,b3⟩;obtain⟨a2,b5,b4⟩:=a8 v L' b3;refine⟨v,a2,rfl,Mem.perm (L:=L'++L1) ⟨?_,?_,?_,?_⟩ b5.symm,b4⟩
 ·rw[cE,cm]
  refine⟨O.nodup,n1,?_⟩;intro a a9 b a4 b1;subst b1;obtain⟨p,hp,rfl⟩:=bV.1 a9;obtain⟨q,V,a1⟩:=bV.1 a4;rcases O.own p hp with h1|h1
  ·have:=M.lt (ak L0 V)
   omega
  ·exact a7 _ h1 _ a4 rfl
 ·intro p hp
  rcases cn.1 hp with hp|hp
  ·exact O.here p hp
  ·rw[O.kept.block p.1 (M.lt (ak _ hp)) (fun a3=>a7 _ a3 _ (da hp) rfl)]
   exact M.here p (ak _ hp)
 ·intro p hp
  rcases cn.1 hp with hp|hp
  ·rcases O.own p hp with h1|h1
   ·exact .inl (bC M.kept.size h1)
   ·obtain⟨q,V,a1⟩:=bV.1 h1
    have:=M.own q (ay _ V);rw[a1]at this;exact this
  ·exact M.own p (ak _ hp)
 ·refine⟨O.kept.os.trans M.kept.os,O.kept.tape.trans M.kept.tape,O.kept.output.trans M.kept.output,bC M.kept.size O.kept.size,fun i hi a6=>?_⟩
  rw[O.kept.block i (gz hi M.kept.size) (fun a3=>?_)]
  ·exact M.kept.block i hi a6
  ·obtain⟨q,V,a1⟩:=bV.1 a3
   rcases M.own q (ay _ V)with h1|h1
   ·rw[a1]at h1;omega
   ·rw[a1]at h1;exact a6 h1
theorem kO.qI {R:bJ→aj→Prop}{fn:fu}{a:Tmp}{T:aC}{v:aa}{L1:aX}(j off:Nat)(O:P.funcs[f]?=some fn)
  (a2:(oX k,fn.results.toList.length,get? e a,mc L j,mS P T (lO L j) off,L)=(true,1,some (.pointer (some ⟨k7 L j,off,none⟩)),true,some v,L1))(a7:fn.results= #[.cell a T])
  (h:Fin R L1 S w0 v):kO P f nt k e L S w0 (lN R):=by
 simp only[af]at a2;obtain⟨M,_,a3,a4,a5,rfl⟩:=a2;intro t W a6 hm;have a1:(results fn t).run P W=.ok v W:=by
  have V:=vd (P:=P) (hm.pf a4) a5;have a8:=a6.getD a3;have a9:t[a]?.getD undef=.pointer (some ⟨k7 L j,off,none⟩):=by rw[←bo];exact a8
  simp only[gB,aR,eD,cg,cA]at V;simp[results,a7,a9,asAddr,V]
 unfold oX at M;split at M
 ·exact At.ret O a1 (h W hm)
 ·exact At.fin O a1 (h W hm)
 ·cases M
theorem Mem.CG {A T:aX}{W:aj}(hm:Mem (A++T) S w0 W){O:List Nat}(h:O.Nodup):Mem (nE A O++T) S w0 W:=by
 have V:=hm.nodup;rw[cE,cm]at V;obtain⟨a6,n1,a7⟩:=V;have a1:Mem A S w0 W:=⟨a6,fun p hp=>hm.here p (ay _ hp),fun p hp=>hm.own p (ay _ hp),hm.kept⟩;have M:=a1.vB h;have sub:∀p∈nE A O,p∈A:=fun p hp=>by
  obtain⟨i,_,a5⟩:=vH hp;exact bk a5
 refine⟨?_,fun p hp=>?_,fun p hp=>?_,hm.kept⟩
 ·rw[cE,cm]
  refine⟨M.nodup,n1,fun a a2 b a4 a3=>?_⟩;obtain⟨p,hp,rfl⟩:=bV.1 a2;exact a7 _ (da (sub p hp)) _ a4 a3
 ·rcases cn.1 hp with hp|hp
  ·exact M.here p hp
  ·exact hm.here p (ak _ hp)
 ·rcases cn.1 hp with hp|hp
  ·exact M.own p hp
  ·exact hm.own p (ak _ hp)
theorem kO.rB (O:List Nat)(m:Nat){k':List bA}{e':Env}{L':aX}(hn:kO P f nt k' e' L' S w0 R)(h:(k,restrict e (e'.map (·.1)),nE (L.take m) O++L.drop m,o5 O)=(k',some e',L',true)):kO P f nt k e L S w0 R:=by
 simp only[af]at h;obtain⟨rfl,h,rfl,a1⟩:=h;intro t W M hm;have V:Mem (L.take m++L.drop m) S w0 W:=by rw[dK];exact hm
 exact hn t W ⟨M.size,fun i v a2=>M.slot i v (tP h i v a2)⟩ (V.CG (rY a1))
def ox (zs:Array aa)(n:Nat):List aa:=(aM zs n).toList
theorem Dc (zs:Array aa)(n:Nat):(ox zs n).length=n*zs.size:=by simp[ox,aM]
theorem Xb {zs:Array aa}(h:∀u∈zs.toList,u.oneCell'=true)(n:Nat):∀u∈ox zs n,u.oneCell'=true:=by
 intro u M;simp only[ox,aM,Array.toList_map,Array.toList_range,bV,List.mem_range]at M;obtain⟨i,hi,rfl⟩:=M;have V:0<zs.size:=by
  rcases bX zs.size with h0|h0
  ·rw[h0,Nat.mul_zero]at hi;omega
  ·exact h0
 have O:i%zs.size<zs.size:=eC _ V;rw[getElem!_pos zs _ O];exact h _ (by simp)
theorem kO.Nz (j:Nat){T E:aC}{o n cap:Nat}{z:aa}{sz bytes:Nat}{c:List aa}
  (h:(oa nt k e,P.underlying T,nj P E,z.cells.size,mc L j,lO L j,nD L j)=
   (some (.clear,[.slice (some ⟨k7 L j,o,none⟩) n cap],[T]),some (.slice E),some (some z,sz,bytes),sz,true,c,(0,0)))
  (a3:(z.cells.toList.all fun u=>u.oneCell')=true)(c5:o+n*sz≤c.length)
  (hn:kO P f nt (kZ k) (kX e (kW nt k e) (.tuple #[])) (oP L j (over c o (ox z.cells n))) S w0 R):kO P f nt k e L S w0 R:=by
 simp only[af]at h;obtain⟨a9,V,M,a4,a1,a5,a6⟩:=h;obtain⟨op,cl,hc,b5,b1,a8,c2⟩:=rJ a9;refine kO.tM hc b5 b1 a8 c2 (by simp) fun W hm=>?_
 have O:=hm.pf a1;rw[a5,a6]at O;refine⟨_,W.setRow (k7 L j) ⟨over c o (ox z.cells n)⟩,run_lift (v:=.tuple #[]) ?_,fun t b4=>hn t _ b4 (hm.setRow a1 _)⟩;have c6:(ox z.cells n).length=n*sz:=by rw[Dc,a4]
 have b9:=run_storeCells_at P (k7 L j) o (rv L j) (ox z.cells n) 0 ⟨c⟩ W O (by simp only[fC,ec];omega) (Xb (fun u c3=>List.all_eq_true.1 a3 u c3) n);show(gT #[T] op.type #[.slice (some ⟨k7 L j,o,none⟩) n cap]).run P W=_;have c4:(zeroValue E).run P W=.ok z W:=by
  unfold nj at M;cases hq:P.info? E with
  |none=>rw[hq]at M;cases M
  |some i=>
   rw[hq]at M;simp at M;simp[zeroValue,typeInfo,hq,M.1]
 cases n with
 | zero=>
  have b6:over c o (ox z.cells 0)=c:=by
   have:ox z.cells 0=[]:=by apply aQ.1;rw[Dc];simp
   rw[this,over];simp
  rw[b6];have b7:W.setRow (k7 L j) ⟨c⟩=W:=by
   have b3:(W.heap.modify (k7 L j) fun x=>match x with|bu _ elem frozen=>bu ⟨c⟩ elem frozen|o=>o)=W.heap:=by
    apply dS;intro i;rw[dz];split
    ·next heq=>subst heq;rw[O];rfl
    ·rfl
   have a7:(W.setRow (k7 L j) ⟨c⟩).heap=W.heap:=b3;show({W with heap:=(W.setRow (k7 L j) ⟨c⟩).heap}:aj)=W;rw[a7]
  rw[b7];simp[gT,run_underlying V]
 |succ n=>
  simp[gT,run_underlying V,c4,cA];have a2:=b9;simp only[fC,ox]at a2;rw[a2];simp[over,ox]
end
section
variable {P:Program}{f nt:Nat}{k:List Item}{e:Env}{L:aX}{S:List Nat}{w0:World}{R:Goal P}
theorem kO.norm {k':List bA}{e':Env}{L':aX}(hn:kO P f nt k' e' L' S w0 R)(h:(k,restrict e (e'.map (·.1)),L)=(k',some e',L')):kO P f nt k e L S w0 R:=by
 simp only[af]at h;obtain⟨rfl,h,rfl⟩:=h;intro t W M hm;exact hn t W ⟨M.size,fun i v O=>M.slot i v (tP h i v O)⟩ hm
theorem kO.Sz {E:aC}{p:Option hO}{len cap:Nat}{lo hi:Option aa}{y:Int}{sz:Nat}(h:(asSlice P nt k e,(P.info? E).map (·.size))=(some (some (.slice E),.slice p len cap,lo,hi,none),some sz))
  (a8:(∃kd,lo=some (.int kd 0))∨lo=none)(a6:(∃kd,hi=some (.int kd y))∨(hi=none∧y=len∧len≤cap))(a4:0≤y∧y≤cap)
  (hn:kO P f nt (kZ k) (kX e (kW nt k e) (.slice p y.toNat cap)) L S w0 R):kO P f nt k e L S w0 R:=by
 simp only[af]at h;obtain⟨O,V⟩:=h;unfold asSlice at O;split at O
 ·next op hc=>
  split at O
  ·next T x' l2 h2' m2 hop=>
   simp only[al,af]at O;obtain⟨a3,b1,a7,a5,a9⟩:=O;cases hq:P.info? E with
   |none=>rw[hq]at V;cases V
   | some ii=>
    rw[hq]at V;simp at V;refine kO.ow hc (fun W hm=>?_) hn;simp only[execOp,hop,b1,a7,a5,a9];refine run_lift ?_;have key:(cG true len cap lo hi none).run P W=.ok (0,y.toNat,cap) W:=by
     have b3:(y.toNat:Int)=y:=dM (by omega);have a1:∀kd M,(eQ (.int kd y) cap M).run P W=.ok y.toNat W:=fun kd M=>run_sliceBound W kd y cap M (by omega) a4.2
     have b2:∀kd M,(eQ (.int kd 0) y.toNat M).run P W=.ok 0 W:=fun kd M=>run_sliceBound W kd 0 y.toNat M (by omega) (by omega)
     have a2:∀kd M,(eQ (.int kd 0) len M).run P W=.ok 0 W:=fun kd M=>run_sliceBound W kd 0 len M (by omega) (by omega)
     rcases a8 with⟨kd,rfl⟩|rfl<;>rcases a6 with⟨kd',rfl⟩|⟨rfl,rfl,_⟩
     ·simp only[cG,aR,cg,bw,a1,b2]
     ·simp[cG,a2,cA]
     ·simp only[cG,aR,cg,bw,a1]
     ·simp[cG]
    simp only[iM,aR,run_underlying a3,bw,Instr.slice,key,sizeOf,typeInfo,run_program,hq,cg];have hp:(if cap=0 then p else p.map (·.add (0*ii.size)))=p:=by
     split
     ·rfl
     ·cases p with
      |none=>rfl
      |some a=>simp[Addr.add]
    rw[hp];simp
  ·cases O
 ·cases O
end
section
variable {P:Program}{f nt:Nat}{k:List Item}{e:Env}{L:aX}{S:List Nat}{w0:World}{G:Goal P}
def nK (P:aB)(f nt:Nat)(e:Env)(ch:List cf)(L:aX)(S:List Nat)(w0:aj)(G:Goal P):Prop:=
 ∀t W k,mF nt e t→Mem L S w0 W→∀(b:dZ) (cs:List dZ),b.fn=f→G.ok b cs (lone {rt b ⟨t,G.ds⟩ k with mode:=.panicking ch} cs W)
def mq (P:aB)(g:bO)(args:Array aa)(L:aX)(S:List Nat)(w0:aj)(K:aa→aX→Prop)(K':List cf→aX→Prop):Prop:=
 ∀W,Mem L S w0 W→aE P g args W fun e W'=>(∃v L',e=.returned v∧Mem L' S w0 W'∧K v L')∨∃ch L',e=.panicked ch∧Mem L' S w0 W'∧K' ch L'
theorem mq.of {g:bO}{args:Array aa}{K:aa→aX→Prop}{K':List cf→aX→Prop}(h:eA P g args L S w0 K):mq P g args L S w0 K K':=
 fun W hm=>(h W hm).mono fun _ _ M=>.inl M
theorem At.Um {t:Array aa}{w w':aj}{ops:Array cW}{i:Nat}{rest:List Nat}{o:cW}{g:bO}{args:Array aa}{k:List bA}
  (a4:ops[i]?=some o)(b1:cH o (yielded ops t)=true)(a5:(execOp (bB t []).eval o).run P w=.ok (.enter g args) w')
  (h:aE P g args w' fun e V=>(∃v,e=.returned v∧At P f (.inRegion ops rest::k) ((bB t []).put o.dst v).tmps V G)∨
   ∃O,e=.panicked O∧∀(b:dZ) (cs:List dZ),b.fn=f→G.ok b cs (lone {rt b ⟨t,G.ds⟩ (.inRegion ops (i::rest)::k)with mode:=.panicking O} cs V)):
  At P f (.inRegion ops (i::rest)::k) t w G:=by
 intro b cs a1;have a8:=wP (P:=P) (b:=b) (a:=⟨t,G.ds⟩) (k:=k) (cs:=cs) (w:=w) (rest:=rest) a4 b1 (.inr (yY a5 rfl));have a9:(execOp (bB t G.ds).eval o).run P w=.ok (.enter g args) w':=a5;obtain⟨e,V,fr,M,a6,_,a3⟩:=h (rt b ⟨t,G.ds⟩ (.inRegion ops (i::rest)::k)::cs);have a2:dP P (lone (rt b ⟨t,G.ds⟩ (.inRegion ops (i::rest)::k)) cs w)=
   .next (lone (fy P g args .normal) (rt b ⟨t,G.ds⟩ (.inRegion ops (i::rest)::k)::cs) w'):=
  step_lone_go (by rw[a8];simp[dE,a9,rt,Frame.at])
 rcases M with⟨v,rfl,M⟩|⟨O,rfl,M⟩
 ·have a7:(rt b ⟨t,G.ds⟩ (.inRegion ops (i::rest)::k)).finish v=rt b ⟨((bB t []).put o.dst v).tmps,G.ds⟩ (.inRegion ops rest::k):=by
   rw[xu,a4];show rt b ((bB t G.ds).put o.dst v) _=_;rw[rS]
  refine G.back _ _ _ _ (.head a2 (fY a6 (.one (step_leave_returned a3)))) ?_;rw[a7];exact M b cs a1
 ·refine G.back _ _ _ _ (.head a2 (fY a6 (.one (step_leave_panicked a3)))) ?_
  rw[LO];exact M b cs a1
theorem kO.vr (g:bO)(args:Array aa){L1:aX}{K:aa→aX→Prop}{K':List cf→aX→Prop}(a8:∀W,(execOp (kV e) (lq nt k e)).run P W=.ok (.enter g args) W)
  (hc:(cur nt k e,L)=(some (lq nt k e),L1))(h:mq P g args L1 S w0 K K')
  (hn:∀v L',K v L'→kO P f nt (kZ k) (kX e (kW nt k e) v) L' S w0 G)(hp:∀M L',K' M L'→nK P f nt e M L' S w0 G):kO P f nt k e L S w0 G:=by
 intro t W O hm;simp only[af]at hc;obtain⟨hc,rfl⟩:=hc;obtain⟨ops,i,rest,k',rfl,a6,a9,a5,a7,a3⟩:=pG hc;have a1:=a8 W;rw[←execOp_congr (bB t []).eval (kV e) _ a7 (O.kV a5 [])]at a1;refine At.Um a6 (O.wanted a9) a1 ((h W hm).mono fun en V a4=>?_);rcases a4 with⟨v,L',he,hm',hK⟩|⟨M,L',he,hm',hK⟩
 ·refine .inl ⟨v,he,hn v L' hK _ V ?_ hm'⟩
  have:=O.put a3 v [];simpa only[kW,hc]using this
 ·exact .inr ⟨M,he,fun b cs a2=>hp M L' hK _ V _ O hm' b cs a2⟩
def Du (nt:Nat)(k:List bA)(e:Env):Option aa:=
 match cur nt k e with
 |some o=>match o.op with
  | .panic x=>some (kV e x)
  |_=>none
 |none=>none
theorem kO.panic {t:aC}{v:aa}(h:Du nt k e=some (.iface t v))(hn:nK P f nt e [{v:=.iface t v,recovered:=false}] L S w0 G):kO P f nt k e L S w0 G:=by
 unfold Du at h;split at h
 ·next o hc=>
  split at h
  ·next x ho=>
   simp only[al]at h;intro M W O hm b cs a1;obtain⟨ops,i,rest,k',rfl,a4,a7,a3,a5,a8⟩:=pG hc;have V:(execOp (kV e) o).run P W=.halt (.panic (.iface t v)) W:=by
    simp only[execOp,ho,h];rfl
   rw[←execOp_congr (bB M []).eval (kV e) o a5 (O.kV a3 [])]at V;have a6:(execOp (bB M G.ds).eval o).run P W=.halt (.panic (.iface t v)) W:=V;have a2:=wP (P:=P) (b:=b) (a:=⟨M,G.ds⟩) (k:=k') (cs:=cs) (w:=W) (rest:=rest) a4 (O.wanted a7) (.inr fun c h=>by rw[h]at ho;cases ho);refine G.back _ _ _ _ (.one (step_lone_go ?_)) (hn M W (.inRegion ops (i::rest)::k') O hm b cs a1);rw[a2,←LO];simp[dE,a6]
  ·cases h
 ·cases h
def n6 (P:aB)(fn:fu)(nt:Nat)(e:Env)(L:aX)(S:List Nat)(w0:aj)(v:aa):Prop:=
 ∀t W,mF nt e t→Mem L S w0 W→(results fn t).run P W=.ok v W
theorem zQ {W:aj}(hm:Mem L S w0 W){j off:Nat}{T:aC}{v:aa}(O:mc L j=true)(V:mS P T (lO L j) off=some v):
  (loadVar T ⟨k7 L j,off,none⟩).run P W=.ok v W:=by
 have M:=vd (P:=P) (hm.pf O) V;simp only[gB,aR,eD,cg,cA]at M;simpa using M
theorem n6.qW {fn:fu}{a b:Tmp}{T U:aC}{u v:aa}(j off M O:Nat)(a9:fn.results= #[.cell a T,.cell b U])
  (h:(get? e a,mc L j,mS P T (lO L j) off,get? e b,mc L M,mS P U (lO L M) O)=(some (.pointer (some ⟨k7 L j,off,none⟩)),true,some u,some (.pointer (some ⟨k7 L M,O,none⟩)),true,some v)):
  n6 P fn nt e L S w0 (.tuple #[u,v]):=by
 simp only[af]at h;obtain⟨a1,a2,a3,a4,a5,a6⟩:=h;intro t W V hm;have b1:=zQ (P:=P) hm a2 a3;have b3:=zQ (P:=P) hm a5 a6;have a7:t[a]?.getD undef=.pointer (some ⟨k7 L j,off,none⟩):=by rw[←bo];exact V.getD a1
 have a8:t[b]?.getD undef=.pointer (some ⟨k7 L M,O,none⟩):=by rw[←bo];exact V.getD a4
 simp[results,a9,a7,a8,asAddr,aR,cA,b1,b3]
theorem n6.ct {fn:fu}{a b:Tmp}{T:aC}{u v:aa}(j off:Nat)(a5:fn.results= #[.cell a T,.tmp b])
  (h:(get? e a,mc L j,mS P T (lO L j) off,get? e b)=(some (.pointer (some ⟨k7 L j,off,none⟩)),true,some u,some v)):
  n6 P fn nt e L S w0 (.tuple #[u,v]):=by
 simp only[af]at h;obtain⟨O,V,a1,a2⟩:=h;intro t W M hm;have a6:=zQ (P:=P) hm V a1;have a3:t[a]?.getD undef=.pointer (some ⟨k7 L j,off,none⟩):=by rw[←bo];exact M.getD O
 have a4:t[b]?.getD undef=v:=by rw[←bo];exact M.getD a2
 simp[results,a5,a3,a4,asAddr,cA,a6]
theorem kO.CJ {R:bJ→aj→Prop}{fn:fu}{v:aa}{L1:aX}(O:P.funcs[f]?=some fn)(M:(oX k,L)=(true,L1))(a1:n6 P fn nt e L S w0 v)(h:Fin R L1 S w0 v):kO P f nt k e L S w0 (Eng.lN R):=by
 simp only[af]at M;obtain⟨M,rfl⟩:=M;intro t W V hm;unfold oX at M;split at M
 ·exact At.ret O (a1 t W V hm) (h W hm)
 ·exact At.fin O (a1 t W V hm) (h W hm)
 ·cases M
def pU (R:bJ→aj→Prop)(L:aX)(S:List Nat)(w0:aj)(ch:List cf):Prop:=∀W,Mem L S w0 W→R (.panicked ch) W
theorem nK.lN {R:bJ→aj→Prop}{fn:fu}{M:List cf}(V:P.funcs[f]?=some fn)(h:pU R L S w0 M):nK P f nt e M L S w0 (lN R):=by
 intro t W k a1 hm b cs O a2 a3;exact⟨.panicked M,W,_,h W hm,Steps.refl P _,rfl,rfl,rfl,fn,by rw[←V,←O];rfl⟩
def oy (P:aB)(g:bO)(args:Array aa)(L:aX)(S:List Nat)(w0:aj)(u:cZ)(K:cZ→aX→Prop):Prop:=
 ∀W,Mem L S w0 W→CallsD P g args u W fun e u' W'=>∃v L',e=.returned v∧Mem L' S w0 W'∧K u' L'
theorem J7 {fn:fu}{t:Array aa}{R:bJ→aj→Prop}{d:eY}{V:Fn}{cap:Array aa}{g:bO}{args:Array aa}{u:cZ}(a9:u≠ .run)(a5:d.target=.fn V cap)
  (hi:∀W,(invoke d.target d.args).run P W=.ok (.enter g args) W)(a7:mF nt e t)
  (h:oy P g args L S w0 u fun O L'=>settle O=.returning∧∃v,n6 P fn nt e L' S w0 v∧Fin R L' S w0 v){W:aj}(hm:Mem L S w0 W):Leaves P fn t R [d] u W:=by
 refine⟨a9,V,cap,g,args,a5,hi W,fun c cs hc=>?_⟩;obtain⟨en,O,M,fr,⟨v,L',rfl,a1,a8,x,b1,a6⟩,a2,a3,a4⟩:=h W hm c cs hc;refine⟨.returned v,O,M,fr,?_,a2,a3,a4⟩;show Leaves P fn t R [] (settle O) M;rw[a8];exact⟨x,b1 t M a7 a1,a6 M a1⟩
theorem nK.yM {R:bJ→aj→Prop}{fn:fu}{d:eY}{V:Fn}{cap:Array aa}{g:bO}{args:Array aa}{M:List cf}(a4:P.funcs[f]?=some fn)(a3:d.target=.fn V cap)
  (hi:∀W,(invoke d.target d.args).run P W=.ok (.enter g args) W)
  (h:oy P g args L S w0 (.panicking M) fun b4 L'=>settle b4=.returning∧∃v,n6 P fn nt e L' S w0 v∧Fin R L' S w0 v):nK P f nt e M L S w0 (yM [d] R):=by
 intro t W k a6 hm b cs a2 a7 b1;show∃e w' fr,R e w'∧gA P (lone {rt b ⟨t,[d]⟩ k with mode:=.panicking M} cs W) (lone fr cs w') e∧fr.fn=b.fn∧fr.leaving P w' e;rw[qh b1];have a8:=J7 (fn:=fn) (R:=R) (by simp) a3 hi a6 h hm;obtain⟨e',b5,O,a1,b3,a5,a9⟩:=leaves_steps [d] (.panicking M) W {b.at ⟨t,[d]⟩ k with mode:=.panicking M} cs rfl rfl rfl (by rw[←a4,←a2];rfl) a7 a8;exact⟨e',b5,O,a1,b3,a5,a9⟩
theorem kO.FJ {R:bJ→aj→Prop}{fn:fu}{d:eY}{a9:Fn}{cap:Array aa}{g:bO}{args:Array aa}(a6:P.funcs[f]?=some fn)(b1:d.target=.fn a9 cap)
  (hi:∀W,(invoke d.target d.args).run P W=.ok (.enter g args) W)(a1:oX k=true)
  (h:oy P g args L S w0 .returning fun b5 L'=>settle b5=.returning∧∃v,n6 P fn nt e L' S w0 v∧Fin R L' S w0 v):kO P f nt k e L S w0 (yM [d] R):=by
 intro t W b3 hm b cs a5 a7 b4;show∃e w' fr,R e w'∧gA P (lone (rt b ⟨t,[d]⟩ k) cs W) (lone fr cs w') e∧fr.fn=b.fn∧fr.leaving P w' e;rw[qh b4];have a8:=J7 (fn:=fn) (R:=R) (by simp) b1 hi b3 h hm;unfold oX at a1;split at a1
 ·obtain⟨e',a4,M,O,a3,V,a2⟩:=leaves_steps [d] .returning W {b.at ⟨t,[d]⟩ (.code .ret::_)with mode:=.returning} cs rfl rfl rfl (by rw[←a6,←a5];rfl) a7 a8
  exact⟨e',a4,M,O,dO (.one step_ret) a3,V,a2⟩
 ·obtain⟨e',a4,M,O,a3,V,a2⟩:=leaves_steps [d] .returning W {b.at ⟨t,[d]⟩ []with mode:=.returning} cs rfl rfl rfl (by rw[←a6,←a5];rfl) a7 a8
  exact⟨e',a4,M,O,dO (.one step_end) a3,V,a2⟩
 ·cases a1
theorem oy.mono {g:bO}{args:Array aa}{u:cZ}{K K':cZ→aX→Prop}(h:oy P g args L S w0 u K)(a4:∀M L',K M L'→K' M L'):oy P g args L S w0 u K':=by
 intro W hm c cs hc;obtain⟨en,M,O,fr,⟨v,L',V,a1,a2⟩,a3⟩:=h W hm c cs hc;exact⟨en,M,O,fr,⟨v,L',V,a1,a4 M L' a2⟩,a3⟩
theorem kO.defer {R:bJ→aj→Prop}{d:eY}(hc:cur nt k e=some (lq nt k e))(a2:∀W,(execOp (kV e) (lq nt k e)).run P W=.ok (.defer d) W)
  (hn:kO P f nt (kZ k) (kX e (kW nt k e) undef) L S w0 (yM [d] R)):kO P f nt k e L S w0 (Eng.lN R):=by
 intro t W M hm b cs a7 b3 O;show∃e w' fr,R e w'∧gA P (lone (rt b ⟨t,[]⟩ k) cs W) (lone fr cs w') e∧fr.fn=b.fn∧fr.leaving P w' e;rw[qh O];generalize lq nt k e=o at hc a2;obtain⟨ops,i,rest,k',rfl,a1,b7,b4,b6,a8⟩:=pG hc;have a3:=a2 W;rw[←execOp_congr (bB t []).eval (kV e) o b6 (M.kV b4 [])]at a3;have b1:=stepG_op (P:=P) (b:=b) (a:=⟨t,[]⟩) (k:=k') (cs:=cs) (w:=W) (rest:=rest) a1 (M.wanted b7);have b5:=hn ((bB t []).put o.dst undef).tmps W (by have:=M.put a8 undef [];simpa only[kW,hc]using this) hm b cs a7 b3 O;have V:∃e w' fr,R e w'∧gA P (lone (rt b ⟨((bB t []).put o.dst undef).tmps,[d]⟩ (.inRegion ops rest::k')) cs W) (lone fr cs w') e∧fr.fn=b.fn∧fr.leaving P w' e:=b5;rw[qh O]at V;obtain⟨en,w',fr,a4,a5,a6⟩:=V;refine⟨en,w',fr,a4,dO (.one (step_lone_go ?_)) a5,a6⟩;have a9:({b.at ⟨t,[]⟩ (.inRegion ops (i::rest)::k')with defers:=d::[]}:dZ).finish undef=b.at ⟨((bB t []).put o.dst undef).tmps,[d]⟩ (.inRegion ops rest::k'):=by
  have:=gU b ⟨t,[d]⟩ ops i rest k' undef;rw[a1]at this;rw[←rS];exact this
 show fG (stepG P true {frame:=b.at ⟨t,[]⟩ (.inRegion ops (i::rest)::k'),callers:=cs,status:=.running,dying:=none} W)=ik {frame:=b.at ⟨((bB t []).put o.dst undef).tmps,[d]⟩ (.inRegion ops rest::k'),callers:=cs,status:=.running,dying:=none} W;rw[b1];simp only[dE,hV,a3,fD];exact congrArg (fun fr=>ik {frame:=fr,callers:=cs,status:=.running,dying:=none} W) a9
def wb {P:aB}(u:cZ)(R:bJ→cZ→aj→Prop):Goal P where
 ds:=[]
 ok b cs m:=b.kind=.deferred→b.roundOf=none→∀c cs',cs=c::cs'→c.mode=u→
  ∃e u' w' fr,R e u' w'∧gA P m (lone fr ({c with mode:=u'}::cs') w') e∧fr.kind=.deferred∧fr.going P w' e
 back b cs m m1 hs h hk hr c cs' hc hu:=by
  obtain⟨e,u',w',fr,h1,h2,h3⟩:=h hk hr c cs' hc hu;exact⟨e,u',w',fr,h1,dO hs h2,h3⟩
theorem kO.No {fn:fu}{args:List aa}{W:aj}{u:cZ}{R:bJ→cZ→aj→Prop}(a8:P.funcs[f]?=some fn)(V:(fn.body.isSome,fn.ntmps,cC args.length nt)=(true,nt,true))(hm:Mem L S w0 W)
  (h:kO P f nt [.code (body fn)] (qY 0 args) L S w0 (wb u R)):CallsD P f ⟨args⟩ u W R:=by
 simp only[af]at V;obtain⟨a2,a3,a4⟩:=V;obtain⟨c,hc⟩:=aJ.1 a2;have a6:body fn=c:=by simp[body,hc]
 rw[a6]at h;have b3:args.length≤nt:=bl a4;intro O cs b1;have a7:fy P f ⟨args⟩ .deferred=
   ({(default:dZ)with fn:=f,kind:=.deferred}:dZ).at {tmps:=(⟨args⟩:Array aa)++cL (fn.ntmps-(⟨args⟩:Array aa).size) undef,defers:=[]} [.code c]:=by
  simp[fy,Frame.at,a8,hc]
 rw[a7];have a5:∀t,mF nt (qY 0 args) t→∃e a1 w' fr,R e a1 w'∧gA P (lone (({(default:dZ)with fn:=f,kind:=.deferred}:dZ).at ⟨t,[]⟩ [.code c]) (O::cs) W) (lone fr ({O with mode:=a1}::cs) w') e∧fr.kind=.deferred∧fr.going P w' e:=by
  intro t a9;have:=h t W a9 hm {(default:dZ)with fn:=f,kind:=.deferred} (O::cs) rfl rfl rfl O cs rfl b1;rw[qh rfl]at this;exact this
 refine a5 _ ⟨?_,?_⟩
 ·simp[a3];omega
 ·intro i v M
  obtain⟨_,M⟩:=C4 args 0 i v M;simp only[ji]at M;have hi:i<args.length:=(bU.1 M).1;rw[ib (by simpa using hi)];simpa using M
def CT (R:bJ→cZ→aj→Prop)(u:cZ)(L:aX)(S:List Nat)(w0:aj)(v:aa):Prop:=∀W,Mem L S w0 W→R (.returned v) u W
theorem kO.HH {R:bJ→cZ→aj→Prop}{u:cZ}{fn:fu}{v:aa}{L1:aX}(a2:P.funcs[f]?=some fn)(M:(oX k,rq e fn.results.toList,L)=(true,some v,L1))(h:CT R u L1 S w0 v):kO P f nt k e L S w0 (wb u R):=by
 simp only[af]at M;obtain⟨O,M,rfl⟩:=M;intro t W a7 hm b cs V a3 a8 c a6 hc a9;show∃e a5 w' fr,R e a5 w'∧gA P (lone (rt b ⟨t,[]⟩ k) cs W) (lone fr ({c with mode:=a5}::a6) w') e∧fr.kind=.deferred∧fr.going P w' e;rw[qh a8];have a4:=Eu (P:=P) a7 M W;have a1:({c with mode:=u}:dZ)=c:=by rw[←a9]
 unfold oX at O;split at O
 ·exact⟨.returned v,u,W,{b.at ⟨t,[]⟩ (.code .ret::_)with mode:=.returning},h W hm,by rw[a1,hc];exact .one step_ret,a3,rfl,rfl,fn,by rw[←a2,←V];rfl,a4⟩
 ·exact⟨.returned v,u,W,{b.at ⟨t,[]⟩ []with mode:=.returning},h W hm,by rw[a1,hc];exact .one step_end,a3,rfl,rfl,fn,by rw[←a2,←V];rfl,a4⟩
 ·cases O
theorem kO.ZN {R:bJ→cZ→aj→Prop}{v:aa}{V:List cf}(hc:cur nt k e=some (lq nt k e))(a6:∀W,(execOp (kV e) (lq nt k e)).run P W=.ok .recover W)
  (hn:kO P f nt (kZ k) (kX e (kW nt k e) v) L S w0 (wb (.panicking ({v,recovered:=true}::V)) R)):
  kO P f nt k e L S w0 (wb (.panicking ({v,recovered:=false}::V)) R):=by
 intro t W a1 hm b cs b4 a4 a2 c M hcs c5;subst hcs;show∃e O w' fr,R e O w'∧gA P (lone (rt b ⟨t,[]⟩ k) (c::M) W) (lone fr ({c with mode:=O}::M) w') e∧fr.kind=.deferred∧fr.going P w' e;rw[qh a2];generalize lq nt k e=o at hc a6;obtain⟨ops,i,rest,k',rfl,a5,c6,b9,c3,b5⟩:=pG hc;have a7:=a6 W;rw[←execOp_congr (bB t []).eval (kV e) o c3 (a1.kV b9 [])]at a7;have b7:=stepG_op (P:=P) (b:=b) (a:=⟨t,[]⟩) (k:=k') (cs:=c::M) (w:=W) (rest:=rest) a5 (a1.wanted c6);have c2:=hn ((bB t []).put o.dst v).tmps W (by have:=a1.put b5 v [];simpa only[kW,hc]using this) hm b ({c with mode:=.panicking ({v,recovered:=true}::V)}::M) b4 a4 a2 _ M rfl rfl;obtain⟨en,O,w',fr,a9,b1,b3⟩:=c2;have a3:gA P (lone (rt b ⟨((bB t []).put o.dst v).tmps,[]⟩ (.inRegion ops rest::k')) _ W) (lone fr ({c with mode:=O}::M) w') en:=b1;rw[qh a2]at a3;have a8:=tryRecover_deferred (fr:=b.at ⟨t,[]⟩ (.inRegion ops (i::rest)::k')) a4 (c::M);have c4:recoverD (c::M)=some (v,{c with mode:=.panicking ({v,recovered:=true}::V)}::M):=by
  simp[recoverD,c5]
 refine⟨en,O,w',fr,a9,dO (.one (step_lone_go ?_)) a3,b3⟩;have b6:(b.at ⟨t,[]⟩ (.inRegion ops (i::rest)::k')).finish v=b.at ⟨((bB t []).put o.dst v).tmps,[]⟩ (.inRegion ops rest::k'):=by
  rw[gU,a5];show b.at ((bB t []).put o.dst v) _=_;rw[rS]
 show fG (stepG P true {frame:=b.at ⟨t,[]⟩ (.inRegion ops (i::rest)::k'),callers:=c::M,status:=.running,dying:=none} W)=ik {frame:=b.at ⟨((bB t []).put o.dst v).tmps,[]⟩ (.inRegion ops rest::k'),callers:=_,status:=.running,dying:=none} W;rw[b7,←b6];simp only[Frame.at]at a8 ⊢;simp[dE,a7,a8,c4]
theorem kO.Zd {R:bJ→cZ→aj→Prop}(hc:cur nt k e=some (lq nt k e))(a5:∀W,(execOp (kV e) (lq nt k e)).run P W=.ok .recover W)
  (hn:kO P f nt (kZ k) (kX e (kW nt k e) .nilIface) L S w0 (wb .returning R)):
  kO P f nt k e L S w0 (wb .returning R):=by
 intro t W V hm b cs b4 a3 a1 c M hcs a8;subst hcs;show∃e O w' fr,R e O w'∧gA P (lone (rt b ⟨t,[]⟩ k) (c::M) W) (lone fr ({c with mode:=O}::M) w') e∧fr.kind=.deferred∧fr.going P w' e;rw[qh a1];generalize lq nt k e=o at hc a5;obtain⟨ops,i,rest,k',rfl,a4,c5,b9,c3,b5⟩:=pG hc;have a6:=a5 W;rw[←execOp_congr (bB t []).eval (kV e) o c3 (V.kV b9 [])]at a6;have b7:=stepG_op (P:=P) (b:=b) (a:=⟨t,[]⟩) (k:=k') (cs:=c::M) (w:=W) (rest:=rest) a4 (V.wanted c5);have c2:=hn ((bB t []).put o.dst .nilIface).tmps W (by have:=V.put b5 .nilIface [];simpa only[kW,hc]using this) hm b (c::M) b4 a3 a1 c M rfl a8;obtain⟨en,O,w',fr,a9,b1,b3⟩:=c2;have a2:gA P (lone (rt b ⟨((bB t []).put o.dst .nilIface).tmps,[]⟩ (.inRegion ops rest::k')) _ W) (lone fr ({c with mode:=O}::M) w') en:=b1;rw[qh a1]at a2;have a7:=tryRecover_deferred (fr:=b.at ⟨t,[]⟩ (.inRegion ops (i::rest)::k')) a3 (c::M);have c4:recoverD (c::M)=none:=by simp[recoverD,a8]
 refine⟨en,O,w',fr,a9,dO (.one (step_lone_go ?_)) a2,b3⟩;have b6:(b.at ⟨t,[]⟩ (.inRegion ops (i::rest)::k')).finish .nilIface=b.at ⟨((bB t []).put o.dst .nilIface).tmps,[]⟩ (.inRegion ops rest::k'):=by
  rw[gU,a4];show b.at ((bB t []).put o.dst .nilIface) _=_;rw[rS]
 show fG (stepG P true {frame:=b.at ⟨t,[]⟩ (.inRegion ops (i::rest)::k'),callers:=c::M,status:=.running,dying:=none} W)=ik {frame:=b.at ⟨((bB t []).put o.dst .nilIface).tmps,[]⟩ (.inRegion ops rest::k'),callers:=_,status:=.running,dying:=none} W;rw[b7,←b6];simp only[Frame.at]at a7 ⊢;simp[dE,a6,a7,c4]
end
section
variable {P:Program}{f nt:Nat}{L L0:aX}{S:List Nat}{w0:World}{ops:Array Oper}
def oM (i:Nat):List Nat→Bool
 |[]=>false
 |j::r=>bif cB i j then true else oM i r
theorem wO {i:Nat}:∀{l:List Nat},oM i l=true→i∈l
 |j::r,h=>by
  simp only[oM]at h;cases hb:cB i j with
  |true=>rw[aP hb];exact .head _
  |false=>rw[hb]at h;exact .tail _ (wO h)
theorem Ep {i:Nat}:∀{l:List Nat},oM i l=false→i∉l
 |[],_=>by simp
 | j::r,h=>by
  simp only[oM]at h;cases hb:cB i j with
  |true=>rw[hb]at h;cases h
  |false=>
   rw[hb]at h;intro hm;cases hm with
   |head=>simp at hb
   |tail _ hm=>exact Ep h hm
def tf (p:Nat→Bool):Nat→Bool
 |0=>true
 |n+1=>bif p n then tf p n else false
theorem rQ {p:Nat→Bool}:∀{n:Nat},tf p n=true→∀i,i<n→p i=true
 | n+1,h,i,hi=>by
  simp only[tf]at h;cases hp:p n with
  |false=>rw[hp]at h;cases h
  |true=>
   rw[hp]at h
   by_cases hc:i=n
   ·subst hc;exact hp
   ·exact rQ h i (by omega)
def BH (p:Nat→Bool):Nat→Bool
 |0=>false
 |n+1=>bif p n then true else BH p n
theorem Of {p:Nat→Bool}:∀{n:Nat},BH p n=true→∃i,i<n∧p i=true
 |n+1,h=>by
  simp only[BH]at h;cases hp:p n with
  |true=>exact⟨n,by omega,hp⟩
  |false=>rw[hp]at h;obtain⟨i,hi,h⟩:=Of h;exact⟨i,by omega,h⟩
def Ba (p:Nat→Bool):List Nat→Bool
 |[]=>false
 |i::r=>bif p i then true else Ba p r
theorem Mr {p:Nat→Bool}:∀{l:List Nat},Ba p l=true→∃i∈l,p i=true
 |i::r,h=>by
  simp only[Ba]at h;cases hp:p i with
  |true=>exact⟨i,.head _,hp⟩
  |false=>rw[hp]at h;obtain⟨j,M,h⟩:=Mr h;exact⟨j,.tail _ M,h⟩
def xg (p:Nat→Bool):List Nat→Bool
 |[]=>true
 |i::r=>bif p i then xg p r else false
theorem Ci {p:Nat→Bool}:∀{l:List Nat},xg p l=true→∀i∈l,p i=true
 | j::r,h,i,hi=>by
  simp only[xg]at h;cases hp:p j with
  |false=>rw[hp]at h;cases h
  |true=>
   rw[hp]at h;cases hi with
   |head=>exact hp
   |tail _ hi=>exact Ci h i hi
def vv:List Edge→List Nat
 |[]=>[]
 |e::r=>bif ed .any e then e.on::vv r else vv r
def oJ (ops:Array cW)(i:Nat):List Nat:=match ops[i]? with|some o=>vv o.after.toList|none=>[]
theorem Ag:∀{l:List Edge} {e:Edge},e∈l→ed .any e=true→e.on∈vv l
 | a::r,e,h,hb=>by
  simp only[vv];cases h with
  |head=>rw[hb];exact .head _
  |tail _ h=>
   cases ed .any a with
   |true=>exact .tail _ (Ag h hb)
   |false=>exact Ag h hb
theorem xG:∀{l:List Edge} {j:Nat},j∈vv l→∃e∈l,ed .any e=true∧e.on=j
 | a::r,j,h=>by
  simp only[vv]at h;cases hb:ed .any a with
  |true=>
   rw[hb]at h;cases h with
   |head=>exact⟨a,.head _,hb,rfl⟩
   |tail _ h=>obtain⟨e,V,M,O⟩:=xG h;exact⟨e,.tail _ V,M,O⟩
  |false=>rw[hb]at h;obtain⟨e,V,M,O⟩:=xG h;exact⟨e,.tail _ V,M,O⟩
def mu (ops:Array cW)(i:Nat):Option Tmp:=match ops[i]? with|some o=>o.dst|none=>none
def tmpsOf:List eP→List Nat
 |[]=>[]
 | .tmp t::r=>t::tmpsOf r
 |_::r=>tmpsOf r
theorem zf {t:Nat}:∀{l:List eP},Operand.tmp t∈l→t∈tmpsOf l
 | .tmp u::r,h=>by
  simp only[tmpsOf];cases h with
  |head=>exact .head _
  |tail _ h=>exact .tail _ (zf h)
 | .const _::r,h=>by cases h with|tail _ h=>exact zf (l:=r) h
 | .global _::r,h=>by cases h with|tail _ h=>exact zf (l:=r) h
 | .func _::r,h=>by cases h with|tail _ h=>exact zf (l:=r) h
def slotsOf (ops:Array cW)(o:cW):List Nat:=
 (match o.guard with
  |some (j,_)=>match mu ops j with|some d=>[d]|none=>[]
  |none=>[])++tmpsOf o.op.operands.toList
def Cb (ops:Array cW)(i:Nat):List Nat:=match ops[i]? with|some o=>slotsOf ops o|none=>[]
def On (ops:Array cW)(o:cW)(e:Env)(t:Array aa):Prop:=∀s∈slotsOf ops o,∀v,get? e s=some v→t[s]?=some v
theorem On.kV {o:cW}{e:Env}{t:Array aa}(h:On ops o e t)(V:known e o.op=true)(ds:List eY):∀x∈o.op.operands.toList,(bB t ds).eval x=kV e x:=by
 intro x O;have:=Dw _ V (Eng.ev e x) (bV.2 ⟨x,O,rfl⟩);obtain⟨v,M⟩:=aJ.1 this;rw[Eng.kV,M];cases x with
 |tmp i=>
  have:=h i (ak _ (zf O)) v M;simp[Act.eval,bo,this]
 |const u=>simp only[Eng.ev,al]at M;exact M
 |global g=>simp only[Eng.ev,al]at M;exact M
 |func f=>simp only[Eng.ev,al]at M;exact M
theorem On.wanted {o:cW}{e:Env}{t:Array aa}(h:On ops o e t){b:Bool}(M:pK ops e o=some b):cH o (yielded ops t)=b:=by
 unfold pK at M;unfold cH;split at M
 ·next hg=>rw[hg];simpa using M
 ·next j want hg=>
  rw[hg];simp only;unfold yielded;split at M
  ·next ho=>rw[ho];simp at M;subst M;rfl
  ·next oj ho=>
   rw[ho];simp only[eM];split at M
   ·next hd=>rw[hd];simp at M;subst M;rfl
   ·next d hd=>
    rw[hd];simp only[eM];have O:d∈slotsOf ops o:=by simp[slotsOf,hg,mu,ho,hd]
    split at M
    ·next b' hget=>
     rw[h d O _ hget];cases b'<;>cases want<;>simp at M<;>subst M<;>rfl
    ·next vs hget=>
     rw[h d O _ hget];simp at M;subst M;rfl
    ·cases M
def ug (P:aB)(nt:Nat)(ops:Array cW)(L:aX)(S:List Nat)(w0:aj)(i:Nat)(e:Env)(v:aa):Prop:=
  ∃ o,ops[i]?=some o∧pD nt o.dst=true∧
    ((pK ops e o=some true∧known e o.op=true∧tq o.op=true∧
        ∀W,Mem L S w0 W→(execOp (kV e) o).run P W=.ok (.value v) W∨∃g args,(execOp (kV e) o).run P W=.ok (.enter g args) W∧aE P g args W fun en W'=>en=.returned v∧Below W.heap.size W W')∨
     (pK ops e o=some false∧v=undef))
def qk (a b:Env):Prop:=∀s,get? a s=get? b s
theorem qk.put {a b:Env}(h:qk a b)(d:Option Tmp)(v:aa):qk (kX a d v) (kX b d v):=by
 cases d with
 |none=>exact h
 |some d=>intro s;simp only[kX,get?,h s]
theorem qk.ev {a b:Env}(h:qk a b)(x:eP):ev a x=ev b x:=by cases x<;>simp[Eng.ev,h _]
theorem qk.kV {a b:Env}(h:qk a b):kV a=kV b:=by funext x;simp only[Eng.kV,h.ev x]
theorem qk.known {a b:Env}(h:qk a b)(o:Op):known a o=known b o:=by
 simp only[Eng.known];congr 1;exact List.map_congr_left fun x _=>h.ev x
theorem qk.wanted {a b:Env}(h:qk a b)(o:cW):pK ops a o=pK ops b o:=by
 unfold pK;split<;>try rfl
 split<;>try rfl
 split<;>try rfl
 rw[h _]
theorem ug.ext {i:Nat}{a b:Env}{v:aa}(h:ug P nt ops L S w0 i a v)(M:qk a b):ug P nt ops L S w0 i b v:=by
 obtain⟨o,O,V,a1⟩:=h;refine⟨o,O,V,?_⟩;rw[←M.wanted o,←M.known,←M.kV];exact a1
def pa (P:aB)(nt:Nat)(ops:Array cW)(L:aX)(S:List Nat)(w0:aj)(val:Nat→aa):List Nat→Env→(Env→Prop)→Prop
 |[],e,K=>K e
 |i::r,e,K=>ug P nt ops L S w0 i e (val i)∧pa P nt ops L S w0 val r (kX e (mu ops i) (val i)) K
theorem pa.ext {val:Nat→aa}{K:Env→Prop}(M:∀a b,qk a b→K a→K b):∀{F:List Nat} {a b:Env},qk a b→pa P nt ops L S w0 val F a K→pa P nt ops L S w0 val F b K
 |[],_,_,hx,h=>M _ _ hx h
 |i::r,_,_,hx,h=>⟨h.1.ext hx,pa.ext M (hx.put _ _) h.2⟩
theorem pa.congr {val M:Nat→aa}{K:Env→Prop}:∀{F:List Nat} {e:Env},(∀j∈F,val j=M j)→pa P nt ops L S w0 val F e K→pa P nt ops L S w0 M F e K
 |[],_,_,h=>h
 |i::r,e,hv,h=>by
  have hi:=hv i (.head _);refine⟨hi▸h.1,?_⟩;rw[←hi];exact pa.congr (fun j O=>hv j (.tail _ O)) h.2
def u2 (ops:Array cW)(val:Nat→aa)(F:List Nat)(e e':Env):Prop:=∀s v,get? e' s=some v→get? e s=some v∨∃j∈F,mu ops j=some s∧val j=v
theorem u2.put {val:Nat→aa}{F:List Nat}{e e':Env}(h:u2 ops val F e e'){i:Nat}(hi:i∈F):u2 ops val F e (kX e' (mu ops i) (val i)):=by
 intro s v M;cases hd:mu ops i with
 |none=>rw[hd]at M;exact h s v M
 | some d=>
  rw[hd]at M;simp only[kX,get?]at M;cases hb:cB d s with
  |true=>
   rw[hb]at M;simp only[cond_true,al]at M;exact .inr ⟨i,hi,by rw[hd,aP hb],M⟩
  |false=>rw[hb]at M;exact h s v M
theorem pa.get {val:Nat→aa}{K:Env→Prop}{F0:List Nat}{e0:Env}:∀{F:List Nat} {e:Env},(∀i∈F,i∈F0)→u2 ops val F0 e0 e→pa P nt ops L S w0 val F e K→
  (∀i∈F,∃e',ug P nt ops L S w0 i e' (val i)∧u2 ops val F0 e0 e')∧∃e',K e'∧u2 ops val F0 e0 e'
 |[],e,_,hs,h=>⟨fun i hi=>(by cases hi),e,h,hs⟩
 |i::r,e,hF,hs,h=>by
  obtain⟨O,V⟩:=pa.get (fun j M=>hF j (.tail _ M)) (hs.put (hF i (.head _))) h.2;refine⟨fun j M=>?_,V⟩;cases M with
  |head=>exact⟨e,h.1,hs⟩
  |tail _ M=>exact O j M
def ly (P:aB)(nt:Nat)(k:List bA)(e:Env)(L:aX)(S:List Nat)(w0:aj)(K:Env→Prop):Prop:=
 ∀ops F,k=[.inRegion ops F]→F.Nodup→∃val,pa P nt ops L S w0 val F e fun e'=>∃eF,(∀s v,get? eF s=some v→get? e' s=some v)∧K eF
variable {k:List Item}{e:Env}{K:Env→Prop}
def Cj:List bA→Bool
 |[.inRegion _ []]=>true
 |_=>false
theorem ly.done (h:Cj k=true)(hn:K e):ly P nt k e L S w0 K:=by
 intro O F M _;rw[M]at h;unfold Cj at h;split at h
 ·next hh=>
  simp only[bM,bQ,and_true]at hh;obtain⟨_,rfl⟩:=hh;exact⟨fun _=>undef,e,fun _ _ h=>h,hn⟩
 ·cases h
theorem ly.push {i:Nat}{v:aa}(h:get? e i=some v)(hn:ly P nt k ((i,v)::e) L S w0 K):ly P nt k e L S w0 K:=by
 intro ops F a3 a1;obtain⟨val,a2⟩:=hn ops F a3 a1;refine⟨val,pa.ext ?_ (fun s=>?_) a2⟩
 ·rintro a b a5 ⟨M,O,V⟩
  exact⟨M,fun s v a4=>by rw[←a5 s];exact O s v a4,V⟩
 ·simp only[get?]
  cases hb:cB i s with
  |true=>rw[←aP hb,h];rfl
  |false=>rfl
theorem ly.yS {o:cW}{v:aa}(hc:cur nt k e=some o)
  (b1:∀W,Mem L S w0 W→(execOp (kV e) o).run P W=.ok (.value v) W∨∃g args,(execOp (kV e) o).run P W=.ok (.enter g args) W∧aE P g args W fun en a2=>en=.returned v∧Below W.heap.size W a2)
  (hn:ly P nt (kZ k) (kX e (kW nt k e) v) L S w0 K):ly P nt k e L S w0 K:=by
 intro ops F V O;obtain⟨M,i,rest,k',rfl,a1,b3,a8,hp,a4⟩:=pG hc;simp only[bM,bQ]at V;obtain⟨⟨rfl,rfl⟩,rfl⟩:=V;have a3:kW nt (.inRegion M (i::rest)::[]) e=o.dst:=by simp only[kW,hc]
 rw[a3]at hn;obtain⟨val,a6⟩:=hn M rest rfl (cM.1 O).2;have a9:=(cM.1 O).1;have a5:mu M i=o.dst:=by simp only[mu,a1]
 refine⟨fun j=>if j=i then v else val j,?_,?_⟩
 ·show ug P nt M L S w0 i e (if i=i then v else val i)
  rw[if_pos rfl];exact⟨o,a1,a4,.inl ⟨b3,a8,hp,b1⟩⟩
 ·simp only[if_true,a5]
  exact pa.congr (fun j a7=>by rw[if_neg (fun h:j=i=>a9 (h▸a7))]) a6
theorem ly.ow {o:cW}{v:aa}(hc:cur nt k e=some o)(M:∀W,Mem L S w0 W→(execOp (kV e) o).run P W=.ok (.value v) W)
  (hn:ly P nt (kZ k) (kX e (kW nt k e) v) L S w0 K):ly P nt k e L S w0 K:=
 ly.yS hc (fun W hm=>.inl (M W hm)) hn
theorem OpV.F {v:aa}(h:OpV P nt k e L S w0 v)(hn:ly P nt (kZ k) (kX e (kW nt k e) v) L S w0 K):ly P nt k e L S w0 K:=let ⟨_,h1,h2⟩:=h;ly.ow h1 h2 hn
theorem ly.pure (hc:cur nt k e=some (lq nt k e))(h:∀W,(execOp (kV e) (lq nt k e)).run P W=.ok (.value (vQ P nt k e)) W)
  (hn:ly P nt (kZ k) (kX e (kW nt k e) (vQ P nt k e)) L S w0 K):ly P nt k e L S w0 K:=
 ly.ow hc (fun W _=>h W) hn
theorem ly.skip (h:ry nt k e=some (oA nt k e))(hn:ly P nt (kZ k) (kX e (oA nt k e) undef) L S w0 K):ly P nt k e L S w0 K:=by
 intro ops F O M;generalize oA nt k e=d at h hn;unfold ry at h;split at h
 ·next ops' i rest k'=>
  simp only[bM,bQ]at O;obtain⟨⟨rfl,rfl⟩,rfl⟩:=O;split at h
  ·next o ho=>
   split at h
   ·next hw=>
    cases hd:pD nt o.dst with
    |false=>simp[hd]at h
    | true=>
     simp only[hd,cond_true,al]at h;subst h;obtain⟨val,a1⟩:=hn ops' rest rfl (cM.1 M).2;have a3:=(cM.1 M).1;have V:mu ops' i=o.dst:=by simp only[mu,ho]
     refine⟨fun j=>if j=i then undef else val j,?_,?_⟩
     ·show ug P nt ops' L S w0 i e (if i=i then undef else val i)
      rw[if_pos rfl];exact⟨o,ho,hd,.inr ⟨hw,rfl⟩⟩
     ·simp only[if_true,V]
      exact pa.congr (fun j a2=>by rw[if_neg (fun h:j=i=>a3 (h▸a2))]) a1
   ·cases h
  ·cases h
 ·cases h
def m3 (P:aB)(g:bO)(args:Array aa)(L:aX)(S:List Nat)(w0:aj)(v:aa):Prop:=∀W,Mem L S w0 W→aE P g args W fun en W'=>en=.returned v∧Below W.heap.size W W'
theorem m3.of {g:bO}{args:Array aa}{v:aa}(h:l9 P g args v):m3 P g args L S w0 v:=fun W _=>h W
theorem ly.call (g:bO)(args:Array aa){v:aa}{L1:aX}(M:∀W,(execOp (kV e) (lq nt k e)).run P W=.ok (.enter g args) W)(hc:(cur nt k e,L)=(some (lq nt k e),L1))(h:m3 P g args L1 S w0 v)
  (hn:ly P nt (kZ k) (kX e (kW nt k e) v) L1 S w0 K):ly P nt k e L S w0 K:=by
 simp only[af]at hc;obtain⟨hc,rfl⟩:=hc;exact ly.yS hc (fun W hm=>.inr ⟨g,args,M W,h W hm⟩) hn
def XM (P :aB)(nt:Nat)(ops:Array cW)(L:aX)(S:List Nat)(w0:aj)(m:Nat)(E:Env)(K:aa→aX→Prop):Prop:=
  ∃ o,ops[m]?=some o∧pD nt o.dst=true∧
    ((pK ops E o=some true∧known E o.op=true∧tq o.op=true∧
        ∀ W,Mem L S w0 W→(∃v L' W',(execOp (kV E) o).run P W=.ok (.value v) W'∧Mem L' S w0 W'∧K v L')∨
          (∃L' W',(execOp (kV E) o).run P W=.ok .skip W'∧Mem L' S w0 W'∧K undef L')∨
          ∃g args,(execOp (kV E) o).run P W=.ok (.enter g args) W∧aE P g args W fun en W'=>∃v L',en=.returned v∧Mem L' S w0 W'∧K v L')∨
     (pK ops E o=some false∧K undef L))
def py (n s:Nat):Array Bool:=⟨aA n true++aA (s-n) false⟩
def m8 (P:aB)(f nt:Nat)(ops:Array cW)(n:Nat)(kk:List bA)(e:Env)(L:aX)(S:List Nat)(w0:aj)(R:Goal P):Prop:=
 ∀t,kO P f nt (.inRegion ops (bN .any ops (ops.size-n) t (py n ops.size) [])::kk) e L S w0 R
def Dv (P:aB)(f nt:Nat)(ops:Array cW)(n:Nat)(kk:List bA)(L0:aX)(S:List Nat)(w0:aj)(R:Goal P):List Nat→Env→aX→Prop
 |[],E,L=>(∃L1,L=L0++L1)∧m8 P f nt ops n kk E L S w0 R
 |m::r,E,L=>(∃L1,L=L0++L1)∧XM P nt ops L S w0 m E fun v L'=>Dv P f nt ops n kk L0 S w0 R r (kX E (mu ops m) v) L'
def lZ (P:aB)(f nt:Nat)(ops:Array cW)(n:Nat)(kk:List bA)(L0:aX)(k:List bA)(e:Env)(L:aX)(S:List Nat)(w0:aj)(R:Goal P):Prop:=
 ∀M,k=[.inRegion ops M]→Dv P f nt ops n kk L0 S w0 R M e L
variable {n:Nat}{kk:List Item}{R:Goal P}
theorem lZ.done (L1:aX)(h:k=[.inRegion ops []])(O:L=L0++L1)(hn:m8 P f nt ops n kk e L S w0 R):lZ P f nt ops n kk L0 k e L S w0 R:=by
 intro V M;rw[h]at M;simp only[bM,bQ,true_and,and_true]at M;subst M;exact⟨⟨L1,O⟩,hn⟩
theorem lZ.skip (L1:aX)(h:ry nt k e=some (oA nt k e))(V:L=L0++L1)(hn:lZ P f nt ops n kk L0 (kZ k) (kX e (oA nt k e) undef) L S w0 R):lZ P f nt ops n kk L0 k e L S w0 R:=by
 intro a1 M;generalize oA nt k e=d at h hn;unfold ry at h;split at h
 ·next ops' i rest k'=>
  simp only[bM,bQ]at M;obtain⟨⟨rfl,rfl⟩,rfl⟩:=M;split at h
  ·next o ho=>
   split at h
   ·next hw=>
    cases hd:pD nt o.dst with
    |false=>simp[hd]at h
    |true=>
     simp only[hd,cond_true,al]at h;subst h;have O:mu ops' i=o.dst:=by simp only[mu,ho]
     refine⟨⟨L1,V⟩,o,ho,hd,.inr ⟨hw,?_⟩⟩;rw[O];exact hn rest rfl
   ·cases h
  ·cases h
 ·cases h
theorem lZ.new (L1:aX)(M:Nat→aa)(o:Obj)(a5:L=L0++L1)(h:∀W,(execOp (kV e) (lq nt k e)).run P W=.ok (.value (M W.heap.size)) {W with heap:=W.heap.push o})(hc:cur nt k e=some (lq nt k e))
  (hn:∀B,lZ P f nt ops n kk L0 (kZ k) (kX e (kW nt k e) (M B)) (L++[(B,o)]) S w0 R):lZ P f nt ops n kk L0 k e L S w0 R:=by
 intro a8 O;have a1:kW nt k e=(lq nt k e).dst:=by simp only[kW,hc]
 rw[a1]at hn;generalize lq nt k e=o' at h hc hn;obtain⟨a7,i,rest,k',rfl,V,a6,a4,hp,a2⟩:=pG hc;simp only[bM,bQ]at O;obtain⟨⟨rfl,rfl⟩,rfl⟩:=O;have a3:mu a7 i=o'.dst:=by simp only[mu,V]
 refine⟨⟨L1,a5⟩,o',V,a2,.inl ⟨a6,a4,hp,fun W hm=>.inl ⟨M W.heap.size,_,_,h W,hm.alloc o,?_⟩⟩⟩;rw[a3];exact hn W.heap.size rest rfl
theorem lZ.call (L1:aX)(g:bO)(args:Array aa){M:aX}{K:aa→aX→Prop}(a9:L=L0++L1)(a1:∀W,(execOp (kV e) (lq nt k e)).run P W=.ok (.enter g args) W)
  (hc:(cur nt k e,L)=(some (lq nt k e),M))(h:eA P g args M S w0 K)
  (hn:∀v L',K v L'→lZ P f nt ops n kk L0 (kZ k) (kX e (kW nt k e) v) L' S w0 R):lZ P f nt ops n kk L0 k e L S w0 R:=by
 intro b5 O;simp only[af]at hc;obtain⟨hc,rfl⟩:=hc;have a3:kW nt k e=(lq nt k e).dst:=by simp only[kW,hc]
 rw[a3]at hn;generalize lq nt k e=o' at a1 hc hn;obtain⟨b4,i,rest,k',rfl,V,b3,a8,hp,a4⟩:=pG hc;simp only[bM,bQ]at O;obtain⟨⟨rfl,rfl⟩,rfl⟩:=O;have a5:mu b4 i=o'.dst:=by simp only[mu,V]
 refine⟨⟨L1,a9⟩,o',V,a4,.inl ⟨b3,a8,hp,fun W hm=>.inr (.inr ⟨g,args,a1 W,(h W hm).mono fun en b6 a7=>?_⟩)⟩⟩;obtain⟨v,L',a6,b1,a2⟩:=a7;refine⟨v,L',a6,b1,?_⟩;rw[a5];exact hn v L' a2 rest rfl
theorem lZ.yE (L1:aX){o':cW}{L':aX}(a7:L=L0++L1)(hc:cur nt k e=some o')(a8:∀W,Mem L S w0 W→∃M,(execOp (kV e) o').run P W=.ok .skip M∧Mem L' S w0 M)
  (hn:lZ P f nt ops n kk L0 (kZ k) (kX e (kW nt k e) undef) L' S w0 R):lZ P f nt ops n kk L0 k e L S w0 R:=by
 intro b3 O;have a3:kW nt k e=o'.dst:=by simp only[kW,hc]
 rw[a3]at hn;obtain⟨b1,i,rest,k',rfl,V,a9,a6,hp,a4⟩:=pG hc;simp only[bM,bQ]at O;obtain⟨⟨rfl,rfl⟩,rfl⟩:=O;have a5:mu b1 i=o'.dst:=by simp only[mu,V]
 refine⟨⟨L1,a7⟩,o',V,a4,.inl ⟨a9,a6,hp,fun W hm=>.inr (.inl ?_)⟩⟩;obtain⟨M,a1,a2⟩:=a8 W hm;refine⟨L',M,a1,a2,?_⟩;rw[a5];exact hn rest rfl
theorem lZ.CA (L1:aX){o':cW}(a9:L=L0++L1)(hc:cur nt k e=some o')
  (a1:∀W,Mem L S w0 W→∃v L' M,(execOp (kV e) o').run P W=.ok (.value v) M∧Mem L' S w0 M∧lZ P f nt ops n kk L0 (kZ k) (kX e (kW nt k e) v) L' S w0 R):lZ P f nt ops n kk L0 k e L S w0 R:=by
 intro b4 O;have a5:kW nt k e=o'.dst:=by simp only[kW,hc]
 rw[a5]at a1;obtain⟨b3,i,rest,k',rfl,V,b1,a8,hp,a6⟩:=pG hc;simp only[bM,bQ]at O;obtain⟨⟨rfl,rfl⟩,rfl⟩:=O;have a7:mu b3 i=o'.dst:=by simp only[mu,V]
 refine⟨⟨L1,a9⟩,o',V,a6,.inl ⟨b1,a8,hp,fun W hm=>.inl ?_⟩⟩;obtain⟨v,L',M,a2,a3,a4⟩:=a1 W hm;refine⟨v,L',M,a2,a3,?_⟩;rw[a7];exact a4 rest rfl
def HF (ops:Array cW)(j:Nat)(l:List Nat):Bool:=match mu ops j with|some d=>oM d l|none=>false
def IK (ops:Array cW)(i j:Nat):Bool:=match mu ops i with
 |some d=>match mu ops j with|some d'=>cB d d'|none=>false
 |none=>false
def Cl (a b:Bool):Bool:=bif a then b else true
def sa (ops:Array cW):List Nat→Bool
 |[]=>true
 |[_]=>true
 |a::b::r=>bif oM a (oJ ops b)then sa ops (b::r)else false
def yC:List Nat→Bool
 |[]=>true
 |a::r=>bif oM a r then false else yC r
def Jt (e:Env)(o:Option Tmp):Bool:=match o with|some d=>(match get? e d with|some _=>false|none=>true)|none=>true
def Vt (ops:Array cW)(n:Nat):Bool:=tf (fun t=>bif cC t n then true else Ba (fun s=>cC n s) (oJ ops t)) ops.size
def yD (ops:Array cW)(n1 n:Nat)(e:Env)(F M:List Nat):Bool:=
 cC n1 n&&(cC n ops.size&&((cB n ops.size||(tf (fun i=>bif eZ i n1 then true else BH (fun j=>bif eZ i j then oM i (oJ ops j)else false) (n+1)) n&&Vt ops n))&&
  (tf (fun i=>bif eZ i n1 then true else bif oM i F then !oM i M else oM i M) n&&(yC F&&(yC M&&(xg (fun i=>cC n1 i&&eZ i n) F&&(xg (fun i=>cC n1 i&&eZ i n) M&&
  (tf (fun i=>xg (fun j=>eZ j i) (oJ ops i)) n&&(tf (fun i=>bif eZ i n1 then true else Jt e (mu ops i)) n&&(sa ops M&&
  tf (fun i=>bif eZ i n1 then true else tf (fun j=>bif eZ j n1 then true else Cl (HF ops j (Cb ops i)) (oM j (oJ ops i))&&Cl (IK ops i j) (cB i j)) n) n))))))))))
theorem Dt:∀{l:List Nat},yC l=true→l.Nodup
 |[],_=>by simp
 |a::r,h=>by
  simp only[yC]at h;cases hb:oM a r with
  |true=>rw[hb]at h;cases h
  |false=>rw[hb]at h;exact cM.2 ⟨Ep hb,Dt h⟩
theorem Ec {i:Nat}{l:List Nat}(h:i∈l):oM i l=true:=by
 cases hb:oM i l with
 |true=>rfl
 |false=>exact absurd h (Ep hb)
structure vu (ops:Array cW)(n1 n:Nat)(e:Env)(F M:List Nat):Prop where
 le1:n1≤n
 le:n≤ops.size
 sink:n<ops.size→(∀i,n1≤i→i<n→∃j,i<j∧j≤n∧i∈oJ ops j)∧∀t,n<t→t<ops.size→∃s∈oJ ops t,n≤s
 cover:∀i,n1≤i→i<n→i∈F∨i∈M
 apart:∀i∈F,i∉M
 nodF:F.Nodup
 nodM:M.Nodup
 inF:∀i∈F,n1≤i∧i<n
 inM:∀i∈M,n1≤i∧i<n
 back:∀i,i<n→∀j∈oJ ops i,j<i
 fresh:∀i,n1≤i→i<n→∀d,mu ops i=some d→get? e d=none
 chain:sa ops M=true
 reads:∀i,n1≤i→i<n→∀j,n1≤j→j<n→∀d,mu ops j=some d→d∈Cb ops i→j∈oJ ops i
 dst:∀i,n1≤i→i<n→∀j,n1≤j→j<n→∀d,mu ops i=some d→mu ops j=some d→i=j
theorem uv {a b:Nat}(h:b≤a):eZ a b=false:=by
 cases hb:eZ a b with
 |false=>rfl
 |true=>simp only[gD]at hb;omega
theorem vu.of {n1:Nat}{F a3:List Nat}(h:yD ops n1 n e F a3=true):vu ops n1 n e F a3:=by
 simp only[yD,av,iy]at h;obtain⟨a9,b5,a1,a8,b6,b7,b9,c2,b1,b3,b4,a7⟩:=h;have a4:∀i∈F,n1≤i∧i<n:=fun i hi=>by
  have:=Ci b9 i hi;simp only[av,gD]at this;exact⟨bl this.1,this.2⟩
 have c3:∀i∈a3,n1≤i∧i<n:=fun i hi=>by
  have:=Ci c2 i hi;simp only[av,gD]at this;exact⟨bl this.1,this.2⟩
 refine⟨bl a9,bl b5,fun c7=>?_,fun i O hi=>?_,fun i hi hm=>?_,Dt b6,Dt b7,a4,c3,fun i hi j V=>?_,fun i O hi d a2=>?_,b4,fun i O hi j a5 V d a2 a6=>?_,fun i O hi j a5 V d a2 c5=>?_⟩
 ·rcases a1 with a1|⟨a1,h4⟩
  ·have:=aP a1;omega
  ·refine⟨fun i O hi=>?_,fun t c8 c6=>?_⟩
   ·have:=rQ a1 i hi
    simp only[uv O,cond_false]at this;obtain⟨j,V,M⟩:=Of this;cases hc:eZ i j with
    |false=>rw[hc]at M;cases M
    |true=>
     rw[hc]at M;simp only[gD]at hc;exact⟨j,hc,by omega,wO M⟩
   ·have:=rQ h4 t c6
    have hn:cC t n=false:=by
     cases M:cC t n with
     |false=>rfl
     |true=>have:=bl M;omega
    rw[hn]at this;obtain⟨s,a6,M⟩:=Mr this;exact⟨s,a6,bl M⟩
 ·have:=rQ a8 i hi
  simp only[uv O,cond_false]at this;cases M:oM i F with
  |true=>exact .inl (wO M)
  |false=>rw[M]at this;exact .inr (wO this)
 ·have:=rQ a8 i (a4 i hi).2
  simp only[uv (a4 i hi).1,cond_false,Ec hi,Ec hm]at this;cases this
 ·have:=Ci (rQ b1 i hi) j V
  simpa[gD]using this
 ·have:=rQ b3 i hi
  simp only[uv O,cond_false,a2,Jt]at this;cases hg:get? e d with
  |none=>rfl
  |some u=>rw[hg]at this;cases this
 ·have:=rQ a7 i hi
  simp only[uv O,cond_false]at this;have:=rQ this j V;simp only[uv a5,cond_false,av,HF,a2,Ec a6,Cl,cond_true]at this;exact wO this.1
 ·have:=rQ a7 i hi
  simp only[uv O,cond_false]at this;have:=rQ this j V;have c4:cB d d=true:=by simp
  simp only[uv a5,cond_false,av,IK,a2,c5,c4,Cl,cond_true]at this;exact aP this.2
theorem vu.waits {n1:Nat}{F b1:List Nat}(hp:vu ops n1 n e F b1)(b6:n<ops.size){listed:Array Bool}(a4:jh .any ops n listed)(b5:∀j,j<n1→listed.getD j false=true):
  ∀(d i:Nat),n-i=d→i<n→listed.getD i false=false→∀t,n≤t→t∉bE .any ops listed:=by
 obtain⟨b7,hc⟩:=hp.sink b6;intro d;induction d using kF with
 | _ d ih=>
  intro i c5 hi M t c8 a9;have b4:n1≤i:=by
   rcases cy i n1 with h|h
   ·rw[b5 i h]at M;cases M
   ·exact h
  obtain⟨_,c9,a8,b3⟩:=mem_ready.1 a9;have c4:t<ops.size:=(bK.1 a8).1;have a5:∀j∈oJ ops t,listed.getD j false=true:=fun j a6=>by
   simp only[oJ,a8]at a6;obtain⟨O,a2,a1,rfl⟩:=xG a6;exact b3 O (eb.1 a2) a1
  by_cases htn:t=n
  ·subst htn
   obtain⟨j,c6,c7,a3⟩:=b7 i b4 hi
   by_cases hjt:j=t
   ·subst hjt
    rw[a5 i a3]at M;cases M
   ·cases hl:listed.getD j false with
    |true=>
     have a7:j<ops.size:=by omega
     simp only[oJ,cj a7]at a3;obtain⟨O,a2,a1,rfl⟩:=xG a3;rw[a4.closed j _ (cj a7) hl O (eb.1 a2) a1]at M;cases M
    |false=>exact ih (t-j) (by omega) j rfl (by omega) hl t (aD _) a9
  ·obtain⟨s,b9,c2⟩:=hc t (by omega) c4
   have V:=a5 s b9;have c3:s<ops.size:=by
    rcases cy s listed.size with h|h
    ·rw[a4.size]at h;exact h
    ·simp[dQ h]at V
   rw[getD_both (a4.tail s c2 c3)]at V;cases V
theorem Fv {n s j:Nat}:(py n s)[j]?=if j<n then some true else if j<n+(s-n)then some false else none:=by
 simp only[py,List.getElem?_toArray];split
 ·next h=>rw[List.getElem?_append_left (by simpa using h),fE,if_pos h]
 ·next h=>
  rw[List.getElem?_append_right (by simpa using h),fE,List.length_replicate];split
  ·next h'=>rw[if_pos (by omega)]
  ·next h'=>rw[if_neg (by omega)]
theorem BY {n s j:Nat}(h:j<n):(py n s).getD j false=true:=by rw[bo,Fv,if_pos h];rfl
theorem yR {n s j:Nat}(h:n≤j):(py n s).getD j false=false:=by
 rw[bo,Fv,if_neg (by omega)];split<;>rfl
theorem HJ {n s:Nat}(h:n≤s):(py n s).size=s:=by simp[py];omega
theorem Wu (s:Nat):py 0 s=cL s false:=by simp[py,←List.toArray_replicate]
theorem MB {h:Nat}:∀{r:List Nat},sa ops (h::r)=true→∀m∈r,∃p∈h::r,p∈oJ ops m
 | b::r,hc,m,hm=>by
  simp only[sa]at hc;cases hb:oM h (oJ ops b)with
  |false=>rw[hb]at hc;cases hc
  | true=>
   rw[hb]at hc;cases hm with
   |head=>exact⟨h,.head _,wO hb⟩
   |tail _ hm=>
    obtain⟨p,hp,M⟩:=MB (h:=b) hc m hm;exact⟨p,.tail _ hp,M⟩
theorem Rp {h:Nat}:∀{r:List Nat},sa ops (h::r)=true→sa ops r=true
 |[],_=>rfl
 |b::r,hc=>by
  simp only[sa]at hc;cases hb:oM h (oJ ops b)with
  |false=>rw[hb]at hc;cases hc
  |true=>rw[hb]at hc;exact hc
def oW (listed:Array Bool):Nat→Nat
 |0=>0
 |n+1=>oW listed n+bif listed.getD n false then 0 else 1
theorem Nb {listed:Array Bool}{i:Nat}:∀{n:Nat},n≤i→oW (listed.setIfInBounds i true) n=oW listed n
 |0,_=>rfl
 |n+1,h=>by simp only[oW];rw[Nb (by omega),getD_set_ne false (by omega)]
theorem IJ {listed:Array Bool}{i:Nat}(hi:i<listed.size)(M:listed.getD i false=false):∀{n:Nat},i<n→oW listed n=oW (listed.setIfInBounds i true) n+1
 | n+1,h=>by
  simp only[oW]
  by_cases hc:i=n
  ·subst hc
   rw[Nb (aD _),M];have:(listed.setIfInBounds i true).getD i false=true:=by simp[hi]
   rw[this];rfl
  ·rw[IJ hi M (by omega),getD_set_ne false hc];omega
theorem La {listed:Array Bool}:∀{n:Nat},oW listed n=0→∀i,i<n→listed.getD i false=true
 | n+1,h,i,hi=>by
  simp only[oW]at h
  by_cases hc:i=n
  ·subst hc
   cases hb:listed.getD i false with
   |true=>rfl
   |false=>rw[hb]at h;simp at h
  ·exact La (listed:=listed) (n:=n) (by omega) i (by omega)
theorem Fx {listed:Array Bool}:∀{n:Nat},(∀i,i<n→listed.getD i false=true)→oW listed n=0
 |0,_=>rfl
 |n+1,h=>by simp only[oW];rw[Fx fun i hi=>h i (by omega),h n (by omega)];rfl
theorem Kn {n1 s:Nat}:∀{n:Nat},n1≤n→oW (py n1 s) n=n-n1
 |0,_=>by simp[oW]
 | n+1,h=>by
  simp only[oW]
  by_cases hc:n1=n+1
  ·subst hc
   rw[Fx (fun i hi=>BY (by omega)),BY (by omega)];simp
  ·rw[Kn (by omega),yR (by omega)]
   show n-n1+1=n+1-n1;omega
theorem Sr {listed:Array Bool}{n:Nat}(h:oW listed n≠0):∃i,i<n∧listed.getD i false=false∧∀j,j<i→listed.getD j false=true:=by
 have M:∃i,i<n∧listed.getD i false=false:=by
  apply Classical.byContradiction;intro a2;refine h (Fx fun i hi=>?_);cases O:listed.getD i false with
  |true=>rfl
  |false=>exact absurd ⟨i,hi,O⟩ a2
 obtain⟨i,hi,O⟩:=M;induction i using kF with
 | _ i ih=>
  by_cases M:∃j,j<i∧listed.getD j false=false
  ·obtain⟨j,V,a1⟩:=M
   exact ih j V (by omega) a1
  ·refine⟨i,hi,O,fun j V=>?_⟩
   cases hb':listed.getD j false with
   |true=>rfl
   |false=>exact absurd ⟨j,V,hb'⟩ M
theorem FW {t:Array aa}{d:Option Tmp}{v:aa}{s:Nat}(h:d≠some s):((bB t []).put d v).tmps[s]?=t[s]?:=by
 cases d with
 |none=>rfl
 |some d=>
  have:d≠s:=fun M=>h (by rw[M])
  simp[gq,this]
theorem Vb {t:Array aa}{d:Tmp}{v:aa}(h:d<t.size):((bB t []).put (some d) v).tmps[d]?=some v:=by
 simp[gq,h]
theorem QJ {t:Array aa}{d:Option Tmp}{v:aa}:((bB t []).put d v).tmps.size=t.size:=by
 cases d<;>simp[gq]
structure wW (nt:Nat)(ops:Array cW)(n:Nat)(val:Nat→aa)(F M:List Nat)(e:Env)(n1:Nat)(M2:List Nat)(E:Env)(listed:Array Bool)(t:Array aa):Prop where
 head:jh .any ops n listed
 base:mF nt e t
 free:∀j∈F,listed.getD j false=true→∀d,mu ops j=some d→t[d]?=some (val j)
 sub:∀j∈M2,j∈M∧listed.getD j false=false
 nod:M2.Nodup
 ch:sa ops M2=true
 env:∀s v,get? E s=some v→get? e s=some v∨(∃j∈F,mu ops j=some s∧val j=v)∨∃j∈M,listed.getD j false=true∧mu ops j=some s∧t[s]?=some v
 mid:∀j∈M,listed.getD j false=false→j∈M2
 low:∀j,j<n1→listed.getD j false=true
theorem wW.next {n1:Nat}{val:Nat→aa}{F a4 a8 a5:List Nat}{E E':Env}{listed:Array Bool}{t:Array aa}{i:Nat}{o:cW}{v:aa}(hp:vu ops n1 n e F a4)(O:wW nt ops n val F a4 e n1 a8 E listed t)
  (b4:ops[i]?=some o)(b5:pD nt o.dst=true)(c3:i∈bE .any ops listed)(b7:n1≤i)(b1:i<n)
  (d1:i∈F→val i=v)(c9:∀j∈a5,j∈a8∧j≠i)(c8:a5.Nodup)(c6:sa ops a5=true)(c7:∀j∈a8,j≠i→j∈a5)
  (hE:∀s u,get? E' s=some u→(o.dst≠some s∧get? E s=some u)∨(i∈a4∧o.dst=some s∧u=v)∨(i∈F∧get? E s=some u)):
  wW nt ops n val F a4 e n1 a5 E' (listed.setIfInBounds i true) ((bB t []).put o.dst v).tmps:=by
 have a7:mu ops i=o.dst:=by simp only[mu,b4]
 have d0:listed.getD i false=false:=getD_both (mem_ready.1 c3).1;have b9:∀j,listed.getD j false=true→i≠j:=fun j M h=>by rw[←h,d0]at M;cases M
 have b6:∀j,n1≤j∧j<n→i≠j→∀d,mu ops j=some d→o.dst≠some d:=fun j M V d a3 h=>V (hp.dst i b7 b1 j M.1 M.2 d (by rw[a7];exact h) a3)
 have c2:∀d,o.dst=some d→((bB t []).put o.dst v).tmps[d]?=some v:=fun d h=>by
  rw[h];rw[h]at b5;exact Vb (by rw[O.base.size];exact bl b5)
 refine⟨O.head.set c3 b1,⟨by rw[QJ];exact O.base.size,fun s u a6=>?_⟩,fun j M a2 d a3=>?_,fun j M=>?_,c8,c6,fun s u a6=>?_,fun j M a2=>?_,fun j M=>?_⟩
 ·rw[FW]
  ·exact O.base.slot s u a6
  ·intro h
   have:=hp.fresh i b7 b1 s (by rw[a7];exact h);rw[this]at a6;cases a6
 ·by_cases V:i=j
  ·subst V
   rw[d1 M];exact c2 d (by rw[←a7];exact a3)
  ·rw[getD_set_ne false V]at a2
   rw[FW (b6 j (hp.inF j M) V d a3)];exact O.free j M a2 d a3
 ·obtain⟨a9,a1⟩:=c9 j M
  obtain⟨c4,c5⟩:=O.sub j a9;exact⟨c4,by rw[getD_set_ne false (Ne.symm a1)];exact c5⟩
 ·have old:get? E s=some u→get? e s=some u∨(∃j∈F,mu ops j=some s∧val j=u)∨∃j∈a4,(listed.setIfInBounds i true).getD j false=true∧mu ops j=some s∧((bB t []).put o.dst v).tmps[s]?=some u:=by
   intro a1;rcases O.env s u a1 with h|h|⟨j,M,a2,a3,ht⟩
   ·exact .inl h
   ·exact .inr (.inl h)
   ·have V:=b9 j a2
    exact .inr (.inr ⟨j,M,by rw[getD_set_ne false V];exact a2,a3,by rw[FW (b6 j (hp.inM j M) V s a3)];exact ht⟩)
  rcases hE s u a6 with⟨_,a1⟩|⟨a9,a1,rfl⟩|⟨_,a1⟩
  ·exact old a1
  ·have b3:i<listed.size:=by rw[O.head.size];exact(bK.1 b4).1
   exact .inr (.inr ⟨i,a9,by simp[b3],by rw[a7];exact a1,c2 s a1⟩)
  ·exact old a1
 ·have V:i≠j:=fun h=>by
   subst h;have b3:i<listed.size:=by rw[O.head.size];exact(bK.1 b4).1
   simp[b3]at a2
  rw[getD_set_ne false V]at a2;exact c7 j (O.mid j M a2) (Ne.symm V)
 ·rw[getD_set_ne false (b9 j (O.low j M))];exact O.low j M
theorem uy {n1:Nat}{val:Nat→aa}{F c6:List Nat}(hp:vu ops n1 n e F c6)(a7:∀i∈F,∃e',ug P nt ops L0 S w0 i e' (val i)∧u2 ops val F e e'):
  ∀(c:Nat) (listed:Array Bool) (t:Array aa) (W:aj) (E:Env) (L:aX) (a1:List Nat) (τ:Nat),oW listed n=c→wW nt ops n val F c6 e n1 a1 E listed t→Mem L S w0 W→
   Dv P f nt ops n kk L0 S w0 R a1 E L→At P f (.inRegion ops (bN .any ops (c+(ops.size-n)) τ listed [])::kk) t W R
 | 0,listed,t,W,E,L,a1,τ,hc,inv,hm,h=>by
  have b4:=La hc;have e6:a1=[]:=by
   cases a1 with
   |nil=>rfl
   |cons m r=>
    obtain⟨a6,d0⟩:=inv.sub m (.head _);rw[b4 m (hp.inM m a6).2]at d0;cases d0
  subst e6;have f6:listed=py n ops.size:=by
   apply dS;intro j;have g8:=inv.head.size;have g7:=hp.le;rw[Fv];split
   ·next a6=>
    have:=b4 j a6;have b9:j<listed.size:=by omega
    rw[bo,cj b9]at this;simp only[eR]at this;rw[cj b9,this]
   ·next a6=>
    split
    ·next d0=>
     have:=inv.head.tail j (by omega) (by omega);have b9:j<listed.size:=by omega
     rw[bo,cj b9]at this;simp only[eR]at this;rw[cj b9,this]
    ·rw[dQ (by omega)]
  rw[az,f6];refine h.2 τ t W ⟨inv.base.size,fun s v O=>?_⟩ hm;rcases inv.env s v O with h|⟨j,M,a3,rfl⟩|⟨j,M,hl,a3,ht⟩
  ·exact inv.base.slot s v h
  ·exact inv.free j M (b4 j (hp.inF j M).2) s a3
  ·exact ht
 | c + 1,listed,t,W,E,L,a1,τ,hc,inv,hm,h=>by
  rw[show c+1+(ops.size-n)=(c+(ops.size-n))+1 by omega,Bq];obtain⟨i0,e2,e5,e8⟩:=Sr (listed:=listed) (n:=n) (by omega);have g6:listed.getD i0 true=false:=getD_in (by rw[inv.head.size];have:=hp.le;omega) e5;have f3:i0∈bE .any ops listed:=by
   have c2:i0<ops.size:=by have:=hp.le;omega
   refine mem_ready.2 ⟨g6,ops[i0],cj c2,fun d7 d3 a8=>e8 _ (hp.back i0 e2 _ ?_)⟩;simp only[oJ,cj c2];exact Ag (eb.2 d3) a8
  have f9:0<(bE .any ops listed).length:=List.length_pos_of_mem f3;have c2:τ%(bE .any ops listed).length<(bE .any ops listed).length:=eC _ f9;rw[ar c2];have c4:=bH c2;generalize (bE .any ops listed)[τ%(bE .any ops listed).length]=i at c4;generalize τ/(bE .any ops listed).length=τ';simp only;obtain⟨d6,o,V,b4⟩:=mem_ready.1 c4;have f5:i<ops.size:=(bK.1 V).1;have b6:i<n:=by
   rcases cy i n with a2|a2
   ·exact a2
   ·exact absurd c4 (hp.waits (by omega) inv.head inv.low _ i0 rfl e2 e5 i a2)
  have c8:n1≤i:=by
   rcases cy i n1 with a2|a2
   ·have:=inv.low i a2
    rw[getD_both d6]at this;cases this
   ·exact a2
  have e9:mu ops i=o.dst:=by simp only[mu,V]
  have d8:∀j∈oJ ops i,listed.getD j false=true:=fun j M=>by
   simp only[oJ,V]at M;obtain⟨d7,d3,a8,rfl⟩:=xG M;exact b4 d7 (eb.1 d3) a8
  have g3:Cb ops i=slotsOf ops o:=by simp only[Cb,V]
  have d9:∀s,s∈slotsOf ops o→∀j∈F,mu ops j=some s→t[s]?=some (val j):=fun s O j M a3=>
   inv.free j M (d8 j (hp.reads i c8 b6 j (hp.inF j M).1 (hp.inF j M).2 s a3 (by rw[g3];exact O))) s a3
  have b1:oW (listed.setIfInBounds i true) n=c:=by
   have:=IJ (by rw[inv.head.size];exact f5) (getD_both d6) b6;omega
  rcases hp.cover i c8 b6 with b5|hiM
  ·
   obtain⟨e',⟨o',d4,d2,d1⟩,g4⟩:=a7 i b5;have d5:o'=o:=bY (d4.symm.trans V);subst d5;have a4:On ops o' e' t:=fun s O v c5=>by
    rcases g4 s v c5 with a6|⟨j,M,a3,rfl⟩
    ·exact inv.base.slot s v a6
    ·exact d9 s O j M a3
   have e7:∀j∈a1,j≠i:=fun j M b7=>hp.apart i b5 (by rw[←b7];exact(inv.sub j M).1)
   have a5:wW nt ops n val F c6 e n1 a1 E (listed.setIfInBounds i true) ((bB t []).put o'.dst (val i)).tmps:=
    inv.next hp V d2 c4 c8 b6 (fun _=>rfl) (fun j M=>⟨M,e7 j M⟩) inv.nod inv.ch (fun j M _=>M) (fun s u O=>.inr (.inr ⟨b5,O⟩))
   have g2:∃L1,L=L0++L1:=by cases a1<;>exact h.1
   have g5:∀W,Mem L S w0 W→Mem L0 S w0 W:=fun W hm=>by
    obtain⟨L1,rfl⟩:=g2;exact⟨by have:=hm.nodup;rw[cE]at this;exact(cm.1 this).1,fun p hp=>hm.here p (ay _ hp),fun p hp=>hm.own p (ay _ hp),hm.kept⟩
   rcases d1 with⟨hw,hkn,hpl,hx⟩|⟨hw,c5⟩
   ·have b3:=execOp_congr (bB t []).eval (kV e') o' hpl (a4.kV hkn [])
    rcases hx W (g5 W hm)with hx|⟨g,args,hx,hcalls⟩
    ·rw[←b3]at hx
     exact At.value V (a4.wanted hw) hx (uy hp a7 c _ _ _ E L a1 τ' b1 a5 hm h)
    ·rw[←b3]at hx
     refine At.enter V (a4.wanted hw) hx (hcalls.mono fun en c9 c7=>⟨val i,c7.1,?_⟩);exact uy hp a7 c _ _ _ E L a1 τ' b1 a5 (hm.after c7.2) h
   ·rw[c5]at a5
    exact At.BK V (a4.wanted hw) (uy hp a7 c _ _ _ E L a1 τ' b1 a5 hm h)
  ·
   have e3:i∈a1:=inv.mid i hiM (getD_both d6);cases a1 with
   |nil=>cases e3
   | cons m r=>
    have f4:i=m:=by
     cases e3 with
     |head=>rfl
     |tail _ hir=>
      obtain⟨p,f8,f7⟩:=MB inv.ch i hir;have:=d8 p f7;rw[(inv.sub p f8).2]at this;cases this
    subst f4;obtain⟨_,o',d4,d2,d1⟩:=h;have d5:o'=o:=bY (d4.symm.trans V);subst d5;have a4:On ops o' E t:=fun s O v c5=>by
     rcases inv.env s v c5 with a6|⟨j,M,a3,rfl⟩|⟨j,M,hl,a3,ht⟩
     ·exact inv.base.slot s v a6
     ·exact d9 s O j M a3
     ·exact ht
    have e4:=cM.1 inv.nod;have a5:∀v,wW nt ops n val F c6 e n1 r (kX E (mu ops i) v) (listed.setIfInBounds i true) ((bB t []).put o'.dst v).tmps:=fun v=>
     inv.next hp V d2 c4 c8 b6 (fun b5=>absurd hiM (hp.apart i b5)) (fun j M=>⟨.tail _ M,fun b7=>e4.1 (b7▸M)⟩) e4.2 (Rp inv.ch)
      (fun j M b7=>by cases M with|head=>exact absurd rfl b7|tail _ M=>exact M) (fun s u O=>by
       rw[e9]at O;cases hod:o'.dst with
       |none=>rw[hod]at O;exact .inl ⟨by simp,O⟩
       | some d=>
        rw[hod]at O;simp only[kX,get?]at O;cases a8:cB d s with
        |true=>
         rw[a8]at O;simp only[cond_true,al]at O;exact .inr (.inl ⟨hiM,by rw[aP a8],O.symm⟩)
        |false=>
         rw[a8]at O;refine .inl ⟨fun a2=>?_,O⟩;simp only[al]at a2;subst a2;simp at a8)
    rcases d1 with⟨hw,hkn,hpl,hx⟩|⟨hw,a9⟩
    ·have b3:=execOp_congr (bB t []).eval (kV E) o' hpl (a4.kV hkn [])
     rcases hx W hm with⟨v,L',c9,hx,c3,a9⟩|⟨L',c9,hx,c3,a9⟩|⟨g,args,hx,hcalls⟩
     ·rw[←b3]at hx
      exact At.value V (a4.wanted hw) hx (uy hp a7 c _ _ _ _ L' r τ' b1 (a5 v) c3 a9)
     ·rw[←b3]at hx
      exact At.BP V (a4.wanted hw) hx (uy hp a7 c _ _ _ _ L' r τ' b1 (a5 undef) c3 a9)
     ·rw[←b3]at hx
      refine At.enter V (a4.wanted hw) hx (hcalls.mono fun en c9 c7=>?_);obtain⟨v,L',f2,c3,a9⟩:=c7;exact⟨v,f2,uy hp a7 c _ _ _ _ L' r τ' b1 (a5 v) c3 a9⟩
    ·exact At.BK V (a4.wanted hw) (uy hp a7 c _ _ _ _ L r τ' b1 (a5 undef) hm a9)
theorem m8.phase {n1:Nat}(n:Nat)(F V:List Nat)(L0:aX)(b3:yD ops n1 n e F V=true){L1:aX}(b9:L=L0++L1)
  (h:ly P nt [.inRegion ops F] e L0 S w0 fun a1=>lZ P f nt ops n kk L0 [.inRegion ops V] a1 L S w0 R):m8 P f nt ops n1 kk e L S w0 R:=by
 have hp:=vu.of b3;obtain⟨val,b1⟩:=h _ F rfl hp.nodF;obtain⟨a4,e',⟨a1,a8,a5⟩,b6⟩:=pa.get (F0:=F) (e0:=e) (fun i hi=>hi) (fun s v a2=>.inl a2) b1;intro τ t w hkn hmm;have c3:=hp.le;have b4:=hp.le1;have a7:oW (py n1 ops.size) n=n-n1:=Kn b4;have key:=uy (f:=f) (kk:=kk) (R:=R) hp a4 (n-n1) (py n1 ops.size) t w a1 L V τ a7
  ⟨⟨HJ (by omega),fun j c5 b5 O a3 a9 a6=>?_,fun t c4 b7=>getD_in (by rw[HJ (by omega)];exact b7) (yR (by omega))⟩,hkn,
   fun j M O=>(by rw[yR (hp.inF j M).1]at O;cases O),fun j M=>⟨M,yR (hp.inM j M).1⟩,hp.nodM,hp.chain,fun s v a2=>by
    rcases b6 s v (a8 s v a2)with h|h
    ·exact .inl h
    ·exact .inr (.inl h),fun j M _=>M,fun j M=>BY M⟩ hmm (a5 V rfl)
 ·rw[show n-n1+(ops.size-n)=ops.size-n1 by omega]at key
  exact key
 ·have c2:j<n1:=by
   rcases cy j n1 with h|h
   ·exact h
   ·rw[yR h]at O;cases O
  have:=hp.back j (by omega) a3.on (by simp only[oJ,b5];exact Ag (eb.2 a9) a6);exact BY (by omega)
theorem m8.tail (h:fS .any ops (ops.size-n) n (py n ops.size)=true)(hn:kO P f nt (wI ops n kk) e L S w0 R):m8 P f nt ops n kk e L S w0 R:=by
 intro t;rw[Dl _ n t _ h];exact hn
theorem m8.norm {e':Env}{L':aX}(hn:m8 P f nt ops n kk e' L' S w0 R)(h:(restrict e (e'.map (·.1)),L)=(some e',L')):m8 P f nt ops n kk e L S w0 R:=by
 simp only[af]at h;obtain⟨h,rfl⟩:=h;intro τ t W hk hm;exact hn τ t W ⟨hk.size,fun i v M=>hk.slot i v (tP h i v M)⟩ hm
theorem m8.front {b:Nat×Obj}(hn:m8 P f nt ops n kk e (b::L) S w0 R):m8 P f nt ops n kk e (L++[b]) S w0 R:=fun t=>kO.front (hn t)
theorem kO.Jp (V:(sm k,P.follows .mixedOrders)=(true,true))(h:m8 P f nt (m7 k) 0 (uK k) e L S w0 R):kO P f nt k e L S w0 R:=by
 simp only[af]at V;obtain⟨O,a3⟩:=V;unfold sm at O;split at O
 ·next id ops k'=>
  have a4:∀τ,cX (P.follows .mixedOrders) ops τ=bN .any ops ops.size τ (cL ops.size false) []:=fun τ=>by
   simp only[cX,a3,iO,if_true];rfl
  intro t w a2 M;refine At.step (k':=.inRegion ops (cX (P.follows .mixedOrders) ops (w.tape w.drawn (.order f id)))::k') (t':=t) (w':={w with drawn:=w.drawn+1})
   (fun b cs a1=>by have:=Ds (P:=P) (b:=b) (a:=⟨t,R.ds⟩) (k:=k') (cs:=cs) (w:=w) (id:=id) (ops:=ops);rw[a1]at this;exact this) ?_
  rw[a4];have key:=h (w.tape w.drawn (.order f id)) t {w with drawn:=w.drawn+1} a2 ⟨M.nodup,M.here,M.own,⟨M.kept.os,M.kept.tape,M.kept.output,M.kept.size,M.kept.block⟩⟩;simp only[m7,uK,Wu,ji]at key;exact key
 ·cases O
end
theorem kO.ru {P:aB}{f nt:Nat}{k:List bA}{e:Env}{L:aX}{S:List Nat}{w0:aj}{R:Goal P}(n:Nat)(hn:kO P f nt (kN P nt n k e) (eN P nt n k e) L S w0 R)
  (h:∀W,Eng.run P nt n k e W=some (kN P nt n k e,eN P nt n k e,W):=by intro W;kernel_rfl):kO P f nt k e L S w0 R:=kO.run n h hn
theorem ly.pu {P:aB}{nt:Nat}{k:List bA}{e:Env}{L:aX}{S:List Nat}{w0:aj}{K:Env→Prop}(hn:ly P nt (kZ k) (kX e (kW nt k e) (vQ P nt k e)) L S w0 K)
  (hc:cur nt k e=some (lq nt k e):=by kernel_rfl)(h:∀W,(execOp (kV e) (lq nt k e)).run P W=.ok (.value (vQ P nt k e)) W:=by intro W;kernel_rfl):ly P nt k e L S w0 K:=ly.pure hc h hn
theorem k5.pu {P:aB}{f nt:Nat}{ops:Array cW}{n:Nat}{kk:List bA}{k:List bA}{e:Env}{L:aX}{S:List Nat}{w0:aj}{R:Goal P}(hn:k5 P f nt ops n kk (kZ k) (kX e (kW nt k e) (vQ P nt k e)) L S w0 R)
  (hc:cur nt k e=some (lq nt k e):=by kernel_rfl)(h:∀W,(execOp (kV e) (lq nt k e)).run P W=.ok (.value (vQ P nt k e)) W:=by intro W;kernel_rfl):k5 P f nt ops n kk k e L S w0 R:=k5.pure hc h hn
section
variable {P:Program}{f nt:Nat}{k:List Item}{e:Env}{L:aX}{S:List Nat}{w0:World}{R:Goal P}
def uT (P:aB)(f nt:Nat)(k:List bA)(e:Env)(d:Option Tmp)(S:List Nat)(w0:aj)(R:Goal P):bJ→aj→Prop:=
 fun en W'=>(∃v L',en=.returned v∧Mem L' S w0 W'∧kO P f nt k (kX e d v) L' S w0 R)∨∃ch L',en=.panicked ch∧Mem L' S w0 W'∧nK P f nt e ch L' S w0 R
theorem kO.inl (g:bO)(args:Array aa)(O:∀W,(execOp (kV e) (lq nt k e)).run P W=.ok (.enter g args) W)
  (hc:cur nt k e=some (lq nt k e))(h:∀W,Mem L S w0 W→aE P g args W (uT P f nt (kZ k) e (kW nt k e) S w0 R)):kO P f nt k e L S w0 R:=
 kO.vr (K:=fun v L'=>kO P f nt (kZ k) (kX e (kW nt k e) v) L' S w0 R) (K':=fun M L'=>nK P f nt e M L' S w0 R) g args O (by rw[←hc]) (fun W hm=>h W hm) (fun _ _ h=>h) (fun _ _ h=>h)
theorem Fin.inl {f' M:Nat}{k':List bA}{e':Env}{d:Option Tmp}{v:aa}(h:kO P f' M k' (kX e' d v) L S w0 R):Fin (uT P f' M k' e' d S w0 R) L S w0 v:=
 fun _ hm=>.inl ⟨v,L,rfl,hm,h⟩
theorem kO.WM {f' O:Nat}{k':List bA}{e':Env}{d:Option Tmp}{fn:fu}{v:aa}(V:P.funcs[f]?=some fn)(M:(oX k,rq e fn.results.toList)=(true,some v))
  (h:kO P f' O k' (kX e' d v) L S w0 R):kO P f nt k e L S w0 (lN (uT P f' O k' e' d S w0 R)):=by
 simp only[af]at M;exact kO.ret (v:=v) (L1:=L) V (by rw[M.1,M.2]) (Fin.inl h)
theorem nK.inl {f' O:Nat}{k':List bA}{e':Env}{d:Option Tmp}{fn:fu}{M:List cf}(V:P.funcs[f]?=some fn)
  (h:nK P f' O e' M L S w0 R):nK P f nt e M L S w0 (Eng.lN (uT P f' O k' e' d S w0 R)):=
 nK.lN V fun _ hm=>.inr ⟨M,L,rfl,hm,h⟩
end
section
variable {P:Program}{f nt:Nat}{k:List Item}{e:Env}{L:aX}{S:List Nat}{w0:World}{G:Goal P}
def GL (P:aB)(l fn:Nat)(tmps:Array aa)(assign body:fv)(W:aj)(R:aa→aj→Prop):Prop:=
 ∀(c:dZ) (cs:List dZ),∃v w',R v w'∧Steps P (lone (Frame.round l fn tmps assign body .normal) (c::cs) W) (lone (c.finish v) cs w')
def oD (P:aB)(l:Nat)(args:Array aa)(L:aX)(S:List Nat)(w0:aj)(K:aa→aX→Prop):Prop:=
 ∀W,Mem L S w0 W→∃fn tmps assign body,(Instr.yield l args).run P W=.ok (.round l fn tmps assign body) W∧GL P l fn tmps assign body W fun v W'=>∃L',Mem L' S w0 W'∧K v L'
theorem oD.mono {l:Nat}{args:Array aa}{K K':aa→aX→Prop}(h:oD P l args L S w0 K)(a3:∀v L',K v L'→K' v L'):oD P l args L S w0 K':=by
 intro W hm;obtain⟨fn,tmps,assign,body,M,O⟩:=h W hm;refine⟨fn,tmps,assign,body,M,fun c cs=>?_⟩;obtain⟨v,w',⟨L',V,a1⟩,a2⟩:=O c cs;exact⟨v,w',⟨L',V,a3 v L' a1⟩,a2⟩
theorem kO.yield (l:Nat)(args:Array aa){L1:aX}{K:aa→aX→Prop}(a1:∀W,(execOp (kV e) (lq nt k e)).run P W=(Instr.yield l args).run P W)
  (hc:(cur nt k e,L)=(some (lq nt k e),L1))(h:oD P l args L1 S w0 K)
  (hn:∀v L',K v L'→kO P f nt (kZ k) (kX e (kW nt k e) v) L' S w0 G):kO P f nt k e L S w0 G:=by
 intro t W M hm b cs a4;simp only[af]at hc;obtain⟨hc,rfl⟩:=hc;have a5:kW nt k e=(lq nt k e).dst:=by simp only[kW,hc]
 rw[a5]at hn;generalize lq nt k e=o at hc a1 hn;obtain⟨ops,i,rest,k',rfl,V,b7,b1,b4,a6⟩:=pG hc;obtain⟨fn,tmps,assign,body,b9,a3⟩:=h W hm;have O:=a1 W;rw[b9,←execOp_congr (bB t []).eval (kV e) o b4 (M.kV b1 [])]at O;have b5:(execOp (bB t G.ds).eval o).run P W=.ok (.round l fn tmps assign body) W:=O;have a9:=wP (P:=P) (b:=b) (a:=⟨t,G.ds⟩) (k:=k') (cs:=cs) (w:=W) (rest:=rest) V (M.wanted b7) (.inr (yY O rfl));obtain⟨v,w',⟨L',b3,a2⟩,b6⟩:=a3 (rt b ⟨t,G.ds⟩ (.inRegion ops (i::rest)::k')) cs;have a7:dP P (lone (rt b ⟨t,G.ds⟩ (.inRegion ops (i::rest)::k')) cs W)=
   .next (lone (Frame.round l fn tmps assign body .normal) (rt b ⟨t,G.ds⟩ (.inRegion ops (i::rest)::k')::cs) W):=
  step_lone_go (by rw[a9];simp[dE,b5,rt,Frame.at])
 have a8:(rt b ⟨t,G.ds⟩ (.inRegion ops (i::rest)::k')).finish v=rt b ⟨((bB t []).put o.dst v).tmps,G.ds⟩ (.inRegion ops rest::k'):=by
  rw[xu,V];show rt b ((bB t G.ds).put o.dst v) _=_;rw[rS]
 refine G.back _ _ _ _ (.head a7 b6) ?_;rw[a8];exact hn v L' a2 _ w' (M.put a6 v []) b3 b cs a4
def wG {P:aB}(l:Nat)(R:aa→aj→Prop):Goal P where
 ds:=[]
 ok b cs m:=b.kind=.normal→b.roundOf=some l→∀c cs',cs=c::cs'→∃v w',R v w'∧Steps P m (lone (c.finish v) cs' w')
 back b cs m m1 hs h hk hq c cs' hc:=by
  obtain⟨v,w',h1,h2⟩:=h hk hq c cs' hc;exact⟨v,w',h1,fY hs h2⟩
theorem kO.rounds {l:Nat}{assign body:fv}{tmps:Array aa}{W:aj}{R:aa→aj→Prop}(M:mF nt e tmps)(hm:Mem L S w0 W)
  (h:kO P f nt [.code assign,.beginRound,.code body] e L S w0 (wG l R)):GL P l f tmps assign body W R:=fun c cs=>
 h tmps W M hm {(default:dZ)with fn:=f,kind:=.normal,roundOf:=some l} (c::cs) rfl rfl rfl c cs rfl
def xq:fv→Array Tmp
 | .rangeFunc _ ps _ _=>ps
 |_=> #[]
def L7:fv→fv
 | .rangeFunc _ _ a _=>a
 |_=>.skip
def GQ:fv→fv
 | .rangeFunc _ _ _ c=>c
 |_=>.skip
def Ph:fv→eP
 | .rangeFunc g _ _ _=>g
 |_=>.const undef
def QQ:fv→Bool
 | .rangeFunc _ _ _ _=>true
 |_=>false
def uB (st:jT)(pend:Option fv)(f:bO)(t:Array aa)(rf:fv)(D:Nat):Loop:=
 {state:=st,pending:=pend,fn:=f,tmps:=t,params:=xq rf,assign:=L7 rf,body:=GQ rf,defers:=D}
def ma (st:jT)(pend:Option fv)(f:bO)(t:Array aa)(rf:fv)(D:Nat):Obj:=.loop (uB st pend f t rf D)
def tX:Env→List Tmp→List aa→Env
 |e,p::ps,a::as=>tX ((p,a)::e) ps as
 |e,_,_=>e
def BM (nt:Nat):List Tmp→Bool
 |[]=>true
 |p::r=>bif cC (p+1) nt then BM nt r else false
theorem mF.tX:∀(ps:List Tmp) (M:List aa) {e:Env} {t:Array aa},mF nt e t→BM nt ps=true→mF nt (tX e ps M) ((ps.zip M).foldl (fun tmps (t,a)=>tmps.setIfInBounds t a) t)
 |[],_,_,_,h,_=>by simpa[Eng.tX]using h
 |_::_,[],_,_,h,_=>by simpa[Eng.tX]using h
 | p::ps,a::M,e,t,h,hp=>by
  simp only[BM]at hp;cases hb:cC (p+1) nt with
  |false=>rw[hb]at hp;simp at hp
  |true=>
   rw[hb]at hp;exact mF.tX ps M (e:=(p,a)::e) (t:=t.setIfInBounds p a) (h.put (d:=some p) hb a []) hp
theorem oD.of (j:Nat){l D:Nat}{t:Array aa}{rf:fv}{args:List aa}{e0 e1:Env}{k1:List bA}{K:aa→aX→Prop}(a4:mF nt e0 t)
  (h:(L[j]?,cB args.length (xq rf).size,BM nt (xq rf).toList)=(some (l,ma .ready none f t rf D),true,true))(M:((tX e0 (xq rf).toList args),[Item.code (L7 rf),.beginRound,.code (GQ rf)])=(e1,k1))
  (hn:kO P f nt k1 e1 L S w0 (wG l fun v O=>∃L',Mem L' S w0 O∧K v L')):oD P l ⟨args⟩ L S w0 K:=by
 simp only[af]at h M;obtain⟨V,a1,a2⟩:=h;obtain⟨rfl,rfl⟩:=M;intro W hm;have a3:W.heap[l]?=some (.loop (uB .ready none f t rf D)):=hm.here _ (bk V);refine⟨_,_,_,_,run_yield a3 (by simpa[uB]using aP a1),?_⟩;refine kO.rounds (nt:=nt) (e:=tX e0 (xq rf).toList args) ?_ hm hn;have:=mF.tX (xq rf).toList args a4 a2;simp only[uB];rw[←Array.foldl_toList];simpa using this
theorem Mem.putObj {W:aj}(hm:Mem L S w0 W){j l:Nat}{o:Obj}(h:L[j]?=some (l,o))(o':Obj):Mem (L.set j (l,o')) S w0 (W.putObj l o'):=
 Mem.setObj hm h o' rfl rfl rfl rfl
theorem kO.begin (j:Nat){l D f':Nat}{t:Array aa}{rf:fv}{k':List bA}{R:aa→aj→Prop}
  (h:(k,L[j]?)=(.beginRound::k',some (l,ma .ready none f' t rf D)))(hn:kO P f nt k' e (L.set j (l,ma .busy none f' t rf D)) S w0 (wG l R)):kO P f nt k e L S w0 (wG l R):=by
 simp only[af]at h;obtain⟨rfl,M⟩:=h;intro t' W a5 hm b cs a3 a6 O c V hc;have a7:W.heap[l]?=some (.loop (uB .ready none f' t rf D)):=hm.here _ (bk M);obtain⟨v,w',a1,a2⟩:=hn t' (W.putObj l (ma .busy none f' t rf D)) a5 (hm.putObj M _) b cs a3 a6 O c V hc;refine⟨v,w',a1,.head ?_ a2⟩;have a4:(Instr.beginRound l).run P W=.ok () (W.putObj l (ma .busy none f' t rf D)):=run_beginRound a7 rfl;refine step_lone_go ?_;show fG (stepG P true {frame:=rt b ⟨t',[]⟩ (.beginRound::k'),callers:=cs,status:=.running,dying:=none} W)=ik {frame:=rt b ⟨t',[]⟩ k',callers:=cs,status:=.running,dying:=none} _;simp[stepG,cx,rt,Frame.at,O,dE,a4,cA,Frame.finish]
theorem kO.endRound (j:Nat){l D f':Nat}{t:Array aa}{rf:fv}{st:jT}{L1:aX}{K:aa→aX→Prop}
  (h:(k,L[j]?,L)=([],some (l,ma st none f' t rf D),L1))(a1:K (.bool true) (L1.set j (l,ma .ready none f' t rf D))):kO P f nt k e L S w0 (wG l fun v O=>∃L',Mem L' S w0 O∧K v L'):=by
 simp only[af]at h;obtain⟨rfl,M,rfl⟩:=h;intro t' W a7 hm b cs a6 a2 a4 c V hc;subst hc;have a3:W.heap[l]?=some (.loop (uB st none f' t rf D)):=hm.here _ (bk M);have a5:(kv l none).run P W=.ok (.bool true) (W.putObj l (ma .ready none f' t rf D)):=run_endRound none a3;refine⟨.bool true,_,⟨_,hm.putObj M _,a1⟩,.one (step_lone_go ?_)⟩;show fG (stepG P true {frame:=rt b ⟨t',[]⟩ [],callers:=c::V,status:=.running,dying:=none} W)=_;simp[stepG,cx,rt,Frame.at,a4,hV,a5,fD,doReturn,a2]
def Mj:List bA→Option fv
 | .code .ret::_=>some .ret
 | .code (.exit id)::k=>match exitTo id k with
  |some _=>none
  |none=>some (.exit id)
 |_=>none
theorem kO.I9 (j:Nat){l D f':Nat}{t:Array aa}{rf:fv}{st:jT}{c:fv}{L1:aX}{K:aa→aX→Prop}
  (h:(Mj k,L[j]?,L)=(some c,some (l,ma st none f' t rf D),L1))(a5:K (.bool false) (L1.set j (l,ma .done (some c) f' t rf D))):kO P f nt k e L S w0 (wG l fun v a3=>∃L',Mem L' S w0 a3∧K v L'):=by
 simp only[af]at h;obtain⟨M,O,rfl⟩:=h;intro t' W a8 hm b cs a7 V a1 c' a4 hc;subst hc;have a6:W.heap[l]?=some (.loop (uB st none f' t rf D)):=hm.here _ (bk O);have a2:(kv l (some c)).run P W=.ok (.bool false) (W.putObj l (ma .done (some c) f' t rf D)):=run_endRound (some c) a6;refine⟨.bool false,_,⟨_,hm.putObj O _,a5⟩,.one (step_lone_go ?_)⟩;show fG (stepG P true {frame:=rt b ⟨t',[]⟩ k,callers:=c'::a4,status:=.running,dying:=none} W)=_;unfold Mj at M;split at M
 ·cases M
  simp[stepG,cx,rt,Frame.at,a1,hV,a2,fD,doReturn,V]
 ·next id k2=>
  split at M
  ·cases M
  ·next hx=>
   cases M
   simp[stepG,cx,rt,Frame.at,hx,a1,hV,a2,fD,doReturn,V]
 ·cases M
def K2 {P:aB}(D:Nat)(R:bJ→aj→Prop):Goal P:={(lN (P:=P) R)with ds:=[{target:=.collected D,args:= #[]}]}
theorem kO.rangeFunc {R:bJ→aj→Prop}{rf:fv}{k':List bA}{L1:aX}{e':Env}(g:bO)(cap:List aa)
  (h:(k,QQ rf,L,ev e (Ph rf),restrict e (e'.map (·.1)))=(.code rf::k',true,L1,some (.func (.func g) #[] ⟨cap⟩),some e'))
  (c8:∀W l,(invoke (.fn (.func g) ⟨cap⟩) #[.func (.yield l) #[] #[]]).run P W=.ok (.enter g ⟨.func (.yield l) #[] #[]::cap⟩) W)
  (hn:∀(D l:Nat) (t:Array aa),mF nt e' t→eA P g ⟨.func (.yield l) #[] #[]::cap⟩ (L1++[(D,.deferred (some [])),(l,ma .ready none f t rf D)]) S w0 fun _ L'=>∃j st pend,L'[j]?=some (l,ma st pend f t rf D)∧st≠ .busy∧
   kO P f nt ((pend.map Item.code).toList++k') e' (L'.set j (l,ma .exhausted pend f t rf D)) S w0 (K2 D R)):kO P f nt k e L S w0 (lN R):=by
 simp only[af]at h;obtain⟨rfl,b3,rfl,b4,b5⟩:=h;intro t W V hm b cs a3 c3 a8;show∃e w' fr,R e w'∧gA P (lone (rt b ⟨t,[]⟩ (.code rf::k')) cs W) (lone fr cs w') e∧fr.fn=b.fn∧fr.leaving P w' e;have a5:mF nt e' t:=⟨V.size,fun i v d4=>V.slot i v (tP b5 i v d4)⟩;cases rf with
 | rangeFunc g0 ps assign body=>
  have O:=run_enterLoop_outer (P:=P) (w:=W) b.fn t ps assign body;rw[←a8]at O;obtain⟨M,a2⟩:∃M,((W.alloc (.deferred (some []))).alloc (ma .ready none f t (.rangeFunc g0 ps assign body) W.heap.size))=M:=⟨_,rfl⟩;have c5:(Obj.loop {state:=.ready,pending:=none,fn:=b.fn,tmps:=t,params:=ps,assign:=assign,body:=body,defers:=W.heap.size})=ma .ready none f t (.rangeFunc g0 ps assign body) W.heap.size:=by rw[a3];rfl
  rw[c5,a2]at O;have c7:Mem (L++[(W.heap.size,.deferred (some [])),(W.heap.size+1,ma .ready none f t (.rangeFunc g0 ps assign body) W.heap.size)]) S w0 M:=by
   have:=(hm.alloc (.deferred (some []))).alloc (ma .ready none f t (.rangeFunc g0 ps assign body) W.heap.size);have d0:({W with heap:=W.heap.push (.deferred (some []))}:aj).heap.size=W.heap.size+1:=by simp
   rw[d0,List.append_assoc]at this;rw[←a2];exact this
  have c2:(bB t []).eval g0=.func (.func g) #[] ⟨cap⟩:=V.ev (x:=g0) b4 [];have c9:(resolve (bB t []).eval (rangeCall g0 (W.heap.size+1)) 0).run P M=.ok {target:=.fn (.func g) ⟨cap⟩,args:= #[.func (.yield (W.heap.size+1)) #[] #[]]} M:=by
   simp only[resolve];rw[c2];simp[jm,Act.eval]
  have d1:=stepR_rangeFunc (P:=P) (b:=b) (a:=⟨t,[]⟩) (k:=k') (cs:=cs) O c9 (c8 M (W.heap.size+1));obtain⟨en,a1,fr,⟨v,L',rfl,a7,j,st,pend,a4,d2,b6⟩,d3,_,c4⟩:=hn W.heap.size (W.heap.size+1) t a5 M c7 (b.atR ⟨t,[{target:=.collected W.heap.size,args:= #[]}]⟩ (.inRangeFunc (W.heap.size+1)::k')::cs);have a6:=step_leave_returned c4 (c:=b.atR ⟨t,[{target:=.collected W.heap.size,args:= #[]}]⟩ (.inRangeFunc (W.heap.size+1)::k')) (cs:=cs);rw[finish_atR_inRangeFunc]at a6;have c6:a1.heap[W.heap.size+1]?=some (.loop (uB st pend f t (.rangeFunc g0 ps assign body) W.heap.size)):=a7.here _ (bk a4);have b7:(Instr.endLoop (W.heap.size+1)).run P a1=.ok pend (a1.putObj (W.heap.size+1) (ma .exhausted pend f t (.rangeFunc g0 ps assign body) W.heap.size)):=run_endLoop c6 d2;have b9:=stepR_endRangeFunc (P:=P) (b:=b) (a:=⟨t,[{target:=.collected W.heap.size,args:= #[]}]⟩) (k:=k') (cs:=cs) b7;obtain⟨a9,d8,b1,d5,d6,d7⟩:=b6 t _ a5 (a7.putObj a4 _) b cs a3 c3 a8;refine⟨a9,d8,b1,d5,dO (ie d1 (fY d3 (ie a6 (jX b9)))) d6,d7⟩
 |_=>cases b3
theorem kO.AT (j:Nat){R:bJ→aj→Prop}{fn:fu}{D:Nat}{v:aa}{L1:aX}(a2:P.funcs[f]?=some fn)(h:(oX k,L[j]?,L)=(true,some (D,.deferred (some [])),L1))
  (b1:n6 P fn nt e (L1.set j (D,.deferred none)) S w0 v)(a3:Fin R (L1.set j (D,.deferred none)) S w0 v):kO P f nt k e L S w0 (K2 D R):=by
 simp only[af]at h;obtain⟨M,V,rfl⟩:=h;intro t W a8 hm b cs a1 a4 a9;show∃e w' fr,R e w'∧gA P (lone (rt b ⟨t,[{target:=.collected D,args:= #[]}]⟩ k) cs W) (lone fr cs w') e∧fr.fn=b.fn∧fr.leaving P w' e;rw[qh a9];have a7:W.heap[D]?=some (.deferred (some [])):=hm.here _ (bk V);have a6:=run_takeDeferred (P:=P) a7;have O:Mem (L.set j (D,.deferred none)) S w0 (W.putObj D (.deferred none)):=hm.putObj V _;have a5:=b1 t _ a8 O;unfold oX at M;split at M
 ·exact⟨.returned v,_,{{b.at ⟨t,[{target:=.collected D,args:= #[]}]⟩ (.code .ret::_)with mode:=.returning}with defers:=[]++[]},a3 _ O,
   ie step_ret (jX (step_collected (d:={target:=.collected D,args:= #[]}) (ds:=[]) (by simp) rfl rfl a6)),rfl,rfl,rfl,a4,fn,by rw[←a2,←a1];rfl,a5⟩
 ·exact⟨.returned v,_,{{b.at ⟨t,[{target:=.collected D,args:= #[]}]⟩ []with mode:=.returning}with defers:=[]++[]},a3 _ O,
   ie step_end (jX (step_collected (d:={target:=.collected D,args:= #[]}) (ds:=[]) (by simp) rfl rfl a6)),rfl,rfl,rfl,a4,fn,by rw[←a2,←a1];rfl,a5⟩
 ·cases M
end
section
variable {P:Program}{f nt:Nat}{k:List Item}{e:Env}{L:aX}{S:List Nat}{w0:World}{R:Goal P}
def AQ (P:aB)(nt:Nat)(k:List bA)(e:Env):Option (Option cN×aa×aa×aa):=
 match cur nt k e with
 |some o=>match o.op with
  | .insert t m key x=>some (P.underlying t,kV e m,kV e key,kV e x)
  | .mapUpdate t m key x=>some (P.underlying t,kV e m,kV e key,kV e x)
  |_=>none
 |none=>none
theorem LB {d:Option cN}{m key x:aa}(h:AQ P nt k e=some (d,m,key,x)):
  ∃o t,cur nt k e=some o∧P.underlying t=d∧execOp (kV e) o=(do ig t m key x;pure .skip):=by
 unfold AQ at h;split at h
 ·next o hc=>
  split at h
  ·next t a b c ho=>simp only[al,af]at h;obtain⟨M,rfl,rfl,rfl⟩:=h;exact⟨o,t,hc,M,by simp only[execOp,ho]⟩
  ·next t a b c ho=>simp only[al,af]at h;obtain⟨M,rfl,rfl,rfl⟩:=h;exact⟨o,t,hc,M,by simp only[execOp,ho]⟩
  ·cases h
 ·cases h
def yt (L:aX)(j:Nat):Option (Nat×Array cD×Nat):=match L[j]? with|some (b,.map es c)=>some (b,es,c)|_=>none
theorem Gd {L:aX}{j b c:Nat}{es:Array cD}(h:yt L j=some (b,es,c)):L[j]?=some (b,.map es c):=by
 unfold yt at h;split at h
 ·next hj=>simp only[al,af]at h;obtain⟨rfl,rfl,rfl⟩:=h;exact hj
 ·cases h
theorem xU {kt:aC}{kd:bW}(M:P.underlying kt=some (.int kd))(b:Bool)(n:Int)(W:aj):(kx b 10000 kt (.int kd n)).run P W=.ok () W:=by
 unfold kx;simp[aR,run_underlying M]
theorem kO.insert (j:Nat){b c n':Nat}{es:Array cD}{kt et:aC}{kd:bW}{n:Int}{v:aa}
  (h:(AQ P nt k e,yt L j,P.underlying kt,dX (.int kd) (.int kd n) es.toList 0)=(some (some (.map kt et),.map (some b),.int kd n,v),some (b,es,c),some (.int kd),some none))(a6:n'=c+1)
  (hn:kO P f nt (kZ k) (kX e (kW nt k e) undef) (L.set j (b,.map (es.push {key:=.int kd n,val:=v,born:=c}) n')) S w0 R):kO P f nt k e L S w0 R:=by
 subst a6;simp only[af]at h;obtain⟨a1,a2,M,a3⟩:=h;obtain⟨o,t,hc,a9,a7⟩:=LB a1;have V:=Gd a2;refine kO.Bk hc fun W hm=>⟨W.putObj b (.map (es.push {key:=.int kd n,val:=v,born:=c}) (c+1)),?_,fun b1 a5=>hn b1 _ (by simpa only[kW,hc]using a5) (hm.putObj V _)⟩
 have O:W.heap[b]?=some (.map es c):=hm.here _ (bk V);rw[a7];have a4:(getObj b).run P W=.ok (.map es c) W:=by simp[getObj,kr,O]
 have a8:∀o',(setObj b o').run P W=.ok () (W.putObj b o'):=fun o'=>by simp[setObj,kr,O,World.putObj]
 simp[ig,aR,run_underlying a9,a4,xU M,gy,run_underlying M,a3,a8]
def Cs (P:aB)(nt:Nat)(k:List bA)(e:Env):Option (Option cN×aa×aa×Bool):=
 match cur nt k e with
 |some o=>match o.op with
  | .lookup t m key ok=>some (P.underlying t,kV e m,kV e key,ok)
  |_=>none
 |none=>none
theorem NG {d:Option cN}{m key:aa}{ok:Bool}(h:Cs P nt k e=some (d,m,key,ok)):
  ∃o t,cur nt k e=some o∧P.underlying t=d∧execOp (kV e) o=(do pure (.value (←gC t m key ok))):=by
 unfold Cs at h;split at h
 ·next o hc=>
  split at h
  ·next t a b c ho=>simp only[al,af]at h;obtain⟨M,rfl,rfl,rfl⟩:=h;exact⟨o,t,hc,M,by simp only[execOp,ho]⟩
  ·cases h
 ·cases h
def m6 (kd:bW)(n:Int):List cD→Option aa
 |[]=>none
 |e::r=>match e.key with
  | .int _ m=>if n=m then some e.val else m6 kd n r
  |_=>none
def nZ (kd:bW):List cD→Bool
 |[]=>true
 |e::r=>match e.key with
  | .int kd' _=>decide (kd=kd')&&nZ kd r
  |_=>false
theorem GF (kd:bW)(n:Int):∀(es:List cD) (i:Nat),nZ kd es=true→∃r,dX (.int kd) (.int kd n) es i=some r∧r.map (·.2)=m6 kd n es
 |[],i,_=>⟨none,rfl,rfl⟩
 | e::es,i,h=>by
  unfold nZ at h;split at h
  ·next kd' m hk=>
   simp only[av,decide_eq_true_eq]at h;obtain⟨rfl,h⟩:=h;obtain⟨r,M,O⟩:=GF kd n es (i+1) h;unfold dX m6;simp only[hk,Instr.sameNow,if_true]
   by_cases hnm:n=m
   ·subst hnm
    simp
   ·have V:(n==m)=false:=by simpa using hnm
    rw[V];simp only[if_neg hnm];exact⟨r,M,O⟩
  ·cases h
def ql (kd:bW)(n:Int)(Y:aa→Prop)(N:Prop):List cD→Prop
 |[]=>N
 |e::r=>match e.key with
  | .int _ m=>(n=m→Y e.val)∧(¬n=m→ql kd n Y N r)
  |_=>False
theorem ql.spec {kd:bW}{n:Int}{Y:aa→Prop}{N:Prop}:∀{es:List cD},ql kd n Y N es→(∃v,m6 kd n es=some v∧Y v)∨(m6 kd n es=none∧N)
 |[],h=>.inr ⟨rfl,h⟩
 | e::r,h=>by
  unfold ql at h;unfold m6;split at h
  ·next m hk=>
   try simp only[hk]
   by_cases hnm:n=m
   ·rw[if_pos hnm];exact .inl ⟨_,rfl,h.1 hnm⟩
   ·rw[if_neg hnm];exact ql.spec (h.2 hnm)
  ·cases h
theorem ql.cons {kd O:bW}{n m:Int}{Y:aa→Prop}{N:Prop}{v:aa}{b:Nat}{r:List cD}(h:n=m→Y v)(M:¬n=m→ql kd n Y N r):ql kd n Y N ({key:=.int O m,val:=v,born:=b}::r):=⟨h,M⟩
theorem Fo {W:aj}{t kt et:aC}{b c:Nat}{es:Array cD}{kd:bW}{n:Int}{z:aa}{ok:Bool}(a2:P.underlying t=some (.map kt et))(O:P.underlying kt=some (.int kd))(M:(nj P et).map (·.1)=some (some z))
  (a4:W.heap[b]?=some (.map es c))(hi:nZ kd es.toList=true):
  (gC t (.map (some b)) (.int kd n) ok).run P W=.ok (match m6 kd n es.toList with|some v=>if ok then .tuple #[v,.bool true]else v|none=>if ok then .tuple #[z,.bool false]else z) W:=by
 have a1:(getObj b).run P W=.ok (.map es c) W:=by simp[getObj,kr,a4]
 obtain⟨r,V,a3⟩:=GF kd n es.toList 0 hi;have a5:(zeroValue et).run P W=.ok z W:=by
  unfold nj at M;cases hq:P.info? et with
  |none=>rw[hq]at M;cases M
  |some i=>rw[hq]at M;simp at M;simp[zeroValue,typeInfo,hq,M]
 rw[←a3];cases r with
 |none=>cases ok<;>simp[gC,aR,run_underlying a2,a1,xU O,gy,run_underlying O,V,a5]
 |some x=>cases ok<;>simp[gC,aR,run_underlying a2,a1,xU O,gy,run_underlying O,V]
theorem kO.lookW {b c:Nat}{es:Array cD}{kt et:aC}{kd:bW}{n:Int}{z:aa}(a6:w0.heap[b]?=some (.map es c))(a9:b∉S)
  (h:(Cs P nt k e,P.underlying kt,(nj P et).map (·.1),nZ kd es.toList)=(some (some (.map kt et),.map (some b),.int kd n,true),some (.int kd),some (some z),true))
  (hn:ql kd n (fun v=>kO P f nt (kZ k) (kX e (kW nt k e) (.tuple #[v,.bool true])) L S w0 R) (kO P f nt (kZ k) (kX e (kW nt k e) (.tuple #[z,.bool false])) L S w0 R) es.toList):kO P f nt k e L S w0 R:=by
 simp only[af]at h;obtain⟨a7,V,a1,a2⟩:=h;obtain⟨o,t,hc,a5,a4⟩:=NG a7;refine kO.op hc fun W hm=>?_
 have a8:b<w0.heap.size:=(bK.1 a6).1;have a3:W.heap[b]?=some (.map es c):=(hm.kept.block b a8 a9).trans a6;rcases hn.spec with⟨v,hv,hat⟩|⟨hv,hat⟩
 ·refine⟨.tuple #[v,.bool true],W,?_,fun O M=>hat O W (by simpa only[kW,hc]using M) hm⟩
  rw[a4,aR,Fo a5 V a1 a3 a2,hv];rfl
 ·refine⟨.tuple #[z,.bool false],W,?_,fun O M=>hat O W (by simpa only[kW,hc]using M) hm⟩
  rw[a4,aR,Fo a5 V a1 a3 a2,hv];rfl
theorem vM {E:aC}{z:aa}{sz bytes:Nat}(h:nj P E=some (some z,sz,bytes)):∃i,P.info? E=some i∧i.zero=some z∧i.size=sz∧i.bytes=bytes:=by
 unfold nj at h;cases hq:P.info? E with
 |none=>rw[hq]at h;cases h
 |some i=>
  rw[hq]at h;simp only[bL,al,af]at h;exact⟨i,rfl,h.1,h.2.1,h.2.2⟩
theorem kO.uc {T U E:aC}{z:aa}{sz bytes:Nat}{x:aa}(n:Nat)(news:List aa)
  (h:(oa nt k e,P.underlying T,nj P E,z.cells.size)=(some (.append,[.slice none 0 0,x],[T,U]),some (.slice E),some (some z,sz,bytes),sz))
  (b6:∀W,Mem L S w0 W→eB P sz U x n news W)(a9:n≤9223372036854775807∧n*bytes≤140737488355328)
  (a4:n=0→kO P f nt (kZ k) (kX e (kW nt k e) (.slice none 0 0)) L S w0 R)
  (hn:0<n→∀B cap r,n≤cap→(news++r).length=cap*sz→kO P f nt (kZ k) (kX e (kW nt k e) (.slice (some ⟨B,0,none⟩) n cap)) (L++[(B,.cells ⟨news++r⟩ E)]) S w0 R):kO P f nt k e L S w0 R:=by
 simp only[af]at h;obtain⟨a5,a1,a6,a7⟩:=h;obtain⟨o,cl,hc,b5,b3,a8,b7⟩:=rJ a5;obtain⟨i,hi,b9,a3,b1⟩:=vM a6;refine kO.tM hc b5 b3 a8 b7 (by simp) fun W hm=>?_
 have M:=b6 W hm;rcases bX n with hz0|hp
 ·subst hz0
  have a2:=M.newsLen;rw[Nat.zero_mul]at a2;obtain rfl:news=[]:=aQ.1 a2;have V:=run_append_nothing W T U o.type E i a1 hi none 0 0 (aD _) x (by rw[a3];exact M);exact⟨_,W,run_lift V,fun t O=>a4 rfl t W O hm⟩
 ·have V:=run_append_grow_src W T U o.type E i z a1 hi b9 none 0 0 [] (by simp[eg]) x n news (by rw[a3];exact M) (by omega) (by omega) (growslice_fits (by omega) (by rw[b1,az];exact a9.2))
  refine⟨_,_,run_lift V,fun t O=>hn hp W.heap.size (grownCap W (0+n) 0 E) (aM z.cells (grownCap W (0+n) 0 E-(0+n))).toList ?_ ?_ t _ (by simpa using O) ?_⟩
  ·have:=grownCap_ge W (0+n) 0 E
   omega
  ·rw[ae,vk,M.newsLen,a7,←cU]
   congr 1;have:=grownCap_ge W (0+n) 0 E;omega
  ·have:=hm.drew.alloc (.cells ⟨news++(aM z.cells (grownCap W (0+n) 0 E-(0+n))).toList⟩ E)
   have b4:(([]++news).toArray++aM z.cells (grownCap W (0+n) 0 E-(0+n)))=⟨news++(aM z.cells (grownCap W (0+n) 0 E-(0+n))).toList⟩:=by
    apply bR.1;simp
   rw[b4];exact this
theorem CS {j:Nat}:∀(l:aX) (i:Nat) (x:Nat×Obj),i<l.length→(l.eraseIdx i++[x]).Perm (l.set i x)
 |[],i,x,h=>by simp at h
 |y::l,0,x,_=>by
  simp only[iE,jO];exact(aw (l₁:=l) (l₂:=[x]))
 |y::l,i+1,x,h=>by
  simp only[iF,jP,aY];exact(CS (j:=j) l i x (by simpa using h)).cons y
theorem I7 {W:aj}{B o:Nat}{c:List aa}{t:aC}{fz:Nat×Nat}(h:W.heap[B]?=some (.cells ⟨c⟩ t fz))(news:List aa)(a3:o+news.length≤c.length):
  W.setCells B o news=W.setRow B ⟨c.take o++news++c.drop (o+news.length)⟩:=by
 have key:∀(news:List aa) (o:Nat) (c:List aa) (W:aj),W.heap[B]?=some (.cells ⟨c⟩ t fz)→o+news.length≤c.length→(W.setCells B o news).heap=(W.setRow B ⟨c.take o++news++c.drop (o+news.length)⟩).heap∧(W.setCells B o news).os=W.os∧(W.setCells B o news).tape=W.tape∧(W.setCells B o news).output=W.output∧(W.setCells B o news).drawn=W.drawn:=by
  intro news;induction news with
  | nil=>
   intro o c W h a3;have a6:(W.setRow B ⟨c⟩).heap=W.heap:=by
    rw[World.wa W B _ _ t fz h];apply dS;intro i;rw[cJ];split
    ·next heq=>subst heq;rw[h,if_pos (bK.1 h).1]
    ·rfl
   simp only[bt,fC,List.append_nil,dK];exact⟨a6.symm,rfl,rfl,rfl,rfl⟩
  | cons v r ih=>
   intro o c W h a3;simp only[aI]at a3;have a4:(W.setCell ⟨B,o,none⟩ v).heap[B]?=some (.cells ⟨c.set o v⟩ t fz):=by
    rw[Gj h,World.wa W B _ _ t fz h];have:B<W.heap.size:=(bK.1 h).1;simp[this]
   obtain⟨M,O,V,a1,a2⟩:=ih (o+1) (c.set o v) (W.setCell ⟨B,o,none⟩ v) a4 (by simp;omega);refine⟨?_,O,V,a1,a2⟩;have a8:W.setCells B o (v::r)=(W.setCell ⟨B,o,none⟩ v).setCells B (o+1) r:=rfl;rw[a8,M];rw[World.wa _ B _ _ t fz a4,Gj h,World.wa W B _ _ t fz h,World.wa W B _ _ t fz h];have hc:(c.set o v).take (o+1)++r++(c.set o v).drop (o+1+r.length)=c.take o++v::r++c.drop (o+(r.length+1)):=by
    have e1:(c.set o v).take (o+1)=c.take o++[v]:=by
     rw[List.set_eq_take_append_cons_drop,if_pos (by omega)];have a7:(c.take o).length=o:=by rw[ao];omega
     rw[List.take_append,a7];simp[Nat.add_sub_cancel_left,aK (show(c.take o).length≤o+1 by omega)]
    have a5:(c.set o v).drop (o+1+r.length)=c.drop (o+(r.length+1)):=by
     rw[List.drop_set_of_lt (by omega)];congr 1;omega
    rw[e1,a5];simp
   simp only[aI];rw[hc];apply dS;intro i;simp only[cJ,Array.size_setIfInBounds];split<;>rfl
 obtain⟨M,O,V,a1,a2⟩:=key news o c W h a3;generalize W.setCells B o news=X at M O V a1 a2;obtain⟨a9,x2,x3,x4,x5⟩:=X;simp only at M O V a1 a2;subst M O V a1 a2;rfl
theorem kO.xw (j:Nat){T U E:aC}{z:aa}{sz bytes len cap:Nat}{x:aa}{cs:List aa}(n:Nat)(news:List aa)
  (h:(oa nt k e,P.underlying T,nj P E,z.cells.size,mc L j,lO L j,rv L j,nD L j)=
   (some (.append,[.slice (some ⟨k7 L j,0,none⟩) len cap,x],[T,U]),some (.slice E),some (some z,sz,bytes),sz,true,cs,E,(0,0)))
  (d5:∀W,Mem L S w0 W→eB P sz U x n news W)(V:len≤cap∧cs.length=cap*sz)(c3:len+n≤9223372036854775807∧(len+n)*bytes≤140737488355328)
  (hn:∀B a3 r,len+n≤a3→(cs.take (len*sz)++news++r).length=a3*sz→kO P f nt (kZ k) (kX e (kW nt k e) (.slice (some ⟨B,0,none⟩) (len+n) a3)) (L.eraseIdx j++[(B,.cells ⟨cs.take (len*sz)++news++r⟩ E)]) S w0 R):
  kO P f nt k e L S w0 R:=by
 simp only[af]at h;obtain⟨b5,a9,b6,b7,a4,b1,a5,a6⟩:=h;obtain⟨o,cl,hc,d2,c5,c2,d6⟩:=rJ b5;obtain⟨i,hi,d7,O,c4⟩:=vM b6;refine kO.tM hc d2 c5 c2 d6 (by simp) fun W hm=>?_
 have a8:=d5 W hm;have b3:=a8.newsLen;have M:=hm.pf a4;rw[b1,a5,a6]at M;have c9:L[j]?=some (k7 L j,.cells ⟨cs⟩ E (0,0)):=by rw[AE a4,b1,a5,a6]
 have d0:j<L.length:=(bU.1 c9).1;have b4:len*sz≤cs.length:=by rw[V.2];exact bI _ V.1
 by_cases hroom:len+n≤cap
 ·have c7:len*sz+news.length≤cs.length:=by
   rw[b3,V.2,←cU];exact bI _ hroom
  have a1:=run_append_room_src W T U o.type E i a9 hi (k7 L j) 0 len cap x n news (by rw[O];exact a8) hroom
   (fun q d4=>by rw[O,az,cell_of_heap M,ar (by omega)];rfl)
   (fun q d4=>by simp[iK,M])
  rw[O,az,I7 M news c7]at a1;refine⟨_,_,run_lift a1,fun t a7=>hn (k7 L j) cap (cs.drop (len*sz+news.length)) hroom ?_ t _ a7 ?_⟩
  ·simp only[ae,ao,aZ]
   rw[←V.2];omega
  ·have b9:=hm.setRow a4 (cs.take (len*sz)++news++cs.drop (len*sz+news.length))
   refine b9.perm ?_;unfold oP;rw[a5,a6];exact CS (j:=j) L j _ d0
 ·have d3:(eg i.size len (.slice (some ⟨k7 L j,0,none⟩) len cap)).run P W.drew=.ok (cs.take (len*sz)).toArray W.drew:=by
   rw[O];refine run_firstCells_some W.drew sz len ⟨k7 L j,0,none⟩ len cap (cs.take (len*sz)) (by rw[ao];exact dj b4) fun q u a2=>?_
   have c8:W.drew.heap[k7 L j]?=some (.cells ⟨cs⟩ E (0,0)):=M;rw[pN,cell_of_heap c8,az];rw[dA]at a2;split at a2
   ·exact a2
   ·cases a2
  have d1:(cs.take (len*sz)).length=len*sz:=by rw[ao];exact dj b4
  have a1:=run_append_grow_src W T U o.type E i z a9 hi d7 (some ⟨k7 L j,0,none⟩) len cap (cs.take (len*sz)) d3 x n news (by rw[O];exact a8) (by omega) (by omega) (growslice_fits (by omega) (by rw[c4];exact c3.2));refine⟨_,_,run_lift a1,fun t a7=>hn W.heap.size (grownCap W (len+n) cap E) (aM z.cells (grownCap W (len+n) cap E-(len+n))).toList (grownCap_ge W (len+n) cap E) ?_ t _ a7 ?_⟩
  ·rw[ae,ae,vk,b3,b7,d1,←cU,←cU]
   congr 1;have:=grownCap_ge W (len+n) cap E;omega
  ·have:=(hm.drop j).drew.alloc (.cells ⟨cs.take (len*sz)++news++(aM z.cells (grownCap W (len+n) cap E-(len+n))).toList⟩ E)
   have c6:((cs.take (len*sz)++news).toArray++aM z.cells (grownCap W (len+n) cap E-(len+n)))=⟨cs.take (len*sz)++news++(aM z.cells (grownCap W (len+n) cap E-(len+n))).toList⟩:=by
    apply bR.1;simp
   rw[c6];exact this
theorem Gs {U:aC}(hU:P.underlying U=some .string)(s:ByteArray):∀W,Mem L S w0 W→eB P 1 U (.string s) s.size (kU s.data.toList) W:=fun W _=>Go.Src.ofString W hU s
theorem uw {U E':aC}{sz n c:Nat}{a:hO}{news:List aa}(hU:P.underlying U=some (.slice E'))(V:Src L S w0 a news)(O:news.length=n*sz)(M:∀u∈news,u.oneCell'=true):∀W,Mem L S w0 W→eB P sz U (.slice (some a) n c) n news W:=
 fun W hm=>Go.Src.ofSlice W hU a n c news O (V W hm) M
theorem yQ {U E':aC}{sz c:Nat}(hU:P.underlying U=some (.slice E')):∀W,Mem L S w0 W→eB P sz U (.slice none 0 c) 0 [] W:=fun W _=>Go.Src.ofNil W hU c
theorem Mem.freeze {W:aj}(hm:Mem L S w0 W){j:Nat}{B n:Nat}{o:Obj}(O:L[j]?=some (B,o)):Mem (L.eraseIdx j) S w0 (W.freeze ⟨B,0,none⟩ n):=by
 have M:=hm.drop j;unfold World.freeze;split
 ·exact M
 ·have a5:∀p∈L.eraseIdx j,p.1≠B:=by
   intro p hp a3;have a4:=hm.nodup;have V:j<L.length:=(bU.1 O).1;have a1:((L.eraseIdx j++[(B,o)]).map (·.1)).Nodup:=by
    have:=CS (j:=j) L j (B,o) V;have a6:L.set j (B,o)=L:=by
     apply eX;intro i;rw[gF];split
     ·next e=>subst e;first|rw[if_pos V,O]|exact O.symm
     ·rfl
    rw[a6]at this;exact(this.map _).nodup_iff.2 a4
   rw[cE,cm]at a1;exact a1.2.2 _ (da hp) B (by simp) a3
  refine⟨M.nodup,fun p hp=>?_,M.own,⟨M.kept.os,M.kept.tape,M.kept.output,by simpa using M.kept.size,fun i hi a2=>?_⟩⟩
  ·show(W.heap.modify B _)[p.1]?=_
   rw[dz,if_neg (fun h=>a5 p hp h.symm)];exact M.here p hp
  ·show(W.heap.modify B _)[i]?=_
   rw[dz,if_neg]
   ·exact M.kept.block i hi a2
   ·intro e
    subst e;rcases hm.own _ (bk O)with h|h
    ·simp at h;omega
    ·exact a2 h
theorem kO.XU (j:Nat){B E pt a4 n:Nat}{c:List aa}{l:List UInt8}
  (h:(oa nt k e,L[j]?,P.underlying pt,P.cellsOf E)=(some (.unsafeString,[.pointer (some ⟨B,0,none⟩),.int .i64 (n:Int)],[pt,a4]),some (B,.cells ⟨c⟩ E),some (.pointer E),1))
  (b4:c.take n=kU l∧l.length=n∧0<n∧n≤9223372036854775807)
  (hn:kO P f nt (kZ k) (kX e (kW nt k e) (.string ⟨l.toArray⟩)) (L.eraseIdx j) S w0 R):kO P f nt k e L S w0 R:=by
 simp only[af]at h;obtain⟨a6,M,a7,a8⟩:=h;obtain⟨V,a1,b9,c2⟩:=b4;obtain⟨o,cl,hc,b6,b1,a9,b7⟩:=rJ a6;refine kO.tM hc b6 b1 a9 b7 (by simp) fun W hm=>?_
 have O:W.heap[B]?=some (.cells ⟨c⟩ E):=hm.here _ (bk M);have b5:l.length≤c.length:=by
  have:=congrArg List.length V;rw[ao,kU,du]at this;omega
 have a3:=Go.Lib.run_unsafeString_row (P:=P) (w:=W) pt a4 o.type E a7 a8 B c.length (by simp[iG,O]) l (by intro a5;subst a5;simp at a1;omega) b5 (by omega)
  (fun q x a2=>by
   rw[pN,cell_of_heap O,az];have c3:q<l.length:=(bU.1 a2).1;have:(c.take n)[q]?=some (.int .u8 (x.toNat:Int)):=by rw[V,kU,bP,a2];rfl
   rw[List.getElem?_take_of_lt (by omega)]at this;exact this)
 rw[a1]at a3;exact⟨_,_,run_lift a3,fun t b3=>hn t _ b3 (hm.freeze M)⟩
theorem eA.mono {g:bO}{args:Array aa}{K K':aa→aX→Prop}(h:eA P g args L S w0 K)(M:∀v L',K v L'→K' v L'):eA P g args L S w0 K':=
 fun W hm=>(h W hm).mono fun _ _ ⟨v,L',h1,h2,h3⟩=>⟨v,L',h1,h2,M v L' h3⟩
def xD (nt:Nat)(k:List bA)(e:Env):Option (BinOp×aC×aa×aa):=
 match cur nt k e with
 |some o=>match o.op with
  | .binOp b T x y _=>some (b,T,kV e x,kV e y)
  |_=>none
 |none=>none
theorem Gp {b:BinOp}{T:aC}{x y:aa}(h:xD nt k e=some (b,T,x,y)):∃o p q r,cur nt k e=some o∧o.op=.binOp b T p q r∧kV e p=x∧kV e q=y:=by
 unfold xD at h;split at h
 ·next o hc=>
  split at h
  ·next b' T' p q r ho=>simp only[al,af]at h;obtain⟨rfl,rfl,M,O⟩:=h;exact⟨o,p,q,r,hc,ho,M,O⟩
  ·cases h
 ·cases h
theorem kO.W1 {T E:aC}{a:hO}(h:(xD nt k e,P.underlying T,(P.info? E).isSome)=(some (.neq,T,.pointer (some a),.pointer (some a)),some (.pointer E),true))
  (hn:kO P f nt (kZ k) (kX e (kW nt k e) (.bool false)) L S w0 R):kO P f nt k e L S w0 R:=by
 simp only[af]at h;obtain⟨M,O,V⟩:=h;obtain⟨o,p,q,r,hc,a3,a4,a5⟩:=Gp M;obtain⟨j,a2⟩:=aJ.1 V;refine kO.ow hc (fun W _=>?_) hn;simp only[execOp,a3,a4,a5];refine run_lift ?_;have a1:(eqGuard .neq T p q (.pointer (some a)) (.pointer (some a))).run P W=.ok () W:=by
  simp[eqGuard]
 rw[aR,a1];exact Lib.run_neq_ptr_same W a O a2
theorem kO.O9 (j:Nat){t:aC}{B off:Nat}{c:List aa}{E:aC}{fz:Nat×Nat}{sz:Nat}
  (h:(tU P nt k e,L[j]?,(P.info? t).map (·.size))=(some (some (.pointer t),some .unsafePointer,.pointer (some ⟨B,off,none⟩)),some (B,.cells ⟨c⟩ E fz),some (sz+1)))(a4:off<c.length)
  (hn:kO P f nt (kZ k) (kX e (kW nt k e) (.pointer (some ⟨B,off,none⟩))) L S w0 R):kO P f nt k e L S w0 R:=by
 simp only[af]at h;obtain⟨M,O,V⟩:=h;obtain⟨o,s,d,x,hc,a3,a5,a1,a6⟩:=Cv M;obtain⟨i,hi,a7⟩:=Option.map_eq_some_iff.1 V;refine kO.ow hc (fun W hm=>?_) hn;simp only[execOp,a3,a6];have a2:W.heap[B]?=some (.cells ⟨c⟩ E fz):=hm.here _ (bk O);exact run_lift (Lib.run_to_unsafe W ⟨B,off,none⟩ a5 a1 hi (by omega) (e:=E) (cells:=c.length) (by simp[iG,a2]) a4)
theorem kO.Pu (j:Nat){u:aC}{B off n:Nat}{c:List aa}{E:aC}{fz:Nat×Nat}
  (h:(tU P nt k e,L[j]?,(P.info? u).isSome,liesAt P P.depth E (n/P.cellsOf E) off u 1)=(some (some .unsafePointer,some (.pointer u),.pointer (some ⟨B,off,none⟩)),some (B,.cells ⟨c⟩ E fz),true,true))(a4:c.length=n)
  (hn:kO P f nt (kZ k) (kX e (kW nt k e) (.pointer (some ⟨B,off,none⟩))) L S w0 R):kO P f nt k e L S w0 R:=by
 subst a4;simp only[af]at h;obtain⟨M,O,V,a1⟩:=h;obtain⟨o,s,d,x,hc,a5,a6,a2,a7⟩:=Cv M;obtain⟨i,hi⟩:=aJ.1 V;refine kO.ow hc (fun W hm=>?_) hn;simp only[execOp,a5,a7];have a3:W.heap[B]?=some (.cells ⟨c⟩ E fz):=hm.here _ (bk O);exact run_lift (Lib.run_from_unsafe W ⟨B,off,none⟩ a6 a2 hi (e:=E) (cells:=c.length) (by simp[iG,a3]) a1)
end
section
variable {P:Program}{f nt:Nat}{k:List Item}{e:Env}{L:aX}{S:List Nat}{w0:World}{ops:Array Oper}{nq:Nat}{kk:List Item}
def held (L:aX)(w0:aj)(b:Nat)(c:List aa):Prop:=(∃t fz,(b,bu ⟨c⟩ t fz)∈L)∨lG w0 b=some c
theorem Gy {W:aj}{b:Nat}{c:List aa}(hm:Mem L S w0 W)(M:b∉S)(h:held L w0 b c):∃t fz,W.heap[b]?=some (.cells ⟨c⟩ t fz):=by
 rcases h with⟨t,fz,h⟩|hc
 ·exact⟨t,fz,hm.here _ h⟩
 ·unfold lG at hc
  split at hc
  ·next c' t fz hh=>
   simp at hc;subst hc;have O:b<w0.heap.size:=by
    rcases cy b w0.heap.size with h|h
    ·exact h
    ·rw[dQ h]at hh;cases hh
   exact⟨t,fz,by rw[hm.kept.block b O M,hh]⟩
  ·cases hc
end
section
variable {P:Program}{nt:Nat}{k:List Item}{e:Env}{L:aX}{S:List Nat}{w0:World}{R:Env→Prop}
theorem ly.split (i:Nat){b:Bool}(h:get? e i=some (.bool b))(O:b=true→ly P nt k ((i,.bool true)::e) L S w0 R)
  (M:b=false→ly P nt k ((i,.bool false)::e) L S w0 R):ly P nt k e L S w0 R:=by
 cases b
 ·exact ly.push h (M rfl)
 ·exact ly.push h (O rfl)
theorem ly.sj {s:ByteArray}{lo hi:Option aa}(h:asSlice P nt k e=some (some .string,.string s,lo,hi,none)){a b:Int}
  (V:(∃kd,lo=some (.int kd a))∨(lo=none∧a=0))(O:(∃kd,hi=some (.int kd b))∨(hi=none∧b=s.size))(M:0≤a∧a≤b∧b≤s.size)
  (hn:ly P nt (kZ k) (kX e (kW nt k e) (.string (s.extract a.toNat b.toNat))) L S w0 R):ly P nt k e L S w0 R:=(OpV.sj h V O M).F hn
theorem ly.load (j off:Nat){T:aC}{v:aa}(h:(nI nt k e,mc L j,mS P T (lO L j) off)=(some (T,.pointer (some ⟨k7 L j,off,none⟩)),true,some v))
  (hn:ly P nt (kZ k) (kX e (kW nt k e) v) L S w0 R):ly P nt k e L S w0 R:=(OpV.load j off h).F hn
theorem ly.um (j:Nat){off:Nat}{T:aC}{v:aa}{c:List aa}(h:(nI nt k e,mc L j,lO L j)=(some (T,.pointer (some ⟨k7 L j,off,none⟩)),true,c))(M:mS P T c off=some v)
  (hn:ly P nt (kZ k) (kX e (kW nt k e) v) L S w0 R):ly P nt k e L S w0 R:=(OpV.um j h M).F hn
theorem ly.nr {E:aC}{b o len cap sz o':Nat}{kd:bW}{i:Int}(h:(rZ P nt k e,(P.info? E).map (·.size))=(some (some (.slice E),.slice (some ⟨b,o,none⟩) len cap,.int kd i),some sz))
  (M:0≤i∧i<len)(O:o'=o+i.toNat*sz)(hn:ly P nt (kZ k) (kX e (kW nt k e) (.pointer (some ⟨b,o',none⟩))) L S w0 R):ly P nt k e L S w0 R:=(OpV.nr h M O).F hn
end
section
def wv:aa→aa→Bool
 | .int k a,.int k' b=>decide (k=k')&&decide (a=b)
 | .string a,.string b=>a.toList==b.toList
 | .bool a,.bool b=>a==b
 |_,_=>false
variable {P:Program}{f nt:Nat}{k:List Item}{e:Env}{L:aX}{S:List Nat}{w0:World}{R:Goal P}
end
section
variable {P:Program}{f nt:Nat}{k:List Item}{e:Env}{L:aX}{S:List Nat}{w0:World}{G:Goal P}
def Dh (nt:Nat)(k:List bA)(e:Env):Option (aa×List aa):=
 match cur nt k e with
 | some o=>match o.op with
  | .call c=>match c.callee with
   | .value x=>some (kV e x,c.args.toList.map (kV e))
   |_=>none
  |_=>none
 |none=>none
theorem Ol {v:aa}{M:List aa}(h:Dh nt k e=some (v,M)):
  ∃o c x,cur nt k e=some o∧o.op=.call c∧c.callee=.value x∧kV e x=v∧c.args.map (kV e)=⟨M⟩:=by
 unfold Dh at h;split at h
 ·next o hc=>
  split at h
  ·next c ho=>
   split at h
   ·next x hx=>
    simp only[al,af]at h;obtain⟨O,V⟩:=h;refine⟨o,c,x,hc,ho,hx,O,?_⟩;apply bR.1;simpa using V
   ·cases h
  ·cases h
 ·cases h
def uQ (P:aB)(g:bO):Prop:=∃fn,P.funcs[g]?=some fn∧fn.body.isNone=false∧(fn.name== "runtime.NumGoroutine")=false
theorem Yn {o:cW}{c:Call}{x:eP}{g:bO}{first O M:List aa}(a6:o.op=.call c)(a8:c.callee=.value x)(a7:kV e x=.func (.func g) ⟨first⟩ ⟨O⟩)(a3:c.args.map (kV e)=⟨M⟩)
  (a5:uQ P g)(W:aj):(execOp (kV e) o).run P W=.ok (.enter g ⟨first++M++O⟩) W:=by
 obtain⟨fn,V,a1,a2⟩:=a5;have a4:(⟨first⟩++⟨M⟩++⟨O⟩:Array aa)=⟨first++M++O⟩:=by simp
 simp only[execOp,a6,resolve,a8,a7,a3,jm,aR,cg,bw,invoke,callFunc,run_program,V,a1,a2,a4,dV,if_false]
theorem kO.Et (g:bO)(first O M:List aa){L1:aX}{K:aa→aX→Prop}{K':List cf→aX→Prop}(h:(Dh nt k e,L)=(some (.func (.func g) ⟨first⟩ ⟨O⟩,M),L1))(a3:uQ P g)
  (H:mq P g ⟨first++M++O⟩ L1 S w0 K K')(hn:∀v L',K v L'→kO P f nt (kZ k) (kX e (kW nt k e) v) L' S w0 G)(hp:∀V L',K' V L'→nK P f nt e V L' S w0 G):kO P f nt k e L S w0 G:=by
 simp only[af]at h;obtain⟨h,rfl⟩:=h;obtain⟨o,c,x,hc,a4,a6,a5,a2⟩:=Ol h;have a1:lq nt k e=o:=by simp[lq,hc]
 exact kO.vr g _ (fun W=>by rw[a1];exact Yn a4 a6 a5 a2 a3 W) (by rw[a1,hc]) H hn hp
def ri (P:aB)(g:bO)(args:Array aa)(L0:aX)(Pre:aj→Prop)(K:aa→aX→Prop)(K':List cf→aX→Prop):Prop:=
 ∀W,Mem L0 (L0.map (·.1)) W W→Pre W→aE P g args W fun e W'=>
  (∃v L',e=.returned v∧Mem L' (L0.map (·.1)) W W'∧K v L')∨∃ch L',e=.panicked ch∧Mem L' (L0.map (·.1)) W W'∧K' ch L'
theorem Mem.Gg {L0 L1 L':aX}{W a3:aj}(M:Mem (L0++L1) S w0 W)(O:Mem L' (L0.map (·.1)) W a3):Mem (L'++L1) S w0 a3:=by
 have a5:=M.nodup;rw[cE,cm]at a5;obtain⟨b1,n1,a7⟩:=a5;refine⟨?_,?_,?_,?_⟩
 ·rw[cE,cm]
  refine⟨O.nodup,n1,?_⟩;intro a a8 b a4 a9;subst a9;obtain⟨p,hp,rfl⟩:=bV.1 a8;obtain⟨q,V,a1⟩:=bV.1 a4;rcases O.own p hp with h1|h1
  ·have:=M.lt (ak L0 V)
   omega
  ·exact a7 _ h1 _ a4 rfl
 ·intro p hp
  rcases cn.1 hp with hp|hp
  ·exact O.here p hp
  ·rw[O.kept.block p.1 (M.lt (ak _ hp)) (fun a2=>a7 _ a2 _ (da hp) rfl)]
   exact M.here p (ak _ hp)
 ·intro p hp
  rcases cn.1 hp with hp|hp
  ·rcases O.own p hp with h1|h1
   ·exact .inl (bC M.kept.size h1)
   ·obtain⟨q,V,a1⟩:=bV.1 h1
    have:=M.own q (ay _ V);rw[a1]at this;exact this
  ·exact M.own p (ak _ hp)
 ·refine⟨O.kept.os.trans M.kept.os,O.kept.tape.trans M.kept.tape,O.kept.output.trans M.kept.output,bC M.kept.size O.kept.size,fun i hi a6=>?_⟩
  rw[O.kept.block i (gz hi M.kept.size) (fun a2=>?_)]
  ·exact M.kept.block i hi a6
  ·obtain⟨q,V,a1⟩:=bV.1 a2
   rcases M.own q (ay _ V)with h1|h1
   ·rw[a1]at h1;omega
   ·rw[a1]at h1;exact a6 h1
theorem mq.lF {g:bO}{args:Array aa}{L0 L1:aX}{a5:aj→Prop}{K k1:aa→aX→Prop}{K' a7:List cf→aX→Prop}(h:ri P g args L0 a5 K K')(b1:∀W,Mem L S w0 W→a5 W)(hp:(L0++L1).Perm L)
  (a8:∀v L',K v L'→∃M,(L'++L1).Perm M∧k1 v M)(a9:∀O L',K' O L'→∃M,(L'++L1).Perm M∧a7 O M):mq P g args L S w0 k1 a7:=by
 intro W hm;have V:Mem (L0++L1) S w0 W:=hm.perm hp;have a6:=V.nodup;rw[cE,cm]at a6;refine(h W ⟨a6.1,fun p hp=>V.here p (ay _ hp),fun p hp=>.inr (da hp),Kept.refl _ W⟩ (b1 W hm)).mono ?_;rintro e b3 (⟨v,L',rfl,a1,a2⟩|⟨O,L',rfl,a1,a2⟩)
 ·obtain⟨M,a4,a3⟩:=a8 v L' a2
  exact .inl ⟨v,M,rfl,Mem.perm (L:=L'++L1) (V.Gg a1) a4.symm,a3⟩
 ·obtain⟨M,a4,a3⟩:=a9 O L' a2
  exact .inr ⟨O,M,rfl,Mem.perm (L:=L'++L1) (V.Gg a1) a4.symm,a3⟩
end
section
variable {P:Program}{f nt:Nat}{k:List Item}{e:Env}{L L0:aX}{S:List Nat}{w0:World}{ops:Array Oper}{n:Nat}{kk:List Item}{R:Goal P}
theorem lZ.store (L1:aX)(j off:Nat){T:aC}{v:aa}(a4:L=L0++L1)(h:(q8 nt k e,mc L j,nD L j,vi P T (lO L j) off v)=(some (T,.pointer (some ⟨k7 L j,off,none⟩),v),true,(0,0),true))
  (hn:lZ P f nt ops n kk L0 (kZ k) (kX e (kW nt k e) undef) (oP L j (tC P T (lO L j) off v)) S w0 R):lZ P f nt ops n kk L0 k e L S w0 R:=by
 simp only[af]at h;obtain⟨V,M,a1,a2⟩:=h;obtain⟨o,x,y,hc,a5,a6,a7⟩:=AL V;cases hp:ue P T (lO L j) off v with
 |none=>simp[vi,hp]at a2
 |some c'=>
  have a3:tC P T (lO L j) off v=c':=by simp[tC,hp]
  rw[a3]at hn;refine lZ.yE L1 a4 hc (fun W hm=>⟨W.setRow (k7 L j) ⟨c'⟩,?_,hm.setRow M c'⟩) hn;simp only[execOp,a5,a6,a7];have O:=hm.pf M;rw[a1]at O;rw[aR,De O hp];rfl
theorem lZ.pure (L1:aX)(M:L=L0++L1)(hc:cur nt k e=some (lq nt k e))(O:∀W,(execOp (kV e) (lq nt k e)).run P W=.ok (.value (vQ P nt k e)) W)
  (hn:lZ P f nt ops n kk L0 (kZ k) (kX e (kW nt k e) (vQ P nt k e)) L S w0 R):lZ P f nt ops n kk L0 k e L S w0 R:=
 lZ.CA L1 M hc fun W hm=>⟨_,L,W,O W,hm,hn⟩
theorem lZ.uc (L1:aX){T U E:aC}{z:aa}{sz bytes:Nat}{x:aa}(m:Nat)(news:List aa)(b4:L=L0++L1)
  (h:(oa nt k e,P.underlying T,nj P E,z.cells.size)=(some (.append,[.slice none 0 0,x],[T,U]),some (.slice E),some (some z,sz,bytes),sz))
  (b6:∀W,Mem L S w0 W→eB P sz U x m news W)(a8:m≤9223372036854775807∧m*bytes≤140737488355328)
  (a3:m=0→lZ P f nt ops n kk L0 (kZ k) (kX e (kW nt k e) (.slice none 0 0)) L S w0 R)
  (hn:0<m→∀B cap r,m≤cap→(news++r).length=cap*sz→lZ P f nt ops n kk L0 (kZ k) (kX e (kW nt k e) (.slice (some ⟨B,0,none⟩) m cap)) (L++[(B,.cells ⟨news++r⟩ E)]) S w0 R):lZ P f nt ops n kk L0 k e L S w0 R:=by
 simp only[af]at h;obtain⟨a4,V,a5,a6⟩:=h;obtain⟨o,cl,hc,b5,b1,a7,b7⟩:=rJ a4;obtain⟨i,hi,b9,a2,a9⟩:=vM a5;refine lZ.CA L1 b4 hc fun W hm=>?_
 rw[Gf b5 b1 a7 b7 (by simp) W];have O:=b6 W hm;rcases bX m with hz0|hp
 ·subst hz0
  have a1:=O.newsLen;rw[Nat.zero_mul]at a1;obtain rfl:news=[]:=aQ.1 a1;have M:=run_append_nothing W T U o.type E i V hi none 0 0 (aD _) x (by rw[a2];exact O);exact⟨_,L,W,run_lift M,hm,a3 rfl⟩
 ·have M:=run_append_grow_src W T U o.type E i z V hi b9 none 0 0 [] (by simp[eg]) x m news (by rw[a2];exact O) (by omega) (by omega) (growslice_fits (by omega) (by rw[a9,az];exact a8.2))
  have b3:(([]++news).toArray++aM z.cells (grownCap W (0+m) 0 E-(0+m)))=⟨news++(aM z.cells (grownCap W (0+m) 0 E-(0+m))).toList⟩:=by
   apply bR.1;simp
  rw[b3]at M;refine⟨_,_,_,run_lift M,hm.drew.alloc _,?_⟩;have:=hn hp W.heap.size (grownCap W (0+m) 0 E) (aM z.cells (grownCap W (0+m) 0 E-(0+m))).toList ?_ ?_
  ·simpa using this
  ·have:=grownCap_ge W (0+m) 0 E
   omega
  ·rw[ae,vk,O.newsLen,a6,←cU]
   congr 1;have:=grownCap_ge W (0+m) 0 E;omega
theorem kO.loadT {b off:Nat}{T:aC}{v:aa}{c:List aa}(h:nI nt k e=some (T,.pointer (some ⟨b,off,none⟩)))(hc:∃t fz,(b,bu ⟨c⟩ t fz)∈L)(a1:mS P T c off=some v)
  (hn:kO P f nt (kZ k) (kX e (kW nt k e) v) L S w0 R):kO P f nt k e L S w0 R:=by
 obtain⟨o,x,M,V,a2⟩:=yb h;refine kO.ow M (fun W hm=>?_) hn;simp only[execOp,V,a2];obtain⟨t,fz,O⟩:=hc;exact run_lift (vd (t:=t) (fz:=fz) (hm.here _ O) a1)
theorem kO.ub {E:aC}{p:Option hO}{b o len cap sz o':Nat}{kd:bW}{i:Int}(hp:p=some ⟨b,o,none⟩)(h:(rZ P nt k e,(P.info? E).map (·.size))=(some (some (.slice E),.slice p len cap,.int kd i),some sz))
  (M:0≤i∧i<len)(O:o'=o+i.toNat*sz)(hn:kO P f nt (kZ k) (kX e (kW nt k e) (.pointer (some ⟨b,o',none⟩))) L S w0 R):kO P f nt k e L S w0 R:=by
 subst hp;exact kO.nr h M O hn
theorem k5.ub {E:aC}{p:Option hO}{b o len cap sz o':Nat}{kd:bW}{i:Int}(hp:p=some ⟨b,o,none⟩)(h:(rZ P nt k e,(P.info? E).map (·.size))=(some (some (.slice E),.slice p len cap,.int kd i),some sz))
  (M:0≤i∧i<len)(O:o'=o+i.toNat*sz)(hn:k5 P f nt ops n kk (kZ k) (kX e (kW nt k e) (.pointer (some ⟨b,o',none⟩))) L S w0 R):k5 P f nt ops n kk k e L S w0 R:=by
 subst hp;exact k5.nr h M O hn
end
end Go.Eng
