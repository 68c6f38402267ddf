/- A part. -/
import Derived.Shelf.Strings.Repeat
import Derived.Test.YtfobdgoklnhebaaGreatDoorAnyE
set_option linter.unusedVariables false
set_option linter.unusedSimpArgs false
set_option maxRecDepth 100000
open Bool renaming and_eq_true→av,noConfusion→de
open ByteArray renaming size_extract→di
open Go renaming TypeId→aC,Calls→aE,Value→aa,World→aj,Ending→bJ,MapEntry→cD,TypeDesc→cN,Src→eB
open Go.IntKind renaming i64→ab
open Go.Lib renaming repeatL→ia
open Go.Obj renaming cells→bu
open Go.Proofs.Tryz renaming f45→bj,prog→bm,func46→ew,func45→ey,func120→fK,f67→fw,f46→gM,func50→gY,f52→jB,func90→ju,func88→jv,func89→jw,func51→jx,zeroValue5→kC,f15→kL,underlying5→kf
open Go.Sem renaming run_bind→aR
open Go.Value renaming oneCell'→ic
open Int renaming toNat→ad,toNat_natCast→ai
open List renaming replicate→aA,drop_eq_getElem_cons→aG,length_cons→aI,take_of_length_le→aK,append_nil→aL,length_eq_zero_iff→aQ,nil_append→aT,cons_append→aY,length_drop→aZ,length_append→ae,mem_cons_of_mem→ag,mem_append_right→ak,append_assoc→an,length_take→ao,getElem?_eq_getElem→ar,mem_cons_self→au,perm_append_comm→aw,drop_of_length_le→ax,mem_append_left→ay,getElem_mem→bH,mem_cons→bT,getElem?_take_of_lt→bh,flatMap_cons→bq,length_nil→bt,flatMap_nil→cF,perm_middle→cI,mem_singleton→cK,getElem?_eq_none→cQ,drop_drop→cV,getElem?_drop→cd,getElem?_append_left→dG,take_zero→dN,length_map→du,getElem_append_left→ek,getElem_take→fO,drop_append_of_le_length→fa,take_append_of_le_length→fb,take_left'→fk,all_eq_true→ij,getElem?_append_right→iq,getElem_append_right→iv,replicate_succ→jJ,take_length→kh
open List.Perm renaming refl→ah,swap→dg,cons→eS
open Nat renaming le_refl→aD,zero_add→az,le_trans→bC,eq_zero_or_pos→bX,zero_le→bx,lt_or_ge→cy,mul_le_mul→dp,mod_two_eq_zero_or_one→dx,xor_lt_two_pow→dy,mod_lt→eC,xor_assoc→eW,testBit_xor→fR,testBit_add_one→gp,eq_of_testBit_eq→jI
open Option.some renaming injEq→al
open Prod.mk renaming injEq→af,inj→bD
open UInt8 renaming ofNat→bg,toNat_inj→kg
namespace Go.Proofs
section
open Go.Shelf
def Tryz.LY:Go.Shelf.Ren:=⟨fun|105=>111|212=>151|99=>152|165=>153|166=>109|170=>154|169=>60|263=>174|264=>175|206=>176|240=>150|241=>177|276=>173|277=>195|n=>n,fun|9=>9|3=>3|4=>4|20=>20|0=>0|46=>185|109=>210|5=>5|72=>103|76=>167|51=>184|146=>223|53=>141|148=>225|70=>101|37=>47|75=>166|127=>158|164=>221|80=>108|n=>n,fun|n=>n⟩
theorem Tryz.Ts:Go.Proofs.Lays.n105 bm Tryz.LY:={
 mixed:=by kernel_rfl
 f99:=Tryz.func152.trans (congrArg some (by kernel_rfl))
 f105:=Tryz.func111.trans (congrArg some (by kernel_rfl))
 f165:=Tryz.func153.trans (congrArg some (by kernel_rfl))
 f166:=Tryz.func109.trans (congrArg some (by kernel_rfl))
 f169:=Tryz.func60.trans (congrArg some (by kernel_rfl))
 f170:=Tryz.func154.trans (congrArg some (by kernel_rfl))
 f206:=Tryz.func176.trans (congrArg some (by kernel_rfl))
 f212:=Tryz.func151.trans (congrArg some (by kernel_rfl))
 f240:=Tryz.func150.trans (congrArg some (by kernel_rfl))
 f241:=Tryz.func177.trans (congrArg some (by kernel_rfl))
 f263:=Tryz.func174.trans (congrArg some (by kernel_rfl))
 f264:=Tryz.func175.trans (congrArg some (by kernel_rfl))
 f276:=Tryz.func173.trans (congrArg some (by kernel_rfl))
 f277:=Tryz.func195.trans (congrArg some (by kernel_rfl))
 t0:=Tryz.underlying0
 a0:=Tryz.isAgg0
 z0:=Tryz.sizeOf0
 v0:=Tryz.zeroValue0
 t3:=Tryz.underlying3
 a3:=Tryz.isAgg3
 z3:=Tryz.sizeOf3
 v3:=Tryz.zeroValue3
 t4:=Tryz.underlying4
 a4:=Tryz.isAgg4
 z4:=Tryz.sizeOf4
 v4:=Tryz.zeroValue4
 t5:=kf
 a5:=Tryz.isAgg5
 z5:=Tryz.sizeOf5
 v5:=kC
 t9:=Tryz.underlying9
 a9:=Tryz.isAgg9
 z9:=Tryz.sizeOf9
 v9:=Tryz.zeroValue9
 t20:=Tryz.underlying20
 a20:=Tryz.isAgg20
 z20:=Tryz.sizeOf20
 v20:=Tryz.zeroValue20
 t37:=Tryz.underlying47
 a37:=Tryz.isAgg47
 z37:=Tryz.sizeOf47
 v37:=Tryz.zeroValue47
 t46:=Tryz.underlying185
 a46:=Tryz.isAgg185
 z46:=Tryz.sizeOf185
 v46:=Tryz.zeroValue185
 t51:=Tryz.underlying184
 a51:=Tryz.isAgg184
 z51:=Tryz.sizeOf184
 v51:=Tryz.zeroValue184
 t53:=Tryz.underlying141
 a53:=Tryz.isAgg141
 z53:=Tryz.sizeOf141
 v53:=Tryz.zeroValue141
 t70:=Tryz.underlying101
 a70:=Tryz.isAgg101
 z70:=Tryz.sizeOf101
 v70:=Tryz.zeroValue101
 t72:=Tryz.underlying103
 a72:=Tryz.isAgg103
 z72:=Tryz.sizeOf103
 v72:=Tryz.zeroValue103
 t75:=Tryz.underlying166
 a75:=Tryz.isAgg166
 z75:=Tryz.sizeOf166
 v75:=Tryz.zeroValue166
 t76:=Tryz.underlying167
 a76:=Tryz.isAgg167
 z76:=Tryz.sizeOf167
 v76:=Tryz.zeroValue167
 t109:=Tryz.underlying210
 a109:=Tryz.isAgg210
 z109:=Tryz.sizeOf210
 v109:=Tryz.zeroValue210
 t127:=Tryz.underlying158
 a127:=Tryz.isAgg158
 z127:=Tryz.sizeOf158
 v127:=Tryz.zeroValue158
 t146:=Tryz.underlying223
 a146:=Tryz.isAgg223
 z146:=Tryz.sizeOf223
 v146:=Tryz.zeroValue223
 t148:=Tryz.underlying225
 a148:=Tryz.isAgg225
 z148:=Tryz.sizeOf225
 v148:=Tryz.zeroValue225
 t164:=Tryz.underlying221
 a164:=Tryz.isAgg221
 z164:=Tryz.sizeOf221
 v164:=Tryz.zeroValue221}
theorem Tryz.Qo:Builder.Extra bm Tryz.LY:={
 sizeBuilder:=by kernel_rfl
 liesBuilder:=by kernel_rfl
 t5:=kf
 a5:=Tryz.isAgg5
 z5:=Tryz.sizeOf5
 v5:=kC
 infoByte:=by kernel_rfl
 cellsByte:=by kernel_rfl
 sizeByte:=by kernel_rfl
 neB5:=by decide}
open Go.RowKit Go.Lib in
theorem Tryz.strings_Repeat (s:ByteArray)(c:Nat)(w:aj)(hc:c≤9223372036854775807)(hlen:s.size*c≤140737488355328):
  aE bm 111 #[.string s,.int .i64 c] w fun e w'=>e=.returned (.string ⟨(ia s.data.toList c).toArray⟩)∧Below w.heap.size w w':=Any.strings_Repeat Tryz.Ts Tryz.Qo s c w hc hlen
end
end Go.Proofs
namespace Wire
def qA (r:Nat):Nat:=if r%2=1 then r/2^^^2197175160 else r/2
def steps:Nat→Nat→Nat
 |0,r=>r
 |n+1,r=>steps n (qA r)
def yg (r b:Nat):Nat:=steps 8 (r^^^b)
def sw (r:Nat)(l:List UInt8):Nat:=l.foldl (fun r b=>yg r b.toNat) r
def n7 (l:List UInt8):Nat:=4294967295^^^sw 4294967295 l
theorem Sg (a b:Nat):(a^^^b)%2=(a%2+b%2)%2:=by
 have M:=dx a;have O:=dx b;have V:=dx (a^^^b);have h:=fR a b 0;simp only[Nat.testBit_zero]at h;rcases M with M|M<;>rcases O with O|O<;>rcases V with V|V<;>simp_all
theorem Oq (a b:Nat):(a^^^b)/2=a/2^^^b/2:=by
 apply jI;intro j;rw[←gp,fR,gp,gp,fR]
theorem ZP (a b:Nat):qA (a^^^b)=qA a^^^qA b:=by
 unfold qA;rw[Sg,Oq];have M:=dx a;have O:=dx b;rcases M with M|M<;>rcases O with O|O<;>simp only[M,O,az,Nat.add_zero,Nat.reduceAdd,Nat.reduceMod,if_true,if_false,Nat.zero_ne_one]
 ·rw[eW]
 ·rw[eW,eW];congr 1;exact Nat.xor_comm ..
 ·have:∀x y p:Nat,x^^^y=(x^^^p)^^^(y^^^p):=by
   intro x y p;rw[eW,←eW p,Nat.xor_comm p y,eW y,Nat.xor_self,Nat.xor_zero]
  exact this _ _ _
theorem GJ:∀(n a b:Nat),steps n (a^^^b)=steps n a^^^steps n b
 |0,_,_=>rfl
 |n+1,a,b=>by rw[steps,steps,steps,ZP,GJ n]
theorem GS:∀(m n r:Nat),steps (m+n) r=steps n (steps m r)
 |0,n,r=>by rw[az];rfl
 |m+1,n,r=>by rw[Nat.add_right_comm,steps,steps,GS m n]
theorem Rv (h:Nat):qA (2*h)=h:=by
 unfold qA;rw[if_neg (by omega)];omega
theorem JO:∀(n h:Nat),steps n (2^n*h)=h
 |0,h=>by simp[steps]
 |n+1,h=>by rw[steps,Nat.pow_succ,Nat.mul_comm (2^n) 2,Nat.mul_assoc,Rv,JO n]
theorem FV {r:Nat}(h:r<2^32):qA r<2^32:=by
 unfold qA;split
 ·exact dy (by omega) (by decide)
 ·omega
theorem Fh:∀(n:Nat) {r:Nat},r<2^32→steps n r<2^32
 |0,_,h=>h
 |n+1,_,h=>Fh n (FV h)
theorem NW (b:UInt8):b.toNat<2^32:=by have:=b.toNat_lt;omega
theorem Hg {r b:Nat}(h:r<2^32)(M:b<2^32):yg r b<2^32:=Fh 8 (dy h M)
theorem LL:∀(l:List UInt8) {r:Nat},r<2^32→sw r l<2^32
 |[],_,h=>h
 |b::l,_,h=>LL l (Hg h (NW b))
theorem CW (l:List UInt8):n7 l<2^32:=dy (by decide) (LL l (by decide))
def uO:List Nat:=[0x00000000,0x105ec76f,0x20bd8ede,0x30e349b1,0x417b1dbc,0x5125dad3,0x61c69362,0x7198540d,0x82f63b78,0x92a8fc17,0xa24bb5a6,0xb21572c9,0xc38d26c4,0xd3d3e1ab,0xe330a81a,0xf36e6f75]
theorem OJ:∀q:Fin 16,steps 4 q.val=uO.getD q.val 0:=by decide
theorem WA (r:Nat):steps 4 r=r/16^^^uO.getD (r%16) 0:=by
 have h:r=2^4*(r/16)^^^r%16:=by
  have M:=Nat.two_pow_add_eq_or_of_lt (i:=4) (b:=r%16) (by omega) (r/16);have O:2^4*(r/16)^^^r%16=2^4*(r/16)|||r%16:=by
   apply jI;intro j;rw[fR,Nat.testBit_or,Nat.testBit_two_pow_mul]
   by_cases hj:j<4
   ·simp[show¬4≤j by omega]
   ·have:(r%16).testBit j=false:=Nat.testBit_lt_two_pow (Nat.lt_of_lt_of_le (eC _ (by decide)) (Nat.pow_le_pow_right (n:=2) (i:=4) (by decide) (by omega)))
    simp[this]
  rw[O,←M];omega
 conv=>lhs;rw[h]
 rw[GJ,JO,OJ ⟨r%16,eC _ (by decide)⟩]
theorem Ps (r b:Nat):yg r b=steps 4 (steps 4 (r^^^b)):=GS 4 4 _
end Wire
namespace Go.Eng
open Go Go.RowKit Go.Proofs Wire
def mH:List aa:=uO.map fun n:Nat=>.int .u32 (n:Int)
theorem Re {q:Nat}(h:q<16):mH[q]?=some (.int .u32 ((uO.getD q 0:Nat):Int)):=by
 have M:q<uO.length:=h;simp only[mH,List.getElem?_map,ar M,Option.map_some,List.getD_eq_getElem?_getD,Option.getD_some]
theorem Po {q:Nat}(h:q<16):uO.getD q 0<2^32:=by
 have:∀q:_root_.Fin 16,uO.getD q.val 0<2^32:=by decide
 exact this ⟨q,h⟩
theorem GP {r:Nat}(h:r<2^32):CO .u32 (r:Int)=((4294967295^^^r:Nat):Int):=by
 show qL .u32 ((4294967295:Nat):Int) (r:Int)=_;rw[ym (by decide) h]
theorem Mm (r:Nat)(b:UInt8)(l:List UInt8):sw r (b::l)=sw (yg r b.toNat) l:=rfl
theorem M6 {s:BA}(b7:s.size<4611686018427387904){w0:aj}(a6:lG w0 0=some mH):∀(g i r:Nat),g+i=s.size→r<2^32→sw 4294967295 (bb s)=sw r ((bb s).drop i)→
  yk s (r:Int) (i:Int) w0 (fun e a9=>e=.returned (.int .i64 (n7 (bb s):Int))∧Below w0.heap.size w0 a9)
 |0,i,r,hg,hr,H=>by
  apply Nj;refine⟨fun h=>absurd h (by omega),fun _=>?_⟩;rintro t rfl;refine lf ?_;have b4:(bb s).drop i=[]:=ax (by rw[lB];omega);rw[b4]at H;have M:4294967295^^^r<2^32:=dy (by decide) hr;rw[GP hr,kS (by omega),n7,H];rfl
 | g+1,i,r,hg,hr,H=>by
  apply Nj;have a3:i<(bb s).length:=by rw[lB];omega
  have b6:(bb s).drop i=(bb s)[i]::(bb s).drop (i+1):=aG a3;rw[b6]at H;obtain⟨B,a1⟩:∃B:UInt8,B=(bb s)[i]:=⟨_,rfl⟩;rw[←a1]at H;have b9:=B.toNat_lt;refine⟨fun _=>⟨by omega,?_⟩,fun h=>absurd (by omega) h⟩;rintro r1 a5;rw[uM a3,←a1,Cg (by omega),ym hr (by omega)]at a5;subst a5;have M:r^^^B.toNat<2^32:=dy hr (by omega);obtain⟨x,a7⟩:∃x,x=r^^^B.toNat:=⟨_,rfl⟩;rw[←a7]at M ⊢;have a2:∀x:Nat,x<2^32→∀K:Int→Prop,K (steps 4 x:Int)→(0≤((x:Int).tmod (16:Int))∧((x:Int).tmod (16:Int))<16)∧
    ∃(V:List aa) (a8:Int),lG w0 0=some V∧V[(ad ((x:Int).tmod (16:Int)))]?=some (.int .u32 a8)∧∀O:Int,O=(qL .u32 ((x:Int).fdiv (2^4)) a8)→K O:=by
   intro x M K b5;have a4:x%16<16:=eC _ (by decide);have e1:(x:Int).tmod 16=((x%16:Nat):Int):=su x 16;have b1:(x:Int).fdiv (2^4)=((x/16:Nat):Int):=Pa x 16;rw[e1,b1,ai];refine⟨by omega,mH,_,a6,Re a4,?_⟩;rintro O rfl;rw[ym (by omega) (Po a4),←WA];exact b5
  refine(a2 x M (fun O=>_) ?_);refine(a2 (steps 4 x) (Fh 4 M) (fun c2=>_) ?_);rintro i1 rfl;have b3:ab.wrap ((i:Int)+1)=((i+1:Nat):Int):=by rw[kS (by omega)];omega
  rw[b3];have hc:steps 4 (steps 4 x)=yg r B.toNat:=by rw[Ps,a7]
  rw[hc];exact M6 b7 a6 g (i+1) _ (by omega) (Hg hr (NW B)) (by rw[H,Mm])
theorem C7 (s:BA)(M:s.size<4611686018427387904):yF TP 86 ⟨[.string s]⟩ 0 mH (.int .i64 (n7 (bb s):Int)):=
 fun W O=>Rs s (Mem.start [] W) (M6 M O s.size 0 4294967295 (by omega) (by decide) rfl)
theorem G6 {s:BA}(b5:s.size<4611686018427387904){w0:aj}:∀(g:Nat),
  (∀i r,g+i=s.size→r<2^32→sw 4294967295 (bb s)=sw r ((bb s).drop i)→
   Aq s (r:Int) (i:Int) w0 (fun e V=>e=.returned (.int .i64 (n7 (bb s):Int))∧Below w0.heap.size w0 V))
 |0=>by
  intro i r b3 M H;apply Mw;refine⟨fun h=>absurd h (by omega),fun _=>?_⟩;rintro t rfl;refine lf ?_;have a9:(bb s).drop i=[]:=ax (by rw[lB];omega);rw[a9]at H;have O:4294967295^^^r<2^32:=dy (by decide) M;rw[GP M,kS (by omega),n7,H];rfl
 | g +1=>by
  intro i r b3 M H;have b6:∀(q k x:Nat),q+k=8→x<2^32→sw 4294967295 (bb s)=sw (steps q x) ((bb s).drop (i+1))→
    xJ s (x:Int) (i:Int) (k:Int) w0 (fun e V=>e=.returned (.int .i64 (n7 (bb s):Int))∧Below w0.heap.size w0 V):=by
   intro q;induction q with
   |zero=>
    intro k x b4 O hc;apply Ja;refine⟨fun h=>absurd h (by omega),fun _=>?_⟩;rintro b9 rfl;have a7:ab.wrap ((i:Int)+1)=((i+1:Nat):Int):=by rw[kS (by omega)];omega
    rw[a7];exact G6 b5 g (i+1) x (by omega) O hc
   | succ q ih=>
    intro k x b4 O hc;apply Ja;have a8:ab.wrap ((k:Int)+1)=((k+1:Nat):Int):=by rw[kS (by omega)];omega
    have e1:(x:Int).tdiv 2=((x/2:Nat):Int):=zj x 2;have a6:(x:Int).tmod 2=((x%2:Nat):Int):=su x 2;rw[a8,e1,a6,Cg (by omega)];refine⟨fun _=>?_,fun h=>absurd (by omega) h⟩;rintro c2 rfl;refine⟨fun h=>?_,fun h=>?_⟩
    ·rintro c3 a5 _ rfl
     have hp:(2197175160:Int)=((2197175160:Nat):Int):=rfl;rw[hp,ym (by omega) (by decide)]at a5;subst a5;have a1:qA x=x/2^^^2197175160:=by rw[qA,if_pos (by omega)]
     rw[←a1];exact ih (k+1) _ (by omega) (FV O) hc
    ·rintro _ rfl
     have a1:qA x=x/2:=by rw[qA,if_neg (by omega)]
     rw[←a1];exact ih (k+1) _ (by omega) (FV O) hc
  apply Mw;have a3:i<(bb s).length:=by rw[lB];omega
  have b1:(bb s).drop i=(bb s)[i]::(bb s).drop (i+1):=aG a3;rw[b1]at H;obtain⟨B,a2⟩:∃B:UInt8,B=(bb s)[i]:=⟨_,rfl⟩;rw[←a2]at H;have b7:=B.toNat_lt;refine⟨fun _=>⟨by omega,?_⟩,fun h=>absurd (by omega) h⟩;rintro r1 a4;rw[uM a3,←a2,Cg (by omega),ym M (by omega)]at a4;subst a4;exact b6 8 0 _ rfl (dy M (by omega)) (by rw[H,Mm];rfl)
theorem Eh (s:BA)(M:s.size<4611686018427387904):l9 TP 93 ⟨[.string s]⟩ (.int .i64 (n7 (bb s):Int)):=
 fun W=>WV s (Mem.start [] W) (G6 M s.size 0 4294967295 (by omega) (by decide) rfl)
variable {P:Program}{R:Ending→World→Prop}{S:List Nat}{w0 W:World}{lk:Lk}{tp bp ap:OA}{tc bc ac:Nat}{K K':Value→aX→Prop}{args:Array Value}{g:FuncId}
abbrev zJ1aa (a:dF)(b x2 x3:Nat)(x4 x5 c:OA):Array aa:= #[IV a.n,IV a.time,IV a.kind,IV a.story,.string a.lang,IV a.rev,IV a.base,.string a.title,.string a.author,.slice x4 a.topics.length b,.slice x5 a.blocks.length x2,IV a.lab.unt,.slice c a.lab.after.length x3,IV a.lab.appr,IV a.lab.den,IV a.editor,IV a.block,IV a.sentence,.string a.text,.string a.name,IV a.partner,IV a.cls,IV a.unt]
theorem RA (a:BA)(d:Int)(hm:Mem [] [] w0 W)(H:VP [] w0 R (.cl 7 86 [.string a] []<|.ex fun c=>.rt (IV c) []<|.cl 0 48 [IV c] []<|.x2 fun b e=>.rt (kBcq b e) []<|.r 9<|.cc (⟨#[1]⟩) a<|.r 1<|.cc ((⟨#[1]⟩:BA)++a) b<|.ls 1 4 (((⟨#[1]⟩:BA)++a)++b) fun f=>.re 1 (.string f) [])):aE TP 47 ⟨[.string a,IV d]⟩ W R:=VC.cs Tryz.func47 hm _ H
theorem Rm (b:dF)(h:OA)(g:Nat)(f:OA)(e:Nat)(d:OA)(c:Nat)(hm:Mem [] [] w0 W)(H:VP [] w0 R (.np 2 (.cells (zJ1aa b g e c h f d) 38) fun B=>.hp [(B,.cells (zJ1aa b g e c h f d) 38)] fun a=>.ru [4,200]<|.cl 0 20 [.agg (zJ1aa b g e c h f d)] a<|.x2 fun i m=>.rt (kBcq i m) a<|.cl 9 91 [.string i] a<|.x2 fun j k=>.rt (kBcq j k) a<|.cl 2 47 [.string j,IV k] a<|.ex fun l=>.rt (.string l) a<|.re 2 (.string l) a)):aE TP 54 ⟨[.agg (zJ1aa b g e c h f d)]⟩ W R:=VC.cs Tryz.func54 hm _ H
theorem Tv (a:Int)(hm:Mem [] [] w0 W)(H:VP [] w0 R (.cl 7 111 [.string (⟨#[0]⟩),IV a] []<|.ex fun b=>.rt (.string b) []<|.re 2 (.string b) [])):aE TP 70 ⟨[IV a]⟩ W R:=VC.cs Tryz.func70 hm _ H
theorem Sf (a:Int)(hm:Mem [] [] w0 W)(H:VP [] w0 R (.cl 7 17 [IV a,IV 1500] []<|.ex fun b=>.rt (IV b) []<|.li 2 2 (ab.wrap (64+b)) fun c=>.re 1 (IV c) [])):aE TP 12 ⟨[IV a]⟩ W R:=VC.cs Tryz.func12 hm _ H
theorem Q1 (a b:Int)(hm:Mem [] [] w0 W)(H:VP [] w0 R (.P 10 6 (a<0) (.li 6 0 (ab.wrap (0-(ab.wrap (a+1)))) fun c=>.r 5<|.rm .i64 c b<|.li 1 4 (c.tmod b) fun d=>.re 1 (IV d) [])<|.r 6<|.rm .i64 a b<|.li 1 4 (a.tmod b) fun e=>.re 1 (IV e) [])):aE TP 17 ⟨[IV a,IV b]⟩ W R:=VC.cs Tryz.func17 hm _ H
theorem o8 (n:Int):(Wire.enc n).length≤1100:=by have:=lx n;omega
theorem CV {s:BA}(h:s.size≤1000):(lL (bb s)).length≤1100:=by
 have:=pd (bb s);rw[lB]at this;omega
theorem Sw {l:List BA}(h:sJ l=true):(qO .topics l).length≤1100:=by
 obtain⟨O,M⟩:=Gu h;have a1:=rj (e:=fun s:BA=>lL (bb s)) (m:=40) l (fun x V=>by
  have:=E9 (M x V);have M:=pd (bb x);rw[lB]at M;omega)
 have a2:=lx (l.length:Int);show(Wire.enc (l.length:Int)++l.flatMap fun s:BA=>lL (bb s)).length≤_;have a3:40*l.length≤40*4:=Nat.mul_le_mul_left _ O;rw[ae];omega
theorem PC {l:List kT}(h:m9 l=true):(qO .blocks l).length≤30100:=by
 have M:=yA h;have O:=pd (nG l);show(lL (nG l)).length≤_;omega
theorem Lu {l:mi}(h:l.ok=true):(qO .label l).length≤1100:=by
 obtain⟨a3,a4,a5,a6,a7⟩:=mi.zA h;have M:=rj (e:=Wire.enc) (m:=10) l.after (fun x _=>lx x);have O:=lx l.unt;have V:=lx (l.after.length:Int);have a1:=lx l.appr;have a2:=lx l.den;show(Wire.enc l.unt++(Wire.enc (l.after.length:Int)++(l.after.flatMap Wire.enc++(Wire.enc l.appr++Wire.enc l.den)))).length≤_;simp only[ae];omega
theorem Ab {s:BA}(h:mK s=true):(lL (bb s)).length≤1100:=CV (by have:=E9 h;omega)
theorem Dj {s:BA}(h:mP s=true):(lL (bb s)).length≤1100:=CV (by have:=Ni h;omega)
theorem A5 {f:dF}(h:f.ok=true):(mE f).length≤60000:=by
 have V:f.lr=true:=by rw[dF.ok]at h;simp only[av]at h;exact h.2.1
 have M:=Er V;have c2:=lx f.n;have c3:=lx f.time;have c4:=lx f.kind;have go:∀(l:List k9),k6 f.kind=l→(l.flatMap f.put).length≤50000→(mE f).length≤60000:=fun l e b9=>by
  rw[mE,dF.head,e];simp only[ae];omega
 have M:f.kind=1∨f.kind=2∨f.kind=3∨f.kind=4∨f.kind=5∨f.kind=6∨f.kind=7∨f.kind=8∨f.kind=9∨f.kind=10:=by omega
 unfold dF.lr at V;rcases M with M|M|M|M|M|M|M|M|M|M<;>simp only[M,reduceIte,Int.reduceEq,dF.mX,dF.qd,dF.qy,dF.qo,av,decide_eq_true_eq]at V
 ·refine go [.story,.lang,.rev,.base,.title,.author,.topics,.blocks,.label] (by rw[M];rfl) ?_
  obtain⟨a6,a1,a7,a8,a2,a9,b1,b3,b4⟩:=V;have O:(f.put .story).length≤1100:=o8 _;have b2:(f.put .lang).length≤1100:=Ab a1;have a3:(f.put .rev).length≤1100:=o8 _;have a4:(f.put .base).length≤1100:=o8 _;have a5:(f.put .title).length≤1100:=Dj a2;have b5:(f.put .author).length≤1100:=Ab a9;have b6:(f.put .topics).length≤1100:=Sw b1;have b8:(f.put .blocks).length≤30100:=PC b3;have b7:(f.put .label).length≤1100:=Lu b4;simp only[bq,cF,ae,bt];omega
 ·refine go [.story,.editor] (by rw[M];rfl) ?_
  have O:(f.put .story).length≤1100:=o8 _;have b2:(f.put .editor).length≤1100:=o8 _;simp only[bq,cF,ae,bt];omega
 ·refine go [.story,.label] (by rw[M];rfl) ?_
  have O:(f.put .story).length≤1100:=o8 _;have b2:(f.put .label).length≤1100:=Lu V.2;simp only[bq,cF,ae,bt];omega
 ·refine go [.story,.lang,.block,.sentence,.text] (by rw[M];rfl) ?_
  obtain⟨a6,a1,a7,a8,a2⟩:=V;have O:(f.put .story).length≤1100:=o8 _;have b2:(f.put .lang).length≤1100:=Ab a1;have a3:(f.put .block).length≤1100:=o8 _;have a4:(f.put .sentence).length≤1100:=o8 _;have a5:(f.put .text).length≤1100:=Dj a2;simp only[bq,cF,ae,bt];omega
 ·refine go [.story,.text] (by rw[M];rfl) ?_
  have O:(f.put .story).length≤1100:=o8 _;have b2:(f.put .text).length≤1100:=Dj V.2;simp only[bq,cF,ae,bt];omega
 ·refine go [.story] (by rw[M];rfl) ?_
  have O:(f.put .story).length≤1100:=o8 _;simp only[bq,cF,ae,bt];omega
 ·refine go [.name,.text] (by rw[M];rfl) ?_
  have O:(f.put .name).length≤1100:=Ab V.1;have b2:(f.put .text).length≤1100:=CV (s:=f.text) (by have:=J1 V.2;omega);simp only[bq,cF,ae,bt];omega
 ·refine go [.partner,.cls,.unt] (by rw[M];rfl) ?_
  have O:(f.put .partner).length≤1100:=o8 _;have b2:(f.put .cls).length≤1100:=o8 _;have a3:(f.put .unt).length≤1100:=o8 _;simp only[bq,cF,ae,bt];omega
 ·refine go [.partner,.unt] (by rw[M];rfl) ?_
  have O:(f.put .partner).length≤1100:=o8 _;have b2:(f.put .unt).length≤1100:=o8 _;simp only[bq,cF,ae,bt];omega
 ·refine go [.story] (by rw[M];rfl) ?_
  have O:(f.put .story).length≤1100:=o8 _;simp only[bq,cF,ae,bt];omega
def mD (s:List UInt8):List UInt8:=1::(s++Wire.enc (n7 s:Int))
def lJ (f:dF):List UInt8:=mD (lL (mE f))
def lA (g:Int):List UInt8:=mD (Wire.enc g)
theorem AW (s:List UInt8):(mD s).length≤s.length+11:=by
 have:=lx (n7 s:Int);rw[mD];simp only[aI,ae];omega
theorem Fk {s:BA}{e:Int}(V:s.size<4611686018427387904):yF TP 47 ⟨[.string s,.int .i64 e]⟩ 0 mH (.string (ba (mD (bb s)))):=by
 intro W O;refine RA s e (Mem.start [] W) (eA.tZ (C7 s V) (by simp) O ⟨_,rfl,rfl,?_⟩);have hc:=CW (bb s);have M:=lx (n7 (bb s):Int);have a2:(od (n7 (bb s):Int)).size≤10:=by rw[vz];exact M
 refine eA.pure (ze _) ⟨od (n7 (bb s):Int),0,if_pos (mg (by omega)),rfl,by show 1+s.size≤_;omega,by rw[ByteArray.size_append];show 1+s.size+_≤_;omega,fun t a1=>lf ?_⟩;rw[a1];refine congrArg Value.string ?_;apply tD;rw[w3,w3,ta];exact Eq.trans rfl (mA (mD (bb s))).symm
theorem Jo {f:dF}(V:lG W 0=some mH)(h:lv (kY W) f tp tc bp bc ap ac)(M:f.ok=true):
  PW TP 54 ⟨[.agg ⟨f.cells tp tc bp bc ap ac⟩]⟩ W (.string (ba (lJ f))):=by
 refine Rm f tp tc bp bc ap ac (Mem.start [] W) fun B=>eA.pw (fun a3 a1=>ZC (h.mono (lK a1))) ⟨ba (mE f),0,Mu M,rfl,?_⟩
 have a4:=A5 M;have a2:(ba (mE f)).size≤65536:=by rw[lY];omega
 refine eA.pure (LF _) ⟨s5 (ba (mE f)),0,if_pos a2,rfl,?_⟩;have O:(s5 (ba (mE f))).size<4611686018427387904:=by
  have:=pd (mE f);rw[←lB,zm,mA];omega
 refine eA.tZ (Fk O) (by simp) V ⟨_,rfl,rfl,kQ ?_⟩;rw[zm,mA];rfl
theorem uW (c:Int)(n:Nat)(hc:i64 c)(hn:n≠0):l9 TP 17 ⟨[.int .i64 c,.int .i64 n]⟩ (.int .i64 ((qv c%n:Nat):Int)):=by
 unfold i64 at hc;refine fun W=>Q1 c n (Mem.start [] W) ⟨fun h=>?_,fun h=>⟨by omega,?_⟩⟩
 ·rintro c1 rfl
  refine⟨by omega,?_⟩;rintro t rfl;refine lf ?_;have e:ab.wrap (0-ab.wrap (c+1))=((qv c:Nat):Int):=by
   rw[kS (x:=c+1) (by omega),kS (by omega),qv,if_pos h];omega
  rw[e,su]
 ·rintro t rfl
  refine lf ?_;have e:c=((qv c:Nat):Int):=by rw[qv,if_neg h];omega
  rw[e,su,←e]
def oi (n:Int):Nat:=64+qv n%1500
theorem FY (n:Int)(hn:i64 n):l9 TP 12 ⟨[.int .i64 n]⟩ (.int .i64 (oi n:Int)):=by
 refine fun W=>Sf n (Mem.start [] W) (eA.pure (uW n 1500 hn (by decide)) ⟨_,rfl,rfl,?_⟩)
 rintro _ rfl;have:=eC (qv n) (show 1500>0 by decide);refine lf ?_;rw[kS (by omega),oi];congr 1
theorem U0 (n:Nat):ia [0] n=aA n (0:UInt8):=by
 induction n with
 |zero=>rfl
 |succ n ih=>rw[ia,jJ,ih];rfl
theorem Hv (n:Nat)(hn:n≤140737488355328):l9 TP 70 ⟨[.int .i64 (n:Int)]⟩ (.string (ba (aA n 0))):=by
 refine fun W=>Tv n (Mem.start [] W) ?_
 have M:l9 TP 111 ⟨[.string (⟨#[0]⟩),.int .i64 (n:Int)]⟩ (.string ⟨(ia [0] n).toArray⟩):=fun W=>(Tryz.strings_Repeat ⟨#[0]⟩ n W (by omega) (by show 1*n≤_;omega)).mono fun e w' O=>O
 rw[U0]at M;exact eA.pure M ⟨_,rfl,rfl,lf rfl⟩
abbrev zJ2aa (a:dF)(b x2 x3:Nat)(x4 x5 c:OA):Array aa:= #[IV a.n,IV a.time,IV a.kind,IV a.story,.string a.lang,IV a.rev,IV a.base,.string a.title,.string a.author,.slice x4 a.topics.length b,.slice x5 a.blocks.length x2,IV a.lab.unt,.slice c a.lab.after.length x3,IV a.lab.appr,IV a.lab.den,IV a.editor,IV a.block,IV a.sentence,.string a.text,.string a.name,IV a.partner,IV a.cls,IV a.unt]
theorem RQ (a:dF)(g:OA)(f:Nat)(c:OA)(b:Nat)(e:OA)(d:Nat)(hm:Mem [] [] w0 W)(H:VP [] w0 R (.np 2 (.cells (zJ2aa a f b d g c e) 38) fun B=>.np 0 (.cells kAjq 38) fun h=>.ru [5,200]<|.P 3 6 (2<(a.blocks.length:Int)) (.ru [3,200]<|.sU c a.blocks.length b 9 none (some (IV 2)) 2 (ad 2)<|.ru [1,200,4,200,1,200]<|.r 2<|.ss a.text 0 (if 60<(a.text.size:Int)then 60 else(a.text.size:Int))<|.ru [1,200,4,200,1,200]<|.r 2<|.ss a.title 0 (if 60<(a.title.size:Int)then 60 else(a.title.size:Int))<|.ru [1,200,3,200,201]<|.r 1<|.rc 1 0 (.agg #[IV a.n,IV a.time,IV a.kind,IV a.story,.string a.lang,IV a.rev,IV a.base,.string (a.title.extract 0 (ad (if 60<(a.title.size:Int)then 60 else(a.title.size:Int)))),.string a.author,.slice g a.topics.length f,.slice c (ad 2) b,IV a.lab.unt,.slice e a.lab.after.length d,IV a.lab.appr,IV a.lab.den,IV a.editor,IV a.block,IV a.sentence,.string (a.text.extract 0 (ad (if 60<(a.text.size:Int)then 60 else(a.text.size:Int)))),.string a.name,IV a.partner,IV a.cls,IV a.unt]) [(B,.cells #[IV a.n,IV a.time,IV a.kind,IV a.story,.string a.lang,IV a.rev,IV a.base,.string (a.title.extract 0 (ad (if 60<(a.title.size:Int)then 60 else(a.title.size:Int)))),.string a.author,.slice g a.topics.length f,.slice c (ad 2) b,IV a.lab.unt,.slice e a.lab.after.length d,IV a.lab.appr,IV a.lab.den,IV a.editor,IV a.block,IV a.sentence,.string (a.text.extract 0 (ad (if 60<(a.text.size:Int)then 60 else(a.text.size:Int)))),.string a.name,IV a.partner,IV a.cls,IV a.unt] 38),(h,.cells #[IV a.n,IV a.time,IV a.kind,IV a.story,.string a.lang,IV a.rev,IV a.base,.string (a.title.extract 0 (ad (if 60<(a.title.size:Int)then 60 else(a.title.size:Int)))),.string a.author,.slice g a.topics.length f,.slice c (ad 2) b,IV a.lab.unt,.slice e a.lab.after.length d,IV a.lab.appr,IV a.lab.den,IV a.editor,IV a.block,IV a.sentence,.string (a.text.extract 0 (ad (if 60<(a.text.size:Int)then 60 else(a.text.size:Int)))),.string a.name,IV a.partner,IV a.cls,IV a.unt] 38)])<|.ru [5,200,1,200]<|.r 2<|.ss a.text 0 (if 60<(a.text.size:Int)then 60 else(a.text.size:Int))<|.ru [1,200,4,200,1,200]<|.r 2<|.ss a.title 0 (if 60<(a.title.size:Int)then 60 else(a.title.size:Int))<|.ru [1,200,3,200,201]<|.r 1<|.rc 1 0 (.agg #[IV a.n,IV a.time,IV a.kind,IV a.story,.string a.lang,IV a.rev,IV a.base,.string (a.title.extract 0 (ad (if 60<(a.title.size:Int)then 60 else(a.title.size:Int)))),.string a.author,.slice g a.topics.length f,.slice c a.blocks.length b,IV a.lab.unt,.slice e a.lab.after.length d,IV a.lab.appr,IV a.lab.den,IV a.editor,IV a.block,IV a.sentence,.string (a.text.extract 0 (ad (if 60<(a.text.size:Int)then 60 else(a.text.size:Int)))),.string a.name,IV a.partner,IV a.cls,IV a.unt]) [(B,.cells #[IV a.n,IV a.time,IV a.kind,IV a.story,.string a.lang,IV a.rev,IV a.base,.string (a.title.extract 0 (ad (if 60<(a.title.size:Int)then 60 else(a.title.size:Int)))),.string a.author,.slice g a.topics.length f,.slice c a.blocks.length b,IV a.lab.unt,.slice e a.lab.after.length d,IV a.lab.appr,IV a.lab.den,IV a.editor,IV a.block,IV a.sentence,.string (a.text.extract 0 (ad (if 60<(a.text.size:Int)then 60 else(a.text.size:Int)))),.string a.name,IV a.partner,IV a.cls,IV a.unt] 38),(h,.cells #[IV a.n,IV a.time,IV a.kind,IV a.story,.string a.lang,IV a.rev,IV a.base,.string (a.title.extract 0 (ad (if 60<(a.title.size:Int)then 60 else(a.title.size:Int)))),.string a.author,.slice g a.topics.length f,.slice c a.blocks.length b,IV a.lab.unt,.slice e a.lab.after.length d,IV a.lab.appr,IV a.lab.den,IV a.editor,IV a.block,IV a.sentence,.string (a.text.extract 0 (ad (if 60<(a.text.size:Int)then 60 else(a.text.size:Int)))),.string a.name,IV a.partner,IV a.cls,IV a.unt] 38)])):aE TP 14 ⟨[.agg (zJ2aa a f b d g c e)]⟩ W R:=VC.cs Tryz.func14 hm _ H
abbrev kEbq:=(.tuple #[IV 0,IV 0,.bool false]:aa)
theorem Tj (a:BA)(b:Int)(hm:Mem [] [] w0 W)(H:VP [] w0 R (.r 15<|.ix a b<|.I 2 18 ((k8 a b)=1) (.re 8 kEbq [])<|.cl 8 83 [.string a,IV (ab.wrap (b+1))] []<|.x3 fun d c e=>.rt (kCrq d c e) []<|.I 14 30 (e=0) (.re 8 kEbq [])<|.cl 6 83 [.string a,IV c] []<|.x3 fun f g h=>.rt (kCrq f g h) []<|.I 14 41 (h=0) (.re 18 kEbq [])<|.r 5<|.ss a (ab.wrap (b+1)) c<|.cl 0 86 [.string (a.extract (ad (ab.wrap (b+1))) (ad c))] []<|.ex fun i=>.rt (IV i) []<|.I 3 50 (f=i) (.re 8 kEbq [])<|.re 10 (.tuple #[IV d,IV g,.bool true]) [])):aE TP 82 ⟨[.string a,IV b,.func (.func 83) #[] #[]]⟩ W R:=VC.cs Tryz.func82 hm _ H
abbrev kEeq:=(.tuple #[sZ,IV 0,.bool false]:aa)
theorem UW (a:BA)(b:Int)(hm:Mem [] [] w0 W)(H:VP [] w0 R (.r 15<|.ix a b<|.I 2 18 ((k8 a b)=1) (.re 8 kEeq [])<|.cl 8 122 [.string a,IV (ab.wrap (b+1))] []<|.x3 fun d c e=>.rt (kDxq d c e) []<|.I 14 30 (e=0) (.re 8 kEeq [])<|.cl 6 83 [.string a,IV c] []<|.x3 fun f g h=>.rt (kCrq f g h) []<|.I 14 41 (h=0) (.re 18 kEeq [])<|.r 5<|.ss a (ab.wrap (b+1)) c<|.cl 0 86 [.string (a.extract (ad (ab.wrap (b+1))) (ad c))] []<|.ex fun i=>.rt (IV i) []<|.I 3 50 (f=i) (.re 8 kEeq [])<|.re 10 (.tuple #[.string d,IV g,.bool true]) [])):aE TP 121 ⟨[.string a,IV b,.func (.func 122) #[] #[]]⟩ W R:=VC.cs Tryz.func121 hm _ H
def mC (l:List UInt8):Option (BA×Nat):=(rdStr l).map fun p=>(⟨p.1.toArray⟩,p.2)
def me {α:Type}(rd:List UInt8→Option (α×Nat)):List UInt8→Option (α×Nat)
 |[]=>none
 | b::r=>if b=1 then(match rd r with
   |none=>none
   |some (v,k)=>(match ml (r.drop k)with
    |none=>none
    |some (c,k2)=>if c=(n7 (r.take k):Int)then some (v,1+k+k2)else none))else none
theorem drop_cons {s:List UInt8}{a:Nat}(h:a<s.length):∃b r,s.drop a=b::r∧s.drop (a+1)=r∧s[a]=b:=by
 refine⟨s[a],s.drop (a+1),aG h,rfl,rfl⟩
theorem uG {s:BA}{a:Nat}(h:a<(bb s).length):k8 s (a:Int)=1↔(bb s)[a]=1:=by
 rw[uM h];constructor
 ·intro e
  have:((bb s)[a]).toNat=1:=by
   have:(((bb s)[a]).toNat:Int)=1:=e;omega
  exact kg.1 this
 ·intro e
  show(((bb s)[a]).toNat:Int)=1;rw[e];rfl
theorem Rr {s:BA}{a:Nat}(a4:s.size<4611686018427387904)(a8:a<s.size):yF TP 82 ⟨[.string s,.int .i64 (a:Int),.func (.func 83) #[] #[]]⟩ 0 mH
  (match me ml ((bb s).drop a)with|none=>.tuple #[.int .i64 0,.int .i64 0,.bool false]|some (v,k)=>.tuple #[.int .i64 v,.int .i64 ((a+k:Nat):Int),.bool true]):=by
 intro W a9;have V:a<(bb s).length:=a8;obtain⟨b,r,e1,O,a1⟩:=drop_cons V;rw[e1];refine Tj s a (Mem.start [] W) ⟨by omega,fun M=>lf ?_,fun M=>?_⟩
 ·rw[uG V,a1]at M
  rw[me,if_neg M]
 ·rw [uG V,a1]at M
  rw[me,if_pos M];rw[kS (by omega),show(a:Int)+1=((a+1:Nat):Int)by omega];refine eA.pure (xh s _ a4) ?_;have a2:=sI (s:=s) (st:=(a+1,0)) (by omega) rfl;simp only[O]at a2;rw[a2];cases hr:ml r with
  |none=>exact⟨_,_,_,rfl,rfl,fun _=>lf rfl,fun h=>absurd h (by decide)⟩
  | some p=>
   obtain⟨v,k⟩:=p;have b3:=(pk hr).2.1;have b1:r.length=(bb s).length-(a+1):=by rw[←O,aZ]
   refine⟨_,_,_,rfl,rfl,fun h=>absurd rfl h,fun _=>?_⟩;refine eA.pure (xh s _ a4) ?_;have a6:(bb s).drop (a+1+k)=r.drop k:=by rw[←O,cV]
   have a3:=sI (s:=s) (st:=(a+1+k,0)) (by show a+1+k≤_;omega) rfl;simp only[a6]at a3;rw[a3];cases hc:ml (r.drop k)with
   |none=>exact⟨_,_,_,rfl,rfl,fun _=>lf (by simp only[hc]),fun h=>absurd h (by decide)⟩
   | some q=>
    obtain⟨c,a5⟩:=q;refine⟨_,_,_,rfl,rfl,fun h=>absurd rfl h,fun _=>⟨by rw[lB]at V b1;omega,?_⟩⟩;have a7:bb (s.extract (ad ((a+1:Nat):Int)) (ad ((a+1+k:Nat):Int)))=r.take k:=by
     rw[tA,ai,ai,O];congr 1;omega
    refine eA.tZ (C7 _ (by rw[di];omega)) (by simp) a9 ⟨_,rfl,rfl,?_⟩;rw[a7];refine⟨fun h=>lf ?_,fun h=>lf ?_⟩
    ·simp only[hc,if_neg h]
    ·simp only[hc,if_pos h,show a+(1+k+a5)=a+1+k+a5 by omega]
theorem WY {s:BA}{a:Nat}(a5:s.size<4611686018427387904)(a9:a<s.size):yF TP 121 ⟨[.string s,.int .i64 (a:Int),.func (.func 122) #[] #[]]⟩ 0 mH
  (match me mC ((bb s).drop a)with|none=>.tuple #[.string ⟨#[]⟩,.int .i64 0,.bool false]|some (v,k)=>.tuple #[.string v,.int .i64 ((a+k:Nat):Int),.bool true]):=by
 intro W b1;have V:a<(bb s).length:=a9;obtain⟨b,r,e1,O,a2⟩:=drop_cons V;rw[e1];refine UW s a (Mem.start [] W) ⟨by omega,fun M=>lf ?_,fun M=>?_⟩
 ·rw[uG V,a2]at M
  rw[me,if_neg M]
 ·rw [uG V,a2]at M
  rw[me,if_pos M];rw[kS (by omega),show(a:Int)+1=((a+1:Nat):Int)by omega];refine eA.pure (EP s _ a5) ?_;have a3:=wJ (s:=s) (st:=(a+1,0)) (by omega) rfl;simp only[O]at a3;rw[a3];cases hr:rdStr r with
  |none=>
   have a1:mC r=none:=by rw[mC,hr];rfl
   rw[a1];exact⟨_,_,_,rfl,rfl,fun _=>lf rfl,fun h=>absurd h (by decide)⟩
  | some p=>
   obtain⟨v,k⟩:=p;have a1:mC r=some (⟨v.toArray⟩,k):=by rw[mC,hr];rfl
   rw[a1];have b4:=(zt hr).2.1;have b3:r.length=(bb s).length-(a+1):=by rw[←O,aZ]
   refine⟨_,_,_,rfl,rfl,fun h=>absurd rfl h,fun _=>?_⟩;refine eA.pure (xh s _ a5) ?_;have a7:(bb s).drop (a+1+k)=r.drop k:=by rw[←O,cV]
   have a4:=sI (s:=s) (st:=(a+1+k,0)) (by show a+1+k≤_;omega) rfl;simp only[a7]at a4;rw[a4];cases hc:ml (r.drop k)with
   |none=>exact⟨_,_,_,rfl,rfl,fun _=>lf (by simp only[hc]),fun h=>absurd h (by decide)⟩
   | some q=>
    obtain⟨c,a6⟩:=q;refine⟨_,_,_,rfl,rfl,fun h=>absurd rfl h,fun _=>⟨by rw[lB]at V b3;omega,?_⟩⟩;have a8:bb (s.extract (ad ((a+1:Nat):Int)) (ad ((a+1+k:Nat):Int)))=r.take k:=by
     rw[tA,ai,ai,O];congr 1;omega
    refine eA.tZ (C7 _ (by rw[di];omega)) (by simp) b1 ⟨_,rfl,rfl,?_⟩;rw[a8];refine⟨fun h=>lf ?_,fun h=>lf ?_⟩
    ·simp only[hc,if_neg h]
    ·simp only[hc,if_pos h,show a+(1+k+a6)=a+1+k+a6 by omega]
abbrev zJ3aa (a:Bool)(b x2 x3 x4:Int)(x5 c d:Nat)(e:OA):Array aa:= #[IV b,.slice e x5 c,IV x2,PP d,IV x3,IV x4,.bool a]
theorem RP (a:Nat)(gen:Int)(h:OA)(g f:Nat)(b:Int)(c:Nat)(sz e:Int)(d:Bool)(hm:Mem [(a,.cells (zJ3aa d gen b sz e g f c h) 86)] S w0 W)(H:VP S w0 R (.r 13<|.dr 11<|.qu [3,100,4,100,2]<|.oY 2 (ab.wrap (sz-b)) fun i=>.dn<|.re 1 (IV i) [(a,.cells (zJ3aa d gen b sz e g f c h) 86)])):aE TP 23 ⟨[PP a]⟩ W R:=VC.cs Tryz.func23 hm _ H
theorem Zk (a:Nat)(gen:Int)(h:OA)(g f:Nat)(e:Int)(b:Nat)(sz d:Int)(c:Bool)(hm:Mem [(a,.cells (zJ3aa c gen e sz d g f b h) 86)] S w0 W)(H:VP S w0 R (.ru [18,200]<|.re 2 (IV gen) [(a,.cells (zJ3aa c gen e sz d g f b h) 86)])):aE TP 26 ⟨[PP a]⟩ W R:=VC.cs Tryz.func26 hm _ H
theorem RK (a:Nat)(i gen:Int)(h:OA)(g f:Nat)(e:Int)(b:Nat)(sz d:Int)(c:Bool)(hm:Mem [(a,.cells (zJ3aa c gen e sz d g f b h) 86)] S w0 W)(H:VP S w0 R (.ru [10,200]<|.li 2 4 (ab.wrap (i*sz)) fun j=>.re 1 (IV j) [(a,.cells (zJ3aa c gen e sz d g f b h) 86)])):aE TP 44 ⟨[PP a,IV i]⟩ W R:=VC.cs Tryz.func44 hm _ H
abbrev kBlq (x0 x1 x2):=(.func (.func 110) #[] #[PP x0,PP x1,PP x2]:aa)
theorem VK (a:Nat)(off:Int)(b:BA)(gen:Int)(k:OA)(j i:Nat)(h:Int)(e:Nat)(sz g:Int)(f:Bool)(hm:Mem [(a,.cells (zJ3aa f gen h sz g j i e k) 86)] S w0 W)(H:VP S w0 R (.np 2 (.cells #[PP a] 29) fun B=>.np 0 (.cells #[IV off] 3) fun c=>.np 0 (.cells #[.string b] 9) fun d=>.re 7 (kBlq B c d) [(a,.cells (zJ3aa f gen h sz g j i e k) 86),(B,.cells #[PP a] 29),(c,.cells #[IV off] 3),(kAtq d b)])):aE TP 69 ⟨[PP a,IV off,.string b]⟩ W R:=VC.cs Tryz.func69 hm _ H
theorem Wj (k l m b:Nat)(gen:Int)(h:OA)(g f:Nat)(e:Int)(a:Nat)(sz d:Int)(c:Bool)(i:aX)(hm:Mem ((b,.cells (zJ3aa c gen e sz d g f a h) 86)::i) S w0 W)(H:VP S w0 R (.r 5<|.dr 6<|.ex fun(o:List aa)=>.mU k 0 29 o (PP b)<|.qu [2,100]<|.x2 fun(p:List aa) m1=>.mU l 0 3 p (IV m1)<|.x2 fun(q:List aa) m21=>.mU m 0 9 q (.string m21)<|.dn<|.cl 0 22 [PP a,IV m1,.string m21] ((b,.cells (zJ3aa c gen e sz d g f a h) 86)::i)<|.x2 fun n j=>.rt (IV n) ((b,.cells (zJ3aa c gen e sz d g f a h) 86)::j)<|.re 2 (IV n) ((b,.cells (zJ3aa c gen e sz d g f a h) 86)::j))):aE TP 110 ⟨[PP k,PP l,PP m]⟩ W R:=VC.cs Tryz.func110 hm _ H
abbrev kDzq (x0 x1 x2 x3 x4 x5 x6):=(#[.func (.func 110) #[] #[PP x0,PP x1,PP x2],.func (.func 68) #[PP x3] #[],.func (.func 110) #[] #[PP x4,PP x5,PP x6],.func (.func 68) #[PP x3] #[]]:Array aa)
theorem Tf (b:Nat)(off:Int)(a:BA)(gen:Int)(l:OA)(k j:Nat)(i:Int)(c:Nat)(sz h:Int)(g:Bool)(hm:Mem [(b,.cells (zJ3aa g gen i sz h k j c l) 86)] S w0 W)(H:VP S w0 R (.ru [9,200]<|.r 4<|.dD<|.nm [0,1,2,7]<|.ph 14 [0,1,2,3,4,6,7,8,9,10,12] [5,11,13] 1<|.qu [4]<|.ss a 1 (a.size:Int)<|.qu [4]<|.ss a 0 1<|.qu [1]<|.dn<|.cl 69 [PP b,IV (ab.wrap (off+1)),.string (a.extract (ad 1) a.size)] [(b,.cells (zJ3aa g gen i sz h k j c l) 86)]<|.x3 fun d e f=>.rt (kBlq d e f) [(b,.cells (zJ3aa g gen i sz h k j c l) 86),(d,.cells #[PP b] 29),(e,.cells #[IV (ab.wrap (off+1))] 3),(f,.cells #[.string (a.extract (ad 1) a.size)] 9)]<|.cl 69 [PP b,IV off,.string (a.extract 0 (ad 1))] [(b,.cells (zJ3aa g gen i sz h k j c l) 86),(d,.cells #[PP b] 29),(e,.cells #[IV (ab.wrap (off+1))] 3),(f,.cells #[.string (a.extract (ad 1) a.size)] 9)]<|.x3 fun m n o=>.rt (kBlq m n o) [(b,.cells (zJ3aa g gen i sz h k j c l) 86),(d,.cells #[PP b] 29),(e,.cells #[IV (ab.wrap (off+1))] 3),(f,.cells #[.string (a.extract (ad 1) a.size)] 9),(m,.cells #[PP b] 29),(n,.cells #[IV off] 3),(o,.cells #[.string (a.extract 0 (ad 1))] 9)]<|.n2 4 (.cells (kDzq d e f c m n o) 53) fun B=>.dn<|.tl<|.re 2 (.slice (SO B) 4 4) [(b,.cells (zJ3aa g gen i sz h k j c l) 86),(d,.cells #[PP b] 29),(e,.cells #[IV (ab.wrap (off+1))] 3),(f,.cells #[.string (a.extract (ad 1) a.size)] 9),(m,.cells #[PP b] 29),(n,.cells #[IV off] 3),(o,.cells #[.string (a.extract 0 (ad 1))] 9),(B,.cells (kDzq d e f c m n o) 53)])):aE TP 49 ⟨[PP b,IV off,.string a]⟩ W R:=VC.cs Tryz.func49 hm _ H
abbrev zk (a:Int)(d:OA)(c b:Nat)(e:Int)(f:Nat)(g h:Int)(i:Bool):Array aa:=(zJ3aa i a e g h c b f d)
def zh (B:Nat)(n:OA)(m l:Nat)(o k b:Int)(e:OA)(d c:Nat)(f:Int)(g:Nat)(h i:Int)(j:Bool)(a:aX)(S:List Nat)(w0:aj)(R:bJ→aj→Prop):Prop:=
 kO TP 50 23 (KC Tryz.f50 52) [(0,PP B),(8,.slice n m l),(9,IV o),(10,IV k)] ((B,.cells (zk b e d c f g h i j) 86)::a) S w0 (lN R)
theorem CZ (B:Nat)(F:OA)(y A:Nat)(C a c:Int)(f:OA)(e d:Nat)(g:Int)(h:Nat)(j k:Int)(m:Bool)(t:aX)
 (H:
 Br (a<C)
 (∃n l:Nat,F=some ⟨n,l,none⟩∧
 (0≤a∧a<y)∧
 ∃(z:List aa) (x:aa),(∃U G,(n,bu ⟨z⟩ U G)∈((B,.cells (zk c f e d g h j k m) 86)::t))∧z[(l+(ad a))]?=some (x)∧
 ∃(q:Nat) (w:List aa) (u:List aa),x=.func (.func q) ⟨w⟩ ⟨u⟩∧uQ TP q∧
 mq TP q ⟨w++[]++u⟩ ((B,.cells (zk c f e d g h j k m) 86)::t) S w0 (fun v L'=>∃p s,v=IV s∧L'=((B,.cells (zk c f e d g h j k m) 86)::p)∧
 Bn (s=0)
 (Fin R ((B,.cells #[IV c,.slice f e d,IV g,PP h,IV j,IV k,.bool true] 86)::p) S w0 (IV s))
 (zh B (some ⟨n,l,none⟩) y A C (ab.wrap (a+(1:Int))) c f e d g h j k m p S w0 R)) (fun D L'=>pU R L' S w0 D))
 (Fin R ((B,.cells (zk c f e d g h j k m) 86)::t) S w0 (IV 0))):
 zh B F y A C a c f e d g h j k m t S w0 R:=by
 unfold zh;refine .ru 5 (.sP 11 H ?_ ?_)<;>clear H<;>intro H
 ·refine .ru 6 ?_
  obtain⟨n,l,rfl,H⟩:=H;refine .nr (E:=53) (b:=n) (o:=l) (len:=y) (cap:=A) (sz:=1) (o':=(l+(ad a))) (kd:=.i64) (i:=a) (by kernel_rfl) H.1 (by omega) ?_
  replace H:=H.2
  obtain⟨z,x,O,Q,H⟩:=H;refine .loadT (b:=n) (off:=(l+(ad a))) (T:=53) (v:=x) (by kernel_rfl) O (o4 Q (by kernel_rfl)) (.ru 5 ?_);obtain⟨q,w,u,rfl,N,H⟩:=H;refine .Et q w u [] (by kernel_rfl) N H ?_ (fun D L' M=>nK.lN gY M);clear H;rintro _ _ ⟨p,s,rfl,rfl,H⟩;refine .ru 7 (.sN 17 H ?_ ?_)<;>clear H<;>intro H
  ·refine .ru 6 (.store 0 6 (T:=4) (v:=.bool true) (by kernel_rfl) (.nm (KR Tryz.f50 27036 []) [(7,IV s)] ((B,.cells #[IV c,.slice f e d,IV g,PP h,IV j,IV k,.bool true] 86)::p) (.ru 6 (.rt gY H))))
  ·refine .ru 8 (.tT [0] 1 H)
 ·refine .ru 6 (.rt gY H)
theorem IB (a:Nat)(l:OA)(b k:Nat)(gen:Int)(j:OA)(i h:Nat)(g:Int)(c:Nat)(sz f:Int)(e:Bool)(d:aX)(hm:Mem ((a,.cells (zJ3aa e gen g sz f i h c j) 86)::d) S w0 W)
 (H:
 zh a l b k (b:Int) (0:Int) gen j i h g c sz f e d S w0 R):
 aE TP 50 ⟨[PP a,.slice l b k]⟩ W R:=by
 refine kO.cs 23 gY hm (.ru 13 (.tT [0] 1 H))
inductive lC where
 |sync:lC
 |write:Int→BA→lC
def lC.run:lC→DS→Int×DS
 | .sync,d=>d.sync
 | .write off s,d=>d.write off s
def ln:List lC→DS→Int×DS
 |[],d=>(0,d)
 |o::r,d=>if(o.run d).1=0 then ln r (o.run d).2 else o.run d
theorem Ve (d:DS):d.mT.pend=d.pend:=by
 unfold DS.mT;split
 ·rfl
 ·split<;>rfl
theorem ya (o:lC)(d:DS):(o.run d).2.pend.length≤d.pend.length+1:=by
 cases o with
 |sync=>show(d.sync).2.pend.length≤_;unfold DS.sync;split<;>simp
 |write off s=>
  show(d.write off s).2.pend.length≤_;unfold DS.write
  repeat' split
  ·simp
  ·simp[Ve,DS.put]
  ·simp
structure JS where
 gen:Int
 fp:OA
 fl:Nat
 fc:Nat
 en:Int
 sz:Int
 cu:Int
 br:Bool
abbrev jH (JB D:Nat)(j:JS):Nat×Obj:=(JB,.cells #[.int .i64 j.gen,.slice j.fp j.fl j.fc,.int .i64 j.en,.pointer (SO D),.int .i64 j.sz,.int .i64 j.cu,.bool j.br] 86)
def qF (X:aX)(JB D:Nat):lC→aa→Prop
 | .sync,v=>v=.func (.func 68) ⟨[pt D 0]⟩ ⟨[]⟩
 | .write off s,v=>∃kj ko ks,v=.func (.func 110) ⟨[]⟩ ⟨[pt kj 0,pt ko 0,pt ks 0]⟩∧l7 X kj [pt JB 0]∧l7 X ko [.int .i64 off]∧l7 X ks [.string s]
theorem qF.mono {X O:aX}{JB D:Nat}{o:lC}{v:aa}(h:qF X JB D o v)(M:∀x∈X,x∈O):qF O JB D o v:=by
 cases o with
 |sync=>exact h
 |write off s=>
  obtain⟨a4,a5,ks,V,a1,a2,a3⟩:=h;exact⟨a4,a5,ks,V,mR M _ _ a1,mR M _ _ a2,mR M _ _ a3⟩
theorem eA.dT {F:aX}{D:Nat}{v:aa}{d:DS}(told:aX)(h:lP P g args F (rT D v d))(M:∀F',mV D d F'→K v (told++F')):eA P g args (told++F) S w0 K:=
 eA.lF (L1:=told) h aw fun a1 L' O=>⟨told++L',aw,by obtain⟨rfl,V⟩:=O;exact M _ V⟩
def MF (JB D:Nat)(j:JS)(r:Int×DS)(v:aa)(L':aX):Prop:=∃F',v=.int .i64 r.1∧L'=jH JB D j::F'∧mV D r.2 F'
theorem Ox {X:aX}{JB D:Nat}{o:lC}{v:aa}(h:qF X JB D o v):∃g a2 a1,v=.func (.func g) ⟨a2⟩ ⟨a1⟩∧uQ TP g∧
  ∀{j:JS} {d:DS} {F:aX},mV D d F→d.pend.length<1000000→ri TP g ⟨a2++[]++a1⟩ (jH JB D j::F) (fun W=>zz ((jH JB D j::F).map (·.1)) X W) (MF JB D j (o.run d)) (fun _ _=>False):=by
 cases o with
 |sync=>
  refine⟨_,_,_,h,⟨_,Tryz.func68,by kernel_rfl,by kernel_rfl⟩,?_⟩;intro j d F O a3 W hm M;exact(eA.dT [jH JB D j] (TR O) (K:=MF JB D j (lC.sync.run d)) (fun F' V=>⟨F',rfl,rfl,V⟩) W hm).mono fun e a4 b5=>.inl b5
 |write off s=>
  obtain⟨b7,b9,ks,a9,⟨t1,z1,b1⟩,⟨c2,z2,b3⟩,⟨c3,z3,b4⟩⟩:=h;refine⟨_,_,_,a9,⟨_,Tryz.func110,by kernel_rfl,by kernel_rfl⟩,?_⟩;intro j d F O a3 W hm M;obtain⟨a5,a6⟩:=M _ _ _ _ b1;obtain⟨a7,b2⟩:=M _ _ _ _ b3;obtain⟨c1,a8⟩:=M _ _ _ _ b4;refine Wj b7 b9 ks JB j.gen j.fp j.fl j.fc j.en D j.sz j.cu j.br F hm ⟨_,a5,a6,rfl,_,off,a7,b2,rfl,_,s,c1,a8,rfl,?_⟩;refine eA.dT [jH JB D j] (Aj O a3) fun F' V=>⟨_,F',rfl,rfl,fun a4 b6=>.inl ⟨_,_,rfl,b6,F',rfl,rfl,V⟩⟩
def JS.after (j:JS)(e:Int):JS:=if e=0 then j else {j with br:=true}
def EN (JB D:Nat)(j:JS)(X:aX)(r:Int×DS)(v:aa)(L':aX):Prop:=∃F',v=.int .i64 r.1∧L'=jH JB D (j.after r.1)::(F'++X)∧mV D r.2 F'
theorem Hu {X:aX}{JB D Bs:Nat}{vs:List aa}{t:aC}{fz:Nat×Nat}{ops:List lC}(a1:(Bs,bu ⟨vs⟩ t fz)∈X)(a7:ops.length≤vs.length)(a2:∀i (h:i<ops.length),qF X JB D ops[i] (vs[i]'(by omega))){j:JS}{sc:Nat}(a9:ops.length≤1000){w0:aj}{S:List Nat}{r:Int×DS}:
  ∀(g i:Nat) (d:DS) (F:aX),g+i=ops.length→mV D d F→d.pend.length+g<1000000→r=ln (ops.drop i) d→
   zh JB (SO Bs) ops.length sc (ops.length:Int) (i:Int) j.gen j.fp j.fl j.fc j.en D j.sz j.cu j.br (F++X) S w0 (fun e O=>∃v L',e=.returned v∧Mem L' S w0 O∧EN JB D j X r v L')
 |0,i,d,F,hg,hd,hp,hr=>by
  apply CZ;rw[ax (by omega)]at hr;subst hr;exact no (by omega) (kR ⟨F,rfl,rfl,hd⟩)
 | g+1,i,d,F,hg,hd,hp,hr=>by
  apply CZ;have hi:i<ops.length:=by omega
  obtain⟨gf,a6,a3,e1,a4,a5⟩:=Ox (a2 i hi);rw[aG hi,ln]at hr;refine yes (by omega) ⟨Bs,0,rfl,by omega,vs,vs[i]'(by omega),⟨t,fz,ag _ (ak _ a1)⟩,by simp,gf,a6,a3,e1,a4,?_⟩;refine mq.lF (L0:=jH JB D j::F) (L1:=X) (a5 hd (by omega)) (fun O a8=>Fe a8) (ah _) ?_ (fun _ _ h=>h.elim);rintro _ _ ⟨F',rfl,rfl,V⟩;refine⟨jH JB D j::(F'++X),ah _,F'++X,_,rfl,rfl,fun M=>?_,fun M=>?_⟩
  ·rw[if_neg M]at hr
   subst hr;exact kR ⟨F',rfl,by rw[JS.after,if_neg M],V⟩
  ·rw[if_pos M]at hr
   have b1:=ya ops[i] d;rw[kS (by omega),show(i:Int)+1=((i+1:Nat):Int)by omega];exact Hu a1 a7 a2 a9 g (i+1) _ F' (by omega) V (by omega) hr
theorem DC {X:aX}{JB D Bs:Nat}{vs:List aa}{t:aC}{fz:Nat×Nat}{ops:List lC}(a1:(Bs,bu ⟨vs⟩ t fz)∈X)(O:ops.length≤vs.length)(a2:∀i (h:i<ops.length),qF X JB D ops[i] (vs[i]'(by omega))){j:JS}{sc:Nat}(V:ops.length≤1000){d:DS}{F:aX}(M:mV D d F)(hp:d.pend.length<900000):
  lP TP 50 ⟨[pt JB 0,.slice (SO Bs) ops.length sc]⟩ (jH JB D j::(F++X)) (EN JB D j X (ln ops d)):=by
 intro W hm;exact IB JB (SO Bs) ops.length sc j.gen j.fp j.fl j.fc j.en D j.sz j.cu j.br (F++X) hm (Hu a1 O a2 V ops.length 0 d F (by omega) M (by omega) (by rw[List.drop_zero]))
abbrev o9 (kj ko ks:Nat):aa:=.func (.func 110) ⟨[]⟩ ⟨[pt kj 0,pt ko 0,pt ks 0]⟩
abbrev qj (JB kj ko ks:Nat)(off:Int)(s:BA):aX:=[(kj,.cells #[pt JB 0] 29),(ko,.cells #[.int .i64 off] 3),(ks,.cells #[.string s] 9)]
theorem wE {X:aX}{JB D M O ks:Nat}{off:Int}{s:BA}(h:∀x∈qj JB M O ks off s,x∈X):qF X JB D (.write off s) (o9 M O ks):=
 ⟨M,O,ks,rfl,⟨_,_,h _ au⟩,⟨_,_,h _ (ag _ au)⟩,⟨_,_,h _ (ag _ (ag _ au))⟩⟩
theorem w9 {JB D:Nat}{j:JS}{off:Int}{s:BA}:lP TP 69 ⟨[pt JB 0,.int .i64 off,.string s]⟩ [jH JB D j] (fun v L'=>∃M O ks,v=o9 M O ks∧L'=jH JB D j::qj JB M O ks off s):=by
 intro W hm;exact VK JB off s j.gen j.fp j.fl j.fc j.en D j.sz j.cu j.br hm fun B V B2=>kR ⟨B,V,B2,rfl,rfl⟩
def tO (s:BA):BA:=s.extract 0 1
def tH (s:BA):BA:=s.extract 1 s.size
def l8 (off:Int)(s:BA):List lC:=[.write (off+1) (tH s),.sync,.write off (tO s),.sync]
def KH (X:aX)(JB D:Nat)(ops:List lC)(Bs:Nat):Prop:=∃vs t fz,(Bs,bu ⟨vs⟩ t fz)∈X∧∃hl:ops.length≤vs.length,∀i (h:i<ops.length),qF X JB D ops[i] (vs[i]'(by omega))
theorem Hw {JB D:Nat}{j:JS}{off:Int}{s:BA}(a5:1≤s.size)(a4:0≤off∧off≤4611686018427387904):lP TP 49 ⟨[pt JB 0,.int .i64 off,.string s]⟩ [jH JB D j]
  (fun v L'=>∃Bs X,v=.slice (SO Bs) 4 4∧L'=jH JB D j::X∧KH X JB D (l8 off s) Bs):=by
 intro W hm;refine Tf JB off s j.gen j.fp j.fl j.fc j.en D j.sz j.cu j.br hm ⟨by omega,by omega,?_⟩;have e1:ab.wrap (off+1)=off+1:=kS (by omega);refine eA.lF (L1:=[]) (w9 (j:=j) (D:=D)) (ah _) ?_;rintro _ _ ⟨M,O,ks,rfl,rfl⟩;refine⟨_,ah _,M,O,ks,rfl,rfl,?_⟩;refine eA.lF (L0:=[jH JB D j]) (L1:=qj JB M O ks _ _) (w9 (j:=j) (D:=D)) (ah _) ?_;rintro _ _ ⟨V,a1,a2,rfl,rfl⟩;refine⟨jH JB D j::(qj JB M O ks _ _++qj JB V a1 a2 _ _),eS _ aw,V,a1,a2,rfl,rfl,fun B=>?_⟩;refine kR ⟨B,qj JB M O ks (off+1) (tH s)++qj JB V a1 a2 off (tO s)++[(B,.cells #[o9 M O ks,.func (.func 68) ⟨[pt D 0]⟩ ⟨[]⟩,o9 V a1 a2,.func (.func 68) ⟨[pt D 0]⟩ ⟨[]⟩] 53)],rfl,?_,[o9 M O ks,.func (.func 68) ⟨[pt D 0]⟩ ⟨[]⟩,o9 V a1 a2,.func (.func 68) ⟨[pt D 0]⟩ ⟨[]⟩],_,_,ak _ au,aD 4,?_⟩
 ·try dsimp only
  rw[e1];rfl
 ·intro i hi
  match i,hi with
  |0,_=>exact wE fun x a3=>ay _ (ay _ a3)
  |1,_=>exact rfl
  |2,_=>exact wE fun x a3=>ay _ (ak _ a3)
  |3,_=>exact rfl
def u0 (f:dF):dF:={f with blocks:=f.blocks.take 2,text:=rB f.text 60,title:=rB f.title 60}
theorem pb.Zb {p:OA}{l:List kT}(h:mY lk p l)(n:Nat):mY lk p (l.take n):=by
 intro hp;rw[ao]at hp;obtain⟨b,o,c,M,O,V⟩:=h (by omega);refine⟨b,o,c,M,O,fun i hi=>?_⟩;rw[ao]at hi;rw[fO];exact V i (by omega)
theorem xT.at {f:dF}(h:xT lk f tp tc bp bc ap ac):lv lk f tp tc bp bc ap ac:=by
 refine⟨h.tops,fun hp=>?_,h.ints,h.ct,h.cb,h.ca,h.fits⟩;obtain⟨b,o,c,O,V,M⟩:=h.blks hp;refine⟨b,o,c,O,V,fun i hi=>⟨(M i hi).1,?_⟩⟩;obtain⟨p,q,e,k1,a1,a2⟩:=(M i hi).2;exact⟨p,q,e,k1,a1⟩
theorem ZI {f:dF}(h:f.Fits):(u0 f).Fits:=
 ⟨⟨h.1.1,by show(rB f.title 60).size≤_;rw[LK];omega,h.1.2.2.1,by show(rB f.text 60).size≤_;rw[LK];omega,h.1.2.2.2.2⟩,h.2.1,by show(f.blocks.take 2).length≤_;rw[ao];omega,h.2.2.2⟩
theorem Zc {f:dF}(h:lv lk f tp tc bp bc ap ac):lv lk (u0 f) tp tc bp bc ap ac:=
 ⟨h.tops,pb.Zb h.blks 2,h.ints,h.ct,bC (by show(f.blocks.take 2).length≤f.blocks.length;rw[ao];omega) h.cb,h.ca,ZI h.fits⟩
theorem QG {f:dF}(a1:f.blocks.length≤bc):l9 TP 14 ⟨[.agg ⟨f.cells tp tc bp bc ap ac⟩]⟩ (.agg ⟨(u0 f).cells tp tc bp bc ap ac⟩):=by
 intro W;have e1:=Jf (s:=f.text) (n:=60) (i:=60) rfl;have O:=Jf (s:=f.title) (n:=60) (i:=60) rfl;refine RQ f tp tc bp bc ap ac (Mem.start [] W) fun B V=>⟨fun h=>⟨by omega,by split<;>omega,by split<;>omega,lf ?_⟩,fun h=>⟨by split<;>omega,by split<;>omega,lf ?_⟩⟩
 ·have M:(u0 f).blocks.length=2:=by show(f.blocks.take 2).length=2;rw[ao];omega
  delta dF.cells
  rw[e1,O,M];rfl
 ·have M:(u0 f).blocks.length=f.blocks.length:=by show(f.blocks.take 2).length=_;rw[ao];omega
  delta dF.cells
  rw[e1,O,M];rfl
abbrev yJ4aa (a:BA)(b:Nat)(x2:aX):aX:=(b,.cells #[.string a] 9)::x2
theorem Tw (b:BA)(a:Int)(hm:Mem [] [] w0 W)(H:VP [] w0 R (.np 2 (.cells #[.string b] 9) fun B=>.np 0 (.cells #[IV a] 3) fun c=>.re 7 (.func (.func 120) #[] #[PP c,PP B]) [(kAtq B b),(c,.cells #[IV a] 3)])):aE TP 84 ⟨[.string b,IV a]⟩ W R:=VC.cs Tryz.func84 hm _ H
def yu (B d:Nat)(b:Int)(c:BA)(a:aX)(S:List Nat)(w0:aj)(R:bJ→aj→Prop):Prop:=
 kO TP 120 36 (KC Tryz.f120 12) [(0,.func (.yield d) #[] #[]),(2,PP B),(4,IV b)] (yJ4aa c B a) S w0 (lN R)
theorem Kp (B f:Nat)(c:Int)(a:BA)(b:aX)
 (H:
 Br (c<(a.size:Int))
 ((0≤c∧c<a.size)∧
 Bn ((k8 a c)=(0:Int))
 (eA TP 121 ⟨[.string a,IV c,.func (.func 122) #[] #[]]⟩ (yJ4aa a B b) S w0 (fun v L'=>∃e d h,v=(.tuple #[.string e,IV d,.bool h])∧L'=(yJ4aa a B b)∧
 Bb (h)
 (oD TP f ⟨[.string e,IV d]⟩ (yJ4aa a B b) S w0 (fun v L'=>∃go g,v=.bool go∧L'=(yJ4aa a B g)∧
 Bb (go)
 (yu B f d a g S w0 R)
 (Fin R (yJ4aa a B g) S w0 (.tuple #[]))))
 (Fin R (yJ4aa a B b) S w0 (.tuple #[]))))
 (Fin R (yJ4aa a B b) S w0 (.tuple #[])))
 (Fin R (yJ4aa a B b) S w0 (.tuple #[]))):
 yu B f c a b S w0 R:=by
 unfold yu;refine .ru 4 (.ld 0 0 (.ru 3 (.sP 13 H (fun H=>?_) fun H=>?_)))
 ·refine .ld 0 0 (.ru 1 (.sg (s:=a) (kd:=.i64) (i:=c) (by kernel_rfl) H.1 ?_))
  replace H:=H.2
  refine .ru 3 (.sN 18 H (fun H=>?_) fun H=>?_)
  ·refine .ru 5 (.ld 0 0 (.ru 1 (.cl H ?_)))
   rintro _ _ ⟨e,d,h,rfl,rfl,H⟩;refine .nm (KR Tryz.f120 100 [3,4,5,6,7,8,9]) [(0,.func (.yield f) #[] #[]),(2,PP B),(22,.tuple #[.string e,IV d,.bool h])] (yJ4aa a B b) (.ru 12 (.sB 26 H (fun H=>?_) fun H=>?_))
   ·refine .ru 5 (.yield f ⟨[.string e,IV d]⟩ (fun W=>by kernel_rfl) (by kernel_rfl) H ?_)
    rintro _ _ ⟨go,g,rfl,rfl,H⟩;refine .sB 32 H (fun H=>?_) fun H=>?_
    ·refine .ru 11 (.tT [0] 1 H)
    ·refine .ru 4 (.rt fK H)
   ·refine .ru 10 (.rt fK H)
  ·refine .ru 2 (.rt fK H)
 ·refine .ru 8 (.rt fK H)
theorem WJ (f c a:Nat)(d:Int)(e:BA)(b:aX)(hm:Mem ((c,.cells #[IV d] 3)::(kAtq a e)::b) S w0 W)
 (H:
 yu a f d e b S w0 R):
 aE TP 120 ⟨[.func (.yield f) #[] #[],PP c,PP a]⟩ W R:=by
 refine kO.cs 36 fK hm (.ru 2 (.ld 0 0 (.ru 4 (.tT [1] 2 H))))
def tr:Nat→List UInt8→Nat→Option (List dF×Nat)
 |0,l,n=>if l=[]then some ([],0)else none
 | f+1,l,n=>match l with
  |[]=>some ([],0)
  |b::r=>if b=0 then some ([],0)else(match me mC (b::r)with
   |none=>none
   |some (t,k)=>if(l6 (bb t)).2=0∧(l6 (bb t)).1.n=(n:Int)then(tr f ((b::r).drop k) (n+1)).map (fun q=>((l6 (bb t)).1::q.1,k+q.2))else none)
theorem Cm {α:Type}{rd:List UInt8→Option (α×Nat)}{l:List UInt8}{v:α}{k:Nat}(h:me rd l=some (v,k)):0<k:=by
 cases l with
 |nil=>cases h
 |cons b r=>
  rw[me]at h
  repeat' split at h
  all_goals first|cases h;done|skip
  all_goals (simp only[al,af]at h;omega)
theorem Mv {α:Type}{rd:List UInt8→Option (α×Nat)}(O:∀l v k,rd l=some (v,k)→k≤l.length){l:List UInt8}{v:α}{k:Nat}(h:me rd l=some (v,k)):k≤l.length:=by
 cases l with
 |nil=>cases h
 | cons b r=>
  rw[me]at h;split at h
  ·split at h
   ·cases h
   ·next v' k' hv=>
    have V:=O _ _ _ hv;split at h
    ·cases h
    ·next c k2 hc=>
     have M:=(pk hc).2.1;split at h
     ·simp only[al,af]at h
      rw[aZ]at M;simp only[aI];omega
     ·cases h
  ·cases h
theorem W4 (l:List UInt8)(v:BA)(k:Nat)(h:mC l=some (v,k)):k≤l.length:=by
 rw[mC,Option.map_eq_some_iff]at h;obtain⟨⟨t,k'⟩,M,O⟩:=h;simp only[af]at O;have:=(zt M).2.1;omega
theorem Vk:∀(f:Nat) (l:List UInt8) (n:Nat),l.length≤f→tr f l n=tr l.length l n:=by
 intro f;induction f using Nat.strongRecOn with
 | _ f ih=>
  intro l n h;cases l with
  |nil=>cases f<;>rfl
  | cons b r=>
   cases f with
   |zero=>simp at h
   | succ f=>
    rw[aI];rw[tr,tr];split
    ·rfl
    ·cases hf:me mC (b::r)with
     |none=>rfl
     | some p=>
      obtain⟨t,k⟩:=p;simp only;split
      ·have O:=Cm hf
       have M:((b::r).drop k).length≤r.length:=by rw[aZ,aI];omega
       simp only[aI]at h;rw[ih f (by omega) _ _ (by omega)];rcases cy r.length (f+1)with hlt|hge
       ·rw[ih r.length (by omega) _ _ M]
       ·omega
      ·rfl
abbrev pY (B:Nat)(s:BA):Nat×Obj:=(B,.cells #[.string s] 9)
theorem rC {s:BA}{a:Nat}(h:a<(bb s).length):k8 s (a:Int)=0↔(bb s)[a]=0:=by
 rw[uM h];constructor
 ·intro e
  have:((bb s)[a]).toNat=0:=by
   have:(((bb s)[a]).toNat:Int)=0:=e;omega
  exact kg.1 this
 ·intro e
  show(((bb s)[a]).toNat:Int)=0;rw[e];rfl
def Stop (s:List UInt8)(a:Nat):Prop:=s.length≤a∨∃h:a<s.length,s[a]=0∨(s[a]≠0∧me mC (s.drop a)=none)
abbrev sC (t:BA)(n:Nat):Prop:=(l6 (bb t)).2=0∧(l6 (bb t)).1.n=(n:Int)
theorem J8 {M a7:Nat}{s:BA}(a5:s.size<4611686018427387904)(a2:0∉S)(a4:lG w0 0=some mH){I:List dF→Nat→aX→Prop}{J:aX→Prop}
  (a6:∀l a F t k,a<(bb s).length→I l a F→me mC ((bb s).drop a)=some (t,k)→oD TP a7 ⟨[.string t,.int .i64 ((a+k:Nat):Int)]⟩ (pY M s::F) S w0
   (fun v L'=>∃F',L'=pY M s::F'∧((v=.bool true∧sC t (l.length+1)∧I (l++[(l6 (bb t)).1]) (a+k) F')∨(v=.bool false∧¬sC t (l.length+1)∧J F'))))
  (O:∀l a F,I l a F→Stop (bb s) a→Fin R (pY M s::F) S w0 (.tuple #[]))(a3:∀F,J F→Fin R (pY M s::F) S w0 (.tuple #[])):
  ∀(g a:Nat) (l:List dF) (F:aX),s.size≤g+a→I l a F→yu M a7 (a:Int) s F S w0 R
 |0,a,l,F,hga,hI=>by
  apply Kp;exact no (by omega) (O l a F hI (.inl (by rw[lB];omega)))
 | g+1,a,l,F,hga,hI=>by
  apply Kp;rcases cy a s.size with ha|ha
  ·have V:a<(bb s).length:=ha
   refine yes (by omega) ⟨by omega,⟨fun b1=>?_,fun a9=>O l a F hI (.inr ⟨V,.inl ((rC V).1 a9)⟩)⟩⟩;refine eA.tZ (WY a5 ha) a2 a4 ?_;cases hf:me mC ((bb s).drop a)with
   |none=>exact⟨_,_,_,rfl,rfl,fun h=>de h,fun _=>O l a F hI (.inr ⟨V,.inr ⟨fun h=>b1 ((rC V).2 h),hf⟩⟩)⟩
   |some p=>
    obtain⟨t,k⟩:=p;have b3:=Cm hf;refine⟨_,_,_,rfl,rfl,fun _=>(a6 l a F t k V hI hf).mono ?_,fun h=>de h⟩;rintro v L' ⟨F',rfl,⟨rfl,a8,a1⟩|⟨rfl,a8,a1⟩⟩
    ·exact⟨true,F',rfl,rfl,fun _=>J8 a5 a2 a4 a6 O a3 g (a+k) _ F' (by omega) a1,fun h=>de h⟩
    ·exact⟨false,F',rfl,rfl,fun h=>de h,fun _=>a3 F' a1⟩
  ·exact no (by omega) (O l a F hI (.inl (by rw[lB];omega)))
abbrev kAnq (x0 x1 x2 x3 x4 x5):=((x0,.cells #[IV x1,.slice x2 x3 x4,IV x5] 84):Nat×Obj)
theorem V1 (a:Nat)(gen:Int)(f:OA)(b e:Nat)(d:Int)(c:aX)(hm:Mem ((kAnq a gen f b e d)::c) S w0 W)(H:VP S w0 R (.ru [9,200]<|.li 3 2 (ab.wrap ((b:Int)+1)) fun g=>.re 1 (IV g) ((kAnq a gen f b e d)::c))):aE TP 53 ⟨[PP a]⟩ W R:=VC.cs Tryz.func53 hm _ H
abbrev hH (HB:Nat)(gen:Int)(p:OA)(n c:Nat)(en:Int):Nat×Obj:=(HB,.cells #[.int .i64 gen,.slice p n c,.int .i64 en] 84)
theorem oD.perm {l:Nat}{L L':aX}(hp:L'.Perm L)(h:oD P l args L' S w0 K):oD P l args L S w0 K:=
 fun W hm=>h W (hm.perm hp)
theorem oD.nd {l:Nat}{L:aX}(h:oD P l args L S w0 K)(a4:∀v L',K v L'→∃M,M.Perm L'∧K' v M):oD P l args L S w0 K':=by
 intro W hm;obtain⟨fn,tmps,assign,body,O,V⟩:=h W hm;refine⟨fn,tmps,assign,body,O,fun c cs=>?_⟩;obtain⟨v,w',⟨L',a1,a2⟩,a3⟩:=V c cs;obtain⟨M,hp,a5⟩:=a4 v L' a2;exact⟨v,w',⟨M,a1.perm hp,a5⟩,a3⟩
theorem UB (f:OA)(a g:Nat)(hm:Mem [] [] w0 W)
 (H:
 ((f=none)→
 Fin R [] [] w0 (.slice none 0 0))∧
 (∀b:Addr,f=some b→
 ∀B:Nat,
 ∃d:List aa,(∀W,Mem [(B,.cells #[] 3)] [] w0 W→eB TP 1 34 (.slice (some b) a g) a d W)∧
 (0≤0∧(([]:List aa)).length=0*1)∧((0+a)≤9223372036854775807∧(0+a)*8≤140737488355328)∧
 ∀(e c:Nat) (r:List aa),(0+a)≤c→((([]:List aa)).take (0*1)++d++r).length=c*1→
 Fin R [(e,.cells ⟨((([]:List aa)).take (0*1)++d++r)⟩ 3)] [] w0 (.slice (SO e) (0+a) c))):
 aE TP 90 ⟨[.slice f a g]⟩ W R:=by
 refine kO.cs 8 ju hm (.ru 8 ?_);rcases f with _|b
 ·replace H:=H.1 rfl
  refine .ru 7 (.rt ju H)
 ·replace H:=H.2 b rfl
  refine .ru 6 (.nw (fun B=>.slice (SO B) 0 0) (.cells #[] 3) fun B=>?_)
  replace H:=H B
  refine .ru 1 ?_;obtain⟨d,j,H⟩:=H;refine .xw 0 (T:=34) (U:=34) (E:=3) (z:=IV 0) (sz:=1) (bytes:=8) (len:=0) (cap:=0) (x:=.slice (some b) a g) (cs:=([]:List aa)) a d (by kernel_rfl) j H.1 H.2.1 (fun e c r h i=>?_)
  replace H:=H.2.2 e c r h i
  refine .ru 2 (.rt ju H)
theorem VA (f:OA)(a g:Nat)(hm:Mem [] [] w0 W)
 (H:
 ((f=none)→
 Fin R [] [] w0 (.slice none 0 0))∧
 (∀b:Addr,f=some b→
 ∀B:Nat,
 ∃d:List aa,(∀W,Mem [(B,.cells #[] 9)] [] w0 W→eB TP 1 32 (.slice (some b) a g) a d W)∧
 (0≤0∧(([]:List aa)).length=0*1)∧((0+a)≤9223372036854775807∧(0+a)*16≤140737488355328)∧
 ∀(e c:Nat) (r:List aa),(0+a)≤c→((([]:List aa)).take (0*1)++d++r).length=c*1→
 Fin R [(e,.cells ⟨((([]:List aa)).take (0*1)++d++r)⟩ 9)] [] w0 (.slice (SO e) (0+a) c))):
 aE TP 88 ⟨[.slice f a g]⟩ W R:=by
 refine kO.cs 8 jv hm (.ru 8 ?_);rcases f with _|b
 ·replace H:=H.1 rfl
  refine .ru 7 (.rt jv H)
 ·replace H:=H.2 b rfl
  refine .ru 6 (.nw (fun B=>.slice (SO B) 0 0) (.cells #[] 9) fun B=>?_)
  replace H:=H B
  refine .ru 1 ?_;obtain⟨d,j,H⟩:=H;refine .xw 0 (T:=32) (U:=32) (E:=9) (z:=sZ) (sz:=1) (bytes:=16) (len:=0) (cap:=0) (x:=.slice (some b) a g) (cs:=([]:List aa)) a d (by kernel_rfl) j H.1 H.2.1 (fun e c r h i=>?_)
  replace H:=H.2.2 e c r h i
  refine .ru 2 (.rt jv H)
theorem Sh (f:OA)(a g:Nat)(hm:Mem [] [] w0 W)
 (H:
 ((f=none)→
 Fin R [] [] w0 (.slice none 0 0))∧
 (∀b:Addr,f=some b→
 ∀B:Nat,
 ∃d:List aa,(∀W,Mem [(B,.cells #[] 149)] [] w0 W→eB TP 9 33 (.slice (some b) a g) a d W)∧
 (0≤0∧(([]:List aa)).length=0*9)∧((0+a)≤9223372036854775807∧(0+a)*96≤140737488355328)∧
 ∀(e c:Nat) (r:List aa),(0+a)≤c→((([]:List aa)).take (0*9)++d++r).length=c*9→
 Fin R [(e,.cells ⟨((([]:List aa)).take (0*9)++d++r)⟩ 149)] [] w0 (.slice (SO e) (0+a) c))):
 aE TP 89 ⟨[.slice f a g]⟩ W R:=by
 refine kO.cs 8 jw hm (.ru 8 ?_);rcases f with _|b
 ·replace H:=H.1 rfl
  refine .ru 7 (.rt jw H)
 ·replace H:=H.2 b rfl
  refine .ru 6 (.nw (fun B=>.slice (SO B) 0 0) (.cells #[] 149) fun B=>?_)
  replace H:=H B
  refine .ru 1 ?_;obtain⟨d,j,H⟩:=H;refine .xw 0 (T:=33) (U:=33) (E:=149) (z:=.agg kBdq) (sz:=9) (bytes:=96) (len:=0) (cap:=0) (x:=.slice (some b) a g) (cs:=([]:List aa)) a d (by kernel_rfl) j H.1 H.2.1 (fun e c r h i=>?_)
  replace H:=H.2.2 e c r h i
  refine .ru 2 (.rt jw H)
theorem Rx (f:OA)(a g:Nat)(hm:Mem [] [] w0 W)
 (H:
 ((f=none)→
 Fin R [] [] w0 (.slice none 0 0))∧
 (∀b:Addr,f=some b→
 ∀B:Nat,
 ∃d:List aa,(∀W,Mem [(B,.cells #[] 38)] [] w0 W→eB TP 23 22 (.slice (some b) a g) a d W)∧
 (0≤0∧(([]:List aa)).length=0*23)∧((0+a)≤9223372036854775807∧(0+a)*272≤140737488355328)∧
 ∀(e c:Nat) (r:List aa),(0+a)≤c→((([]:List aa)).take (0*23)++d++r).length=c*23→
 Fin R [(e,.cells ⟨((([]:List aa)).take (0*23)++d++r)⟩ 38)] [] w0 (.slice (SO e) (0+a) c))):
 aE TP 51 ⟨[.slice f a g]⟩ W R:=by
 refine kO.cs 8 jx hm (.ru 8 ?_);rcases f with _|b
 ·replace H:=H.1 rfl
  refine .ru 7 (.rt jx H)
 ·replace H:=H.2 b rfl
  refine .ru 6 (.nw (fun B=>.slice (SO B) 0 0) (.cells #[] 38) fun B=>?_)
  replace H:=H B
  refine .ru 1 ?_;obtain⟨d,j,H⟩:=H;refine .xw 0 (T:=22) (U:=22) (E:=38) (z:=.agg kAjq) (sz:=23) (bytes:=272) (len:=0) (cap:=0) (x:=.slice (some b) a g) (cs:=([]:List aa)) a d (by kernel_rfl) j H.1 H.2.1 (fun e c r h i=>?_)
  replace H:=H.2.2 e c r h i
  refine .ru 2 (.rt jx H)
abbrev mI:Lk:=fun _ _=>False
theorem vq {F:aX}:∀b c,mJ F mI b c→l7 F b c:=by
 rintro b c (h|h)
 ·exact h
 ·exact h.elim
theorem H4 {p:OA}{c:Nat}{l:List Int}(h:lX lk p l)(a3:l.length≤1000000):m0 TP 90 ⟨[.slice p l.length c]⟩ [] (fun W=>∀b c,lk b c→kY W b c)
  (fun v F=>∃p' c',v=.slice p' l.length c'∧l.length≤c'∧lX (l7 F) p' l):=by
 intro W hm a2;refine UB p l.length c hm ⟨fun hp=>?_,fun a V B=>?_⟩
 ·have M:l.length=0:=by
   rcases bX l.length with M|M
   ·exact M
   ·obtain⟨b,o,cs,e,_⟩:=h M
    rw[hp]at e;cases e
  exact kR ⟨none,0,by rw[M],by omega,Al M⟩
 ·subst V
  refine⟨_,CC h fun W hm=>fun b c a1=>lK hm b c (a2 b c a1),⟨aD _,rfl⟩,by omega,fun O cap r a4 a5=>kR ⟨some ⟨O,0,none⟩,cap,by rw[az],by omega,?_⟩⟩;exact(Cd (lk:=mI) (r:=r) au).mono vq
theorem Wa {p:OA}{c:Nat}{l:List BA}(h:nh lk p l)(a3:l.length≤1000000):m0 TP 88 ⟨[.slice p l.length c]⟩ [] (fun W=>∀b c,lk b c→kY W b c)
  (fun v F=>∃p' c',v=.slice p' l.length c'∧l.length≤c'∧nh (l7 F) p' l):=by
 intro W hm a2;refine VA p l.length c hm ⟨fun hp=>?_,fun a V B=>?_⟩
 ·have M:l.length=0:=by
   rcases bX l.length with M|M
   ·exact M
   ·obtain⟨b,o,cs,e,_⟩:=h M
    rw[hp]at e;cases e
  exact kR ⟨none,0,by rw[M],by omega,E6 M⟩
 ·subst V
  refine⟨_,J9 h fun W hm=>fun b c a1=>lK hm b c (a2 b c a1),⟨aD _,rfl⟩,by omega,fun O cap r a4 a5=>kR ⟨some ⟨O,0,none⟩,cap,by rw[az],by omega,?_⟩⟩;exact(DJ (lk:=mI) (r:=r) au).mono vq
theorem Uk {f:dF}(h:f.ok=true)(O:uE f.kind=true):(vX f).ok=true:=by
 have O:=of_decide_eq_true O;rw[dF.ok]at h ⊢;simp only[av,decide_eq_true_eq]at h ⊢;refine⟨h.1,?_,rfl⟩;have M:=h.2.1;have a1:f.mX=true:=by
  unfold dF.lr at M;rcases O with e|e|e<;> · rw[e]at M;simp at M;simp[M]
 unfold dF.lr;have V:(vX f).kind=10:=rfl;rw[V];simp;exact a1
theorem Jv {f:dF}(h:f.ok=true):(nn f).ok=true:=by
 cases hk:uE f.kind with
 |true=>rw[nn,if_pos hk];exact Uk h hk
 |false=>rw[nn,if_neg (by rw[hk];decide)];exact h
theorem Sa (f:dF):(nn f).n=f.n:=by
 unfold nn;split<;>rfl
def nR (lk:Lk)(cs:List aa)(l:List dF):Prop:=∀i (h:i<l.length),i*23+23≤cs.length∧sD lk ((cs.drop (i*23)).take 23) l[i]
theorem nR.mono {lk M:Lk}{cs:List aa}{l:List dF}(h:nR lk cs l)(O:∀b c,lk b c→M b c):nR M cs l:=fun i hi=>⟨(h i hi).1,(h i hi).2.mono O⟩
theorem nR.app {cs r:List aa}{l:List dF}{f:dF}{tc bc ac cap M:Nat}(h:nR lk cs l)(O:l.length≤cap)(V:cs.length=cap*23)(a1:lv lk f tp tc bp bc ap ac)
  (a4:l.length+1≤M)(a2:(cs.take (l.length*23)++f.cells tp tc bp bc ap ac++r).length=M*23):nR lk (cs.take (l.length*23)++f.cells tp tc bp bc ap ac++r) (l++[f]):=by
 have hn:l.length*23≤cs.length:=by rw[V];exact Nat.mul_le_mul_right _ O
 intro i hi;have a3:i<l.length+1:=by simpa using hi
 refine⟨by rw[a2];omega,?_⟩;rcases cy i l.length with hlt|hge
 ·rw[Oh hlt hn,ek hlt]
  exact(h i hlt).2
 ·have:i=l.length:=by omega
  subst this;rw[HP hn rfl];simp only[iv (aD _),Nat.sub_self,List.getElem_cons_zero];exact⟨tp,tc,bp,bc,ap,ac,rfl,a1⟩
theorem nR.one {r:List aa}{f:dF}{tc bc ac cap:Nat}(M:lv lk f tp tc bp bc ap ac)(V:1≤cap)(O:(f.cells tp tc bp bc ap ac++r).length=cap*23):nR lk (f.cells tp tc bp bc ap ac++r) [f]:=by
 intro i hi;have:i=0:=by simp at hi;omega
 subst this;refine⟨by rw[O];omega,tp,tc,bp,bc,ap,ac,?_,M⟩;simp
theorem nR.vO {cs r:List aa}{l:List dF}(h:nR lk cs l):nR lk (cs++r) l:=by
 intro i hi;have:=(h i hi).1;refine⟨by rw[ae];omega,?_⟩;rw[fa (by omega),fb (by rw[aZ];omega)];exact(h i hi).2
theorem nR.take {cs:List aa}{l:List dF}(h:nR lk cs l)(n:Nat):nR lk cs (l.take n):=by
 intro i hi;rw[ao]at hi;rw[fO];exact h i (by omega)
theorem Sd {p:OA}:pP lk p []:=fun h=>absurd h (by simp)
theorem nR.at {cs:List aa}{l:List dF}{B:Nat}(h:nR lk cs l)(M:lk B cs):pP lk (SO B) l:=
 fun _=>⟨B,0,cs,rfl,M,fun i hi=>⟨by rw[az];exact(h i hi).1,by rw[az];exact(h i hi).2⟩⟩
theorem ME {cs vs:List aa}{i j:Nat}(M:vs.length=23)(O:i*23+23≤cs.length)(h:j≠i):((over cs (i*23) vs).drop (j*23)).take 23=(cs.drop (j*23)).take 23:=by
 apply List.ext_getElem?;intro q
 by_cases hq:q<23
 ·rw[bh hq,bh hq,cd,cd]
  unfold over;rcases cy j i with hji|hji
  ·rw[an,dG (by rw[ao];omega),bh (by omega)]
  ·rw[iq (by rw[ae,ao];omega),cd,ae,ao,M]
   congr 1;omega
 ·rw[cQ (by rw[ao];omega),cQ (by rw[ao];omega)]
theorem XV {cs vs:List aa}{i:Nat}(O:vs.length=23)(V:i*23+23≤cs.length):((over cs (i*23) vs).drop (i*23)).take 23=vs:=by
 unfold over;have M:(cs.take (i*23)).length=i*23:=by rw[ao];omega
 rw[an,List.drop_left' M,fk O]
theorem Vq (f:dF)(tp:OA)(tc:Nat)(bp:OA)(bc:Nat)(ap:OA)(ac:Nat):∀u∈f.cells tp tc bp bc ap ac,u.oneCell'=true:=by
 intro u M;simp only[dF.cells,bT,List.not_mem_nil,or_false]at M;rcases M with rfl|rfl|rfl|rfl|rfl|rfl|rfl|rfl|rfl|rfl|rfl|rfl|rfl|rfl|rfl|rfl|rfl|rfl|rfl|rfl|rfl|rfl|rfl<;>rfl
theorem Q4 {c:List aa}{o n:Nat}:(c.drop o).take ((n+1)*23)=(c.drop o).take (n*23)++(c.drop (o+n*23)).take 23:=by
 rw[show(n+1)*23=n*23+23 by omega,List.take_add,cV]
theorem Fc {c:List aa}{o:Nat}{l:List dF}(h:∀i (h:i<l.length),o+i*23+23≤c.length∧sD lk ((c.drop (o+i*23)).take 23) l[i]):∀n,n≤l.length→∀u∈(c.drop o).take (n*23),u.oneCell'=true
 |0,_,u,hu=>by simp at hu
 | n+1,hn,u,hu=>by
  rw[Q4]at hu;rcases List.mem_append.1 hu with h1|h1
  ·exact Fc h n (by omega) u h1
  ·obtain⟨tp,tc,bp,bc,ap,ac,e,_⟩:=(h n (by omega)).2
   rw[e]at h1;exact Vq _ _ _ _ _ _ _ u h1
theorem YZ {L:aX}{w0:aj}{lk:Lk}{p:OA}{c:Nat}{l:List dF}(h:pP lk p l)(a1:∀W,Mem L [] w0 W→∀b c,lk b c→kY W b c):
  ∃news,(∀W,Mem L [] w0 W→eB TP 23 22 (.slice p l.length c) l.length news W)∧news.length=l.length*23∧nR lk news l:=by
 rcases bX l.length with h0|hpos
 ·have:l=[]:=aQ.1 h0
  subst this;refine⟨[],?_,rfl,fun i hi=>absurd hi (by simp)⟩;cases p with
  |none=>exact yQ (E':=38) (by kernel_rfl)
  |some a=>exact uw (E':=38) (by kernel_rfl) (Src.nil a) rfl (fun u a2=>absurd a2 (by simp))
 ·obtain⟨b,o,cs,rfl,V,O⟩:=h hpos
  have a3:=(O (l.length-1) (by omega)).1;have M:((cs.drop o).take (l.length*23)).length=l.length*23:=by rw[ao,aZ];omega
  refine⟨(cs.drop o).take (l.length*23),uw (E':=38) (by kernel_rfl) (BO (fun W hm=>a1 W hm _ _ V) fun i hi=>?_) M (Fc O l.length (aD _)),M,fun i hi=>⟨by rw[M];omega,?_⟩⟩
  ·rw[M]at hi
   rw[bh hi,cd]
  ·have:(((cs.drop o).take (l.length*23)).drop (i*23)).take 23=(cs.drop (o+i*23)).take 23:=by
    rw[List.drop_take,cV,List.take_take,Nat.min_eq_left (by omega)]
   rw[this];exact(O i hi).2
theorem N4 {f:dF}{y:k9}:∀(l:List k9) (g:dF),y∉l→(l.foldl (fun g x=>g.set x (f.get x)) g).get y=g.get y
 |[],_,_=>rfl
 |x::l,g,h=>by
  rw[List.foldl_cons,N4 l _ (fun hm=>h (ag _ hm)),dF.Bf _ (fun e=>h (by rw[e];exact au))]
theorem Ln:∀(l M:List kT),uu M l=true→∀b∈l,b.ok=true
 |[],_,_,b,hb=>by cases hb
 |a::l,M,h,b,hb=>by
  rw[uu]at h;simp only[av]at h;rcases bT.1 hb with rfl|hb
  ·exact h.1
  ·exact Ln l _ h.2.2 b hb
theorem V5 {l:mi}(h:l.ok=true):l.after.length≤64:=(mi.zA h).2.1
theorem BU {f:dF}(h:f.ok=true):f.Small:=by
 have O:=dF.ot h;have lH:∀x,x∉k6 f.kind→f.get x=(dF.bare f.n f.time f.kind).get x:=fun x V=>by
  conv=>lhs;rw[O.used]
  exact N4 _ _ V
 refine⟨?_,?_,?_,?_⟩
 ·by_cases hm:k9.topics∈k6 f.kind
  ·have:f.topics.length≤4:=(O.fields _ hm).1
   omega
  ·have:f.topics=[]:=lH .topics hm
   rw[this];exact bx _
 ·by_cases hm:k9.blocks∈k6 f.kind
  ·have:m9 f.blocks=true:=O.fields _ hm
   simp only[m9,av,decide_eq_true_eq]at this;omega
  ·have:f.blocks=[]:=lH .blocks hm
   rw[this];exact bx _
 ·by_cases hm:k9.label∈k6 f.kind
  ·have:f.lab.after.length≤64:=(O.fields _ hm).2.1
   omega
  ·have:f.lab=mi.zero:=lH .label hm
   rw[this];exact bx _
 ·by_cases hm:k9.blocks∈k6 f.kind
  ·have:m9 f.blocks=true:=O.fields _ hm
   simp only[m9,av,decide_eq_true_eq]at this;intro b M;have M:=Ln _ _ this.2 b M;simp only[kT.ok,av]at M;have:=V5 M.2.1;omega
  ·have:f.blocks=[]:=lH .blocks hm
   intro b M;rw[this]at M;cases M
section
variable {C:Cx}
@[reducible] def VC.aW (fr:Bool)(j b1 n cp:Nat)(cs:List aa)(j2 b o m c:Nat)(T E sz bytes:Nat)(news:List aa)(A:Nat→Nat→List aa→VC C):VC C where
 pr:=((∀u∈news,u.oneCell'=true)∧news.length=m*sz)∧(n≤cp∧cs.length=cp*sz)∧(n+m≤9223372036854775807∧(n+m)*bytes≤140737488355328)∧∀B cap r,n+m≤cap→(cs.take (n*sz)++news++r).length=cap*sz→(A B cap r).pr
 T:=((Option (Builtin×List aa×List aC)×Option cN×Option (Option Nat×Nat×Nat))×(Bool×Nat×List aa)×(Bool×Nat×List aa×aC×Nat×Nat)×Bool)×((B:Nat)→(cap:Nat)→(r:List aa)→(A B cap r).T)
 l s:=((vC C.P s.nt s.k s.e T E,(mc s.L j2,k7 s.L j2,((lO s.L j2).drop o).take (m*sz)),wx s.L j,s.q.isNone),
  fun B cap r=>(A B cap r).l (s.hp (.slice (SO B) (n+m) cap) (vJ fr (B,.cells ⟨cs.take (n*sz)++news++r⟩ E) (s.L.eraseIdx j))))
 N p:=(((some (.append,[.slice (some ⟨b1,0,none⟩) n cp,.slice (some ⟨b,o,none⟩) m c],[T,T]),some (.slice E),some (some sz,sz,bytes)),(true,b,news),(true,b1,cs,E,(0,0)),true),fun B cap r=>(A B cap r).N (p.2 B cap r))
 ok s h hp:=by
  obtain⟨d,k,e,L,q,r0⟩:=s;cases q with
  |some q=>exact absurd (congrArg (fun x=>x.1.2.2.2) h) (by simp)
  | none=>
   have h7:=congrArg Prod.snd h;have h:=congrArg Prod.fst h;obtain⟨h1,h⟩:=bD h;obtain⟨h2,h⟩:=bD h;obtain⟨h2,h3⟩:=bD h2;obtain⟨h3,h4⟩:=bD h3;obtain⟨h6,-⟩:=bD h;simp only[wx,af]at h6;obtain⟨i1,rfl,i3,i4,i5⟩:=h6;obtain⟨z,g1,g2,g3,g4⟩:=xK h1;have hs:=Src.own (L:=L) (S:=C.S) (w0:=C.w0) (j:=j2) (o:=o) (n:=m*sz) (c:=lO L j2) (by rw[h2]);rw[h3,h4]at hs;exact kO.Ge (R:=goal C r0) j (z:=z) (cs:=cs) news (by rw[g1,g2,g3,g4,i1,i3,i4,i5]) hs hp.1.2 hp.1.1 hp.2.1 hp.2.2.1
    fun B cap r x1 x2=>zo ((A B cap r).ok ⟨d,_,_,_,none,r0⟩ (congrFun (congrFun (congrFun h7 B) cap) r) (hp.2.2.2 B cap r x1 x2))
@[reducible] def VM.apd (b:Nat)(E t:aC)(sz:Nat)(T U:aC)(s0:aa)(m c0:Nat)(news:List aa)(A:aX)(K:KM C):VM C where
 pr:=mM C.P sz T U s0 m news (A++[(b,.cells ⟨news⟩ t)]) C.S C.w0 K.pr
 T:=(aX×aX)×((Option (Builtin×List aa×List aC)×aX)×(Option cN×Bool×Bool))×K.T
 l s:=(s.pre,((oa s.d.fn.ntmps s.k s.e,s.L),(C.P.underlying U,Nat.beq news.length (m*sz),rV news)),K.l fun v L'=>s.nx v L')
 N p:=((p.1.2,p.1.2),((some (.append,[s0,.slice (some ⟨b,0,none⟩) m c0],[T,U]),A++[(b,.cells ⟨news⟩ t)]),(some (.slice E),true,true)),K.N p.2.2)
 ok s h hp:=by
  have hl:=SM.vt (congrArg (·.1) h);have h1:=congrArg (·.2.1.1.1) h;have h3:=congrArg (·.2.1.1.2) h;have h6:=congrArg (·.2.1.2.1) h;have h7:=congrArg (·.2.1.2.2.1) h;have h8:=congrArg (·.2.1.2.2.2) h;have h4:=congrArg (·.2.2) h;have h3':s.L=A++[(b,.cells ⟨news⟩ t)]:=h3;refine lZ.vy _ m news hl h1 ?_ (by rw[h3'];exact hp) fun v L2 hk=>K.ok (fun v L'=>s.nx v L') h4 v L2 hk
  rw[h3'];exact yf (ak _ (cK.2 rfl)) h6 (Nat.eq_of_beq_eq_true h7) (yj h8)
def DQ (nt:Nat)(k:List Item)(e:Env):Option aa:=
 match cur nt k e with
 |some o=>match o.op with
  | .nilCheck x=>some (kV e x)
  |_=>none
 |none=>none
theorem QT {nt:Nat}{k:List Item}{e:Env}{a:aa}(h:DQ nt k e=some a):∃o x,cur nt k e=some o∧o.op=.nilCheck x∧kV e x=a:=by
 unfold DQ at h;split at h
 ·next o hc=>
  split at h
  ·next x ho=>simp only[al]at h;exact⟨o,x,hc,ho,h⟩
  ·cases h
 ·cases h
@[reducible] def VC.nc (p:OA)(b:Nat)(A:VC C):VC C where
 pr:=p=some ⟨b,0,none⟩∧A.pr
 T:=Option aa×A.T
 l s:=(DQ s.nt s.k s.e,A.l (s.nx (.pointer (some ⟨b,0,none⟩))))
 N g:=(some (.pointer p),A.N g.2)
 ok s h hp:=by
  obtain⟨d,k,e,L',q,fr⟩:=s;have h1:=congrArg (·.1) h;have h2:=congrArg (·.2) h;obtain⟨rfl,hA⟩:=hp;obtain⟨o,x,hc,ho,hx⟩:=QT h1;have hr:∀W,(execOp (kV e) o).run C.P W=.ok (.value (.pointer (some ⟨b,0,none⟩))) W:=fun W=>by simp only[execOp,ho,hx];rfl
  cases q with
  |none=>exact kO.ow hc (fun W _=>hr W) (A.ok ⟨d,_,_,L',none,fr⟩ h2 hA)
  |some q=>exact k5.ow hc (fun W _=>hr W) (A.ok ⟨d,_,_,L',some q,fr⟩ h2 hA)
@[reducible] def VM.t1 (b:Nat)(E t:aC)(cap:Nat)(x:Int)(A:aX)(K:VM C):VM C where
 pr:=(0≤x∧x<256)∧K.pr
 T:=(aX×aX)×((Option (Option cN×Option cN×aa)×aX)×Option cN)×K.T
 l s:=(s.pre,((tU C.P s.d.fn.ntmps s.k s.e,s.L),C.P.underlying E),K.l (s.nx (.string ⟨[bg x.toNat].toArray⟩) s.L))
 N p:=((p.1.2,p.1.2),((some (some (.slice E),some .string,.slice (some ⟨b,0,none⟩) 1 cap),A++[(b,.cells ⟨[.int .u8 x]⟩ t)]),some (.int .u8)),K.N p.2.2)
 ok s h hp:=by
  have hl:=SM.vt (congrArg (·.1) h);have h1:=congrArg (·.2.1.1.1) h;have h3:s.L=A++[(b,.cells ⟨[.int .u8 x]⟩ t)]:=congrArg (·.2.1.1.2) h;have h2:C.P.underlying E=some (.int .u8):=congrArg (·.2.1.2) h;have h4:=congrArg (·.2.2) h;obtain⟨op,ts,td,y,hc,ho,hs,hd,hx⟩:=Cv h1;refine lZ.CA _ hl hc fun W hm=>⟨_,s.L,W,?_,hm,K.ok (s.nx (.string ⟨[bg x.toNat].toArray⟩) s.L) h4 hp.2⟩
  have hh:=hm.here (b,.cells ⟨[.int .u8 x]⟩ t) (by rw[h3];exact ak _ (cK.2 rfl));have hl1:=(Q8 (r:=[]) hp.1);simp only[execOp,ho,hx];refine run_lift ?_;simp only[convert,aR,run_underlying hs,run_underlying hd,Result.andThen_ok,run_underlying h2];have hld:(loadCells ⟨b,0,none⟩ 1).run C.P W=.ok (([bg x.toNat].map fun b=>(b.toNat:Int)).map (Value.int .u8)).toArray W:=by
   have:=run_loadCells_list (P:=C.P) (w:=W) ⟨b,0,none⟩ (kU [bg x.toNat]) (fun i u hi=>?_)
   ·rw[show(kU [bg x.toNat]).length=1 from rfl]at this
    rw[this];simp[kU]
   ·rw[pN,az,cell_of_heap hh]
    have e:[Value.int IntKind.u8 x]=kU [bg x.toNat]:=hl1.1;rw[e];exact hi
  rw[run_bytesToString W _ _ _ _ hld,foldl_push];rfl
@[reducible] def VC.rp (L1 L2:aX)(A:VC C):VC C where
 pr:=L2.Perm L1∧A.pr
 T:=(aX×Bool)×A.T
 l s:=((s.L,s.q.isNone),A.l {s with L:=L2})
 N g:=((L1,true),A.N g.2)
 ok s h hp:=by
  obtain⟨d,k,e,L',q,fr⟩:=s;have h0:=congrArg (·.1) h;have h2:=congrArg (·.2) h;obtain⟨h1,h3⟩:=bD h0;cases q with
  |some q=>cases h3
  |none=>
   have e:L'=L1:=h1;subst e;exact kO.Ea hp.1 (A.ok ⟨d,_,_,L2,none,fr⟩ h2 hp.2)
@[reducible] def VC.pe (ne:Bool)(T E:aC)(p:OA)(A:VC C):VC C where
 pr:=A.pr
 T:=(Option (BinOp×aC×aa×aa)×Option cN)×A.T
 l s:=((xD s.nt s.k s.e,C.P.underlying T),A.l (s.nx (.bool (bif ne then !p.isNone else p.isNone))))
 N g:=((some (bif ne then .neq else .eql,T,.pointer p,.pointer none),some (.pointer E)),A.N g.2)
 ok s h hp:=by
  obtain⟨d,k,e,L',q,fr⟩:=s;have h0:=congrArg (·.1) h;have h2:=congrArg (·.2) h;obtain⟨h1,hT⟩:=bD h0;obtain⟨o,x,y,r,hc,ho,hx,hy⟩:=Gp h1;have hE:C.P.underlying T=some (.pointer (C.P.pointee T)):=by rw[hT,Program.pointee,hT]
  have hr:∀W,(execOp (kV e) o).run C.P W=.ok (.value (.bool (bif ne then !p.isNone else p.isNone))) W:=fun W=>by
   simp only[execOp,ho,hx,hy];refine run_lift ?_;cases ne
   ·have hg:(eqGuard .eql T x y (.pointer p) (.pointer none)).run C.P W=.ok () W:=by simp[eqGuard]
    simp only[cond_false];rw[aR,hg];exact run_eql_pointer_nil W T p hE
   ·have hg:(eqGuard .neq T x y (.pointer p) (.pointer none)).run C.P W=.ok () W:=by simp[eqGuard]
    simp only[cond_true];rw[aR,hg];exact run_neq_pointer_nil W T p hE
  cases q with
  |none=>exact kO.ow hc (fun W _=>hr W) (A.ok ⟨d,_,_,L',none,fr⟩ h2 hp)
  |some q=>exact k5.ow hc (fun W _=>hr W) (A.ok ⟨d,_,_,L',some q,fr⟩ h2 hp)
end
abbrev zK1aa (a b:Nat)(x2:OA):Array aa:= #[IV 0,IV 0,IV 0,IV 0,sZ,IV 0,IV 0,sZ,sZ,.slice none 0 0,.slice x2 a b,IV 0,.slice none 0 0,IV 0,IV 0,IV 0,IV 0,IV 0,sZ,sZ,IV 0,IV 0,IV 0]
abbrev zK1ab (a:dF)(b x2 x3 x4 x5 c:Nat)(d e:OA):Array aa:= #[IV a.n,IV a.time,IV a.kind,IV a.story,.string a.lang,IV a.rev,IV a.base,.string a.title,.string a.author,.slice d b x2,.slice (SO x3) x4 x5,IV a.lab.unt,.slice e a.lab.after.length c,IV a.lab.appr,IV a.lab.den,IV a.editor,IV a.block,IV a.sentence,.string a.text,.string a.name,IV a.partner,IV a.cls,IV a.unt]
abbrev zK1ac (a:dF)(b x2 x3 x4 x5:Nat)(c d e:OA):Array aa:= #[IV a.n,IV a.time,IV a.kind,IV a.story,.string a.lang,IV a.rev,IV a.base,.string a.title,.string a.author,.slice c b x2,.slice d x3 x4,IV a.lab.unt,.slice e a.lab.after.length x5,IV a.lab.appr,IV a.lab.den,IV a.editor,IV a.block,IV a.sentence,.string a.text,.string a.name,IV a.partner,IV a.cls,IV a.unt]
abbrev zK1ad:Array aa:= #[IV 0,IV 0,IV 0,IV 0,sZ,IV 0,IV 0,sZ,sZ,.slice none 0 0,.slice none 0 0,IV 0,.slice none 0 0,IV 0,IV 0,IV 0,IV 0,IV 0,sZ,sZ,IV 0,IV 0,IV 0]
abbrev C0 (a:Nat)(cs:List aa)(b:Nat)(e:dF)(o:OA)(n m l k:Nat)(g:OA)(f c:Nat)(j:OA)(i h:Nat)(d:aX):aX:=((a,.cells ⟨cs⟩ 149)::(b,.cells (zK1ab e n m a l k f o g) 38)::(c,.cells (zK1aa i h j) 38)::d)
abbrev Kr (a B:Nat)(c:dF)(sp:OA)(h:Nat)(g:OA)(f:Nat)(e:OA)(d:Nat)(b:aX):aX:=((a,.cells zK1ad 38)::(B,.cells ⟨c.cells sp h g f e d⟩ 38)::b)
abbrev Ha (a:Nat)(cs:List aa)(b:Nat)(e:dF)(o:OA)(n m l k:Nat)(g:OA)(f c:Nat)(j:OA)(i h:Nat)(d:aX):aX:=((a,.cells ⟨cs⟩ 149)::(b,.cells (zK1ab e n m a l k f o g) 38)::(c,.cells (zK1aa i h j) 38)::d)
abbrev MN (a:Nat)(d:dF)(n:OA)(m l c k j:Nat)(f:OA)(e b:Nat)(i:OA)(h g:Nat):aX:=[(a,.cells (zK1ab d m l c k j e n f) 38),(b,.cells (zK1aa h g i) 38)]
abbrev Lp (a:Nat)(d:dF)(o:OA)(n m:Nat)(l:OA)(k j:Nat)(f:OA)(e b:Nat)(i:OA)(h g:Nat)(c:aX):aX:=((a,.cells (zK1ac d n m k j e o l f) 38)::(b,.cells (zK1aa h g i) 38)::c)
abbrev zw (a:dF)(g:OA)(f e:Nat)(d:OA)(c b:Nat)(i:OA)(h:Nat):Array aa:=(zK1ac a f e c b h g d i)
abbrev An:Array aa:=zK1ad
abbrev Ah (a:dF)(g:OA)(f:Nat)(e:OA)(d:Nat)(c:OA)(b:Nat):Array aa:=⟨a.cells g f e d c b⟩
abbrev KU (c:OA)(b a:Nat):Array aa:=(zK1aa b a c)
def wk (c:dF)(u:OA)(t:Nat)(s:OA)(q:Nat)(f:OA)(e a b:Nat)(p:Int)(o:OA)(n m:Nat)(l:OA)(k j:Nat)(i:OA)(h g:Nat)(d:aX)(w0:aj)(R:bJ→aj→Prop):Prop:=
 kO TP 52 40 (KC jB 244) [(1,PP a),(2,PP b),(14,IV (c.blocks.length:Int)),(15,IV p)] (Lp a c o n m l k j f e b i h g d) [] w0 (lN R)
theorem NF (d:dF)(Y:OA)(X:Nat)(V:OA)(U:Nat)(q:OA)(p m n:Nat)(f:Int)(l:OA)(k j:Nat)(w:OA)(e g:Nat)(u:OA)(t s:Nat)(O:aX)
 (H:
 Br (f<(d.blocks.length:Int))
 (∃(h:Nat) (cs:List aa) (C:aX),w=some ⟨h,0,none⟩∧O.Perm ((h,.cells ⟨cs⟩ 149)::C)∧
 (0≤f∧f<e)∧
 ∃(N:OA) (x:Nat) (M:Nat),(cs)[((((ad f)*9)+5)+1)]?=some (.slice N x M)∧
 eA TP 90 ⟨[.slice N x M]⟩ (C0 h cs m d l k j e g q p n u t s C) [] w0 (fun v L'=>∃(F:OA) (D:Nat),∃G,v=(.slice F x D)∧L'=(Ha h cs m d l k j e g q p n u t s G)∧
 (0≤f∧f<e)∧
 (((((ad f)*9)+5)+1)<(cs).length)∧
 wk d Y X V U q p m n (ab.wrap (f+(1:Int))) l k j (SO h) e g u t s ((h,.cells ⟨((cs).set ((((ad f)*9)+5)+1) (.slice F x D))⟩ 149)::G) w0 R))
 (eA TP 90 ⟨[.slice q d.lab.after.length p]⟩ (Lp m d l k j w e g q p n u t s O) [] w0 (fun v L'=>∃(z:OA) (y:Nat),∃Q,v=(.slice z d.lab.after.length y)∧L'=((m,.cells (zK1ac d k j e g p l w q) 38)::(n,.cells (KU u t s) 38)::Q)∧
 Fin R ((m,.cells (zw d l k j w e g z y) 38)::(n,.cells (zw d l k j w e g z y) 38)::Q) [] w0 (.agg (zw d l k j w e g z y))))):
 wk d Y X V U q p m n f l k j w e g u t s O w0 R:=by
 unfold wk;refine .ru 5 (.sP 16 H ?_ ?_)<;>clear H<;>intro H
 ·refine .ru 9 ?_
  obtain⟨h,cs,C,rfl,Z,H⟩:=H;refine .Ea (L':=(h,.cells ⟨cs⟩ 149)::((MN m d l k j h e g q p n u t s)++C)) (Ki (A:=(MN m d l k j h e g q p n u t s)) Z) (.nm (KC jB 7833) [(1,PP m),(2,PP n),(3,IV f),(14,IV (d.blocks.length:Int)),(15,IV f)] (C0 h cs m d l k j e g q p n u t s C) (.nm (KC jB 7833) [(1,PP m),(2,PP n),(3,IV f),(14,IV (d.blocks.length:Int)),(15,IV f)] (C0 h cs m d l k j e g q p n u t s C) (.dD (.ph 11 [0,1,2,3,4,5,6,7,8,9] [10] [(h,.cells ⟨cs⟩ 149),(m,.cells (zK1ab d k j h e g p l q) 38),(n,.cells (KU u t s) 38)] (.pu (.ld 1 10 (.pu (.pu (.ld 1 10 (.pu (.nr (E:=149) (b:=h) (o:=0) (len:=e) (cap:=g) (sz:=9) (o':=((ad f)*9)) (kd:=.i64) (i:=f) (by kernel_rfl) H.1 (by omega) ?_)))))))))))
  replace H:=H.2
  refine .pu (.pu ?_);obtain⟨N,x,M,a0,H⟩:=H;refine .um 0 (off:=((((ad f)*9)+5)+1)) (T:=34) (v:=.slice N x M) (by kernel_rfl) (o4 a0 (by kernel_rfl)) (.dn (.cl H ?_));clear H;rintro _ _ ⟨F,D,G,rfl,rfl,H⟩;refine .dn (.nm [(1,PP m),(2,PP n),(14,IV (d.blocks.length:Int)),(15,IV f),(19,.slice (SO h) e g),(20,IV f),(28,.slice F x D)] (Ha h cs m d l k j e g q p n u t s G) (.tl (.nr (E:=149) (b:=h) (o:=0) (len:=e) (cap:=g) (sz:=9) (o':=((ad f)*9)) (kd:=.i64) (i:=f) (by kernel_rfl) H.1 (by omega) ?_)))
  replace H:=H.2
  refine .ru 2 (.xP 0 (off:=((((ad f)*9)+5)+1)) (lo:=0) (hi:=0) (T:=34) (v:=.slice F x D) (c:=cs) (by kernel_rfl) H.1 (.inr (bx _)) ?_)
  replace H:=H.2
  refine .ru 7 (.tT [1,2,0] 3 H)
 ·refine .ru 6 (.ld 0 12 (.cl H ?_))
  clear H;rintro _ _ ⟨z,y,Q,rfl,rfl,H⟩;refine .ru 2 (.store 0 12 (T:=34) (v:=.slice z d.lab.after.length y) (by kernel_rfl) (.ru 3 (.ld 0 0 (.store 1 0 (T:=38) (v:=.agg (zw d l k j w e g z y)) (by kernel_rfl) (.ru 1 (.qI 1 0 (a:=2) (T:=38) (v:=.agg (zw d l k j w e g z y)) Tryz.func52 (by kernel_rfl) (by kernel_rfl) H))))))
theorem XZ (a:dF)(h:OA)(g:Nat)(c:OA)(b:Nat)(f:OA)(e:Nat)(n:aX)(hm:Mem (n) [] w0 W)
 (H:
 ∀B d:Nat,
 eA TP 88 ⟨[.slice h a.topics.length g]⟩ ((d,.cells An 38)::(B,.cells (Ah a h g c b f e) 38)::n) [] w0 (fun v L'=>∃(sp:OA) (i:Nat),∃m,v=(.slice sp a.topics.length i)∧L'=((d,.cells An 38)::(B,.cells (Ah a h g c b f e) 38)::m)∧
 eA TP 89 ⟨[.slice c a.blocks.length b]⟩ ((d,.cells An 38)::(B,.cells ⟨a.cells sp i c b f e⟩ 38)::m) [] w0 (fun v L'=>∃(l:OA) (k:Nat),∃j,v=(.slice l a.blocks.length k)∧L'=(Kr d B a sp i c b f e j)∧
 wk a h g c b f e B d (0:Int) sp a.topics.length i l a.blocks.length k none 0 0 j w0 R))):
 aE TP 52 ⟨[.agg (Ah a h g c b f e)]⟩ W R:=by
 refine kO.cs 40 Tryz.func52 hm (.ru 2 (.nH (.cells (Ah a h g c b f e) 38) H fun B H=>(.front (.nH (.cells An 38) H fun d H=>(.front (.ru 4 (.ld 1 9 (.cl H ?_))))))));rintro _ _ ⟨sp,i,m,rfl,rfl,H⟩;refine .ru 1 (.st 1 9 (.ru 4 (.ld 1 10 (.cl H ?_))));rintro _ _ ⟨l,k,j,rfl,rfl,H⟩;refine .nm (KR jB 14 [3,4]) [(1,PP B),(2,PP d),(10,.slice l a.blocks.length k)] (Kr d B a sp i c b f e j) (.ru 1 (.st 1 10 (.ru 5 (.ld 1 10 (.ru 5 (.tT [1,0] 2 H))))))
theorem KV {p:OA}(hp:p=none){n:Nat}{Q:Nat→Nat→List aa→Prop}(h:0<n→∃(b o:Nat) (c:List aa),p=some ⟨b,o,none⟩∧Q b o c):n=0:=by
 rcases bX n with h0|h0
 ·exact h0
 ·obtain⟨b,o,cs,e,_⟩:=h h0
  rw[hp]at e;cases e
def PN (lk:Lk)(l:List kT)(v:aa)(F:aX):Prop:=
 ∃p' c',v=.slice p' l.length c'∧l.length≤c'∧(0<l.length→∃Q cs,p'=some ⟨Q,0,none⟩∧F=[(Q,.cells ⟨cs⟩ 149)]∧rn lk cs l)
theorem W8 {p:OA}{c:Nat}{l:List kT}(h:mY lk p l)(a7:l.length≤1000000):m0 TP 89 ⟨[.slice p l.length c]⟩ [] (fun W=>∀b c,lk b c→kY W b c) (PN lk l):=by
 intro W hm a2;refine Sh p l.length c hm ⟨fun hp=>?_,fun a V B=>?_⟩
 ·have O:l.length=0:=KV hp h
  exact kR ⟨none,0,by rw[O],by omega,fun a4=>absurd a4 (by omega)⟩
 ·subst V
  obtain⟨news,n1,n2,a5⟩:=D1 (c:=c) (L:=[(B,.cells #[] 149)]) (w0:=W) h fun a6 a3=>fun b c a1=>lK a3 b c (a2 b c a1)
  refine⟨news,n1,⟨aD _,rfl⟩,by omega,fun M cap r a8 a9=>kR ⟨some ⟨M,0,none⟩,cap,by rw[az],by omega,fun _=>⟨M,_,rfl,rfl,a5.vO⟩⟩⟩
def TZ (lk:Lk)(l:List dF)(v:aa)(F:aX):Prop:=
 ∃p' c',v=.slice p' l.length c'∧l.length≤c'∧(0<l.length→∃Q cs,p'=some ⟨Q,0,none⟩∧F=[(Q,.cells ⟨cs⟩ 38)]∧cs.length=c'*23∧nR lk cs l)∧(l.length=0→(p'=none∧c'=0∧F=[])∨∃Q cs,p'=some ⟨Q,0,none⟩∧F=[(Q,.cells ⟨cs⟩ 38)]∧cs.length=c'*23)
theorem Yk {p:OA}{c:Nat}{l:List dF}(h:pP lk p l)(a8:l.length≤1000000):m0 TP 51 ⟨[.slice p l.length c]⟩ [] (fun W=>∀b c,lk b c→kY W b c) (TZ lk l):=by
 intro W hm a3;refine Rx p l.length c hm ⟨fun hp=>?_,fun a a1 B=>?_⟩
 ·have V:l.length=0:=KV hp h
  exact kR ⟨none,0,by rw[V],by omega,fun a5=>absurd a5 (by omega),fun _=>.inl ⟨rfl,rfl,rfl⟩⟩
 ·subst a1
  obtain⟨news,n1,n2,a6⟩:=YZ (c:=c) (L:=[(B,.cells #[] 38)]) (w0:=W) h fun a7 a4=>fun b c a2=>lK a4 b c (a3 b c a2)
  refine⟨news,n1,⟨aD _,rfl⟩,by omega,fun M cap r a9 O=>kR ⟨some ⟨M,0,none⟩,cap,by rw[az],by omega,fun _=>⟨M,_,rfl,rfl,O,a6.vO⟩,fun _=>.inr ⟨M,_,rfl,rfl,O⟩⟩⟩
theorem eA.new (told:aX){T:aX}(h:m0 P g args [] (fun W=>∀b c,lk b c→kY W b c) K)(V:∀W,Mem (told++T) S w0 W→∀b c,lk b c→kY W b c)
  (M:∀v F',K v F'→K' v (told++(F'++T))):eA P g args (told++T) S w0 K':=
 eA.nX (L0:=[]) (L1:=told++T) h V (ah _) fun v F' O=>⟨told++(F'++T),List.perm_append_comm_assoc _ _ _,M v F' O⟩
def Ao (lk lk':Lk)(cs:List aa)(l:List kT)(i:Nat):Prop:=∀j (h:j<l.length),j*9+9≤cs.length∧((j<i→r9 lk' ((cs.drop (j*9)).take 9) l[j])∧(i≤j→r9 lk ((cs.drop (j*9)).take 9) l[j]))
theorem Ao.put {lk a2 a1 M:Lk}{cs:List aa}{l:List kT}{i:Nat}{p':OA}{c':Nat}(h:Ao lk a1 cs l i)(hi:i<l.length)(a6:∀b c,lk b c→a2 b c)(a7:∀b c,a1 b c→M b c)(hp:lX M p' l[i].lab.after):
  Ao a2 M (cs.set (i*9+5+1) (.slice p' l[i].lab.after.length c')) l (i+1):=by
 intro j a4;obtain⟨O,a3,V⟩:=h j a4;refine⟨by rw[List.length_set];exact O,fun a5=>?_,fun a5=>?_⟩
 ·by_cases e:j=i
  ·subst e
   obtain⟨p,c,e,_,a8⟩:=V (aD _);exact⟨p',c',Lz O e,hp,a8⟩
  ·rw[Gl (by omega)]
   exact(a3 (by omega)).mono a7
 ·rw[Gl (by omega)]
  exact(V (by omega)).mono a6
def DT (f:dF)(v:aa)(F:aX):Prop:=∃tp tc bp bc ap ac,v=.agg ⟨f.cells tp tc bp bc ap ac⟩∧lv (l7 F) f tp tc bp bc ap ac
theorem IE {f:dF}(a5:∀b c,lk b c→kY w0 b c)(h:lv lk f tp tc bp bc ap ac)(a6:f.Small){B2 B3:Nat}{xp yp zp:OA}{xc yc zl zc:Nat}{T:aX}
  (V:nh (l7 T) xp f.topics)(a1:f.topics.length≤xc)(a2:mY (l7 T) yp f.blocks)(a3:f.blocks.length≤yc):
  wk f tp tc bp bc ap ac B2 B3 (f.blocks.length:Int) xp f.topics.length xc yp f.blocks.length yc zp zl zc T w0 (fun e O=>∃v L',e=.returned v∧Mem L' [] w0 O∧DT f v L'):=by
 apply NF;refine no (by omega) (eA.new [_,_] (H4 h.ints (bC a6.ints (by omega))) (fun W hm b c a4=>lK hm b c (a5 b c a4)) ?_);rintro _ F' ⟨p',c',rfl,k1,a7⟩;refine⟨p',c',_,rfl,rfl,kR ⟨xp,xc,yp,yc,p',c',rfl,?_⟩⟩;exact⟨V.mono (mR fun x M=>by simp[M]),a2.mono (mR fun x M=>by simp[M]),a7.mono (mR fun x M=>by simp[M]),a1,a3,k1,h.fits⟩
theorem G4 {f:dF}(a2:∀b c,lk b c→kY w0 b c)(h:lv lk f tp tc bp bc ap ac)(V:f.Small){B2 B3 Q:Nat}{xp:OA}{xc yc:Nat}(a3:f.topics.length≤xc)(a4:f.blocks.length≤yc):
  ∀(g i:Nat) (cs:List aa) (T O:aX) (zp:OA) (zl zc:Nat),g+i=f.blocks.length→T.Perm ((Q,.cells ⟨cs⟩ 149)::O)→nh (l7 O) xp f.topics→Ao (mJ O lk) (l7 O) cs f.blocks i→
   wk f tp tc bp bc ap ac B2 B3 (i:Int) xp f.topics.length xc (SO Q) f.blocks.length yc zp zl zc T w0 (fun e a5=>∃v L',e=.returned v∧Mem L' [] w0 a5∧DT f v L')
 |0,i,cs,T,O,zp,zl,zc,hg,hp,h1,h3=>by
  obtain rfl:i=f.blocks.length:=by omega
  refine IE a2 h V (h1.mono (mR fun x M=>hp.mem_iff.2 (ag _ M))) a3 (fun _=>⟨Q,0,cs,rfl,⟨_,_,hp.mem_iff.2 au⟩,fun j a1=>?_⟩) a4;rw[az];exact⟨(h3 j a1).1,((h3 j a1).2.1 a1).mono (mR fun x M=>hp.mem_iff.2 (ag _ M))⟩
 | g+1,i,cs,T,O,zp,zl,zc,hg,hp,h1,h3=>by
  apply NF;have b1:=V.blks;have hi:i<f.blocks.length:=by omega
  obtain⟨k1,b4,a7⟩:=h3 i hi;obtain⟨p,c,e,a9,b6⟩:=a7 (aD _);have b3:=V.each _ (bH hi);have a6:ab.wrap ((i:Int)+1)=((i+1:Nat):Int):=by rw[kS (by omega)];omega
  refine yes (by omega) ⟨Q,cs,O,rfl,hp,by omega,p,f.blocks[i].lab.after.length,c,by rw[ai,Nat.add_assoc,Fw (by decide) e];rfl,?_⟩;refine eA.new [_,_,_] (H4 a9 (by omega)) (fun W hm=>II a2 hm fun x M=>by simp[M]) ?_;rintro _ F' ⟨p',c',rfl,b5,a8⟩;refine⟨p',c',_,rfl,rfl,by omega,by rw[ai];omega,?_⟩;rw[a6,ai];exact G4 a2 h V a3 a4 g (i+1) _ _ (F'++O) zp zl zc (by omega) (ah _) (h1.mono (mR fun x M=>ak _ M))
   (h3.put hi (oR fun x M=>ak _ M) (mR fun x M=>ak _ M) (a8.mono (mR fun x M=>ay _ M)))
theorem Gt {f:dF}(h:lv lk f tp tc bp bc ap ac)(O:f.Small):m0 TP 52 ⟨[.agg ⟨f.cells tp tc bp bc ap ac⟩]⟩ [] (fun W=>∀b c,lk b c→kY W b c) (DT f):=by
 intro W hm M;refine XZ f tp tc bp bc ap ac [] hm fun B b1=>eA.new [_,_] (Wa h.tops (bC O.tops (by omega))) (fun W hm b c V=>lK hm b c (M b c V)) ?_
 rintro _ a2 ⟨p1,c1,rfl,a5,a6⟩;refine⟨p1,c1,_,rfl,rfl,eA.new [_,_] (W8 h.blks (bC O.blks (by omega))) (fun W hm b c V=>lK hm b c (M b c V)) ?_⟩;rintro _ b3 ⟨a9,a3,rfl,a7,b6⟩;refine⟨a9,a3,_,rfl,rfl,?_⟩;rcases bX f.blocks.length with h0|hpos
 ·have b4:f.blocks=[]:=aQ.1 h0
  have:=IE M h O (B2:=B) (B3:=b1) (xp:=p1) (yp:=a9) (zp:=none) (xc:=c1) (yc:=a3) (zl:=0) (zc:=0) (T:=b3++(a2++[])) (a6.mono (mR fun x a1=>by simp[a1])) a5 (by rw[b4];exact uN) a7;rw[h0]at this ⊢;exact this
 ·obtain⟨Q,cs,rfl,rfl,a8⟩:=b6 hpos
  refine G4 M h O a5 a7 f.blocks.length 0 cs _ (a2++[]) none 0 0 (by omega) (ah _) (a6.mono (mR fun x a1=>by simp[a1])) fun j a4=>⟨(a8 j a4).1,fun b5=>absurd b5 (by omega),fun _=>(a8 j a4).2.mono p6⟩
abbrev Mq (a:Nat)(g:dF)(m:OA)(l:Nat)(k:OA)(j:Nat)(i:OA)(h B:Nat)(gen:Int)(f:OA)(e d:Nat)(c:Int)(n:Nat)(sz b:Int)(o:Bool):aX:=[(a,.cells ⟨g.cells m l k j i h⟩ 38),(B,.cells #[IV gen,.slice f e d,IV c,PP n,IV sz,IV b,.bool o] 86)]
abbrev Ia (a:Nat)(h:dF)(n:OA)(m:Nat)(l:OA)(k:Nat)(j:OA)(i B:Nat)(gen:Int)(g:OA)(f e:Nat)(d:Int)(o:Nat)(sz c:Int)(p:Bool)(b:aX):aX:=((a,.cells ⟨h.cells n m l k j i⟩ 38)::(B,.cells #[IV gen,.slice g f e,IV d,PP o,IV sz,IV c,.bool p] 86)::b)
abbrev xa (a:dF)(g:OA)(f:Nat)(e:OA)(d:Nat)(c:OA)(b:Nat):Array aa:=⟨a.cells g f e d c b⟩
abbrev FX (a:dF)(g:OA)(f:Nat)(e:OA)(d:Nat)(c:OA)(b:Nat):Array aa:=⟨a.cells g f e d c b⟩
abbrev xx (gen:Int)(e:OA)(d c:Nat)(b:Int)(f:Nat)(sz a:Int)(g:Bool):Array aa:= #[IV gen,.slice e d c,IV b,PP f,IV sz,IV a,.bool g]
def xW (q:Nat)(gen:Int)(f:OA)(a e:Nat)(d:Int)(p:Nat)(sz c:Int)(s:Bool)(B:Nat)(i:OA)(h g:Nat)(n:OA)(m l:Nat)(o:Int)(j:Nat)(k:Bool)(b:aX)(S:List Nat)(w0:aj)(R:bJ→aj→Prop):Prop:=
 kO TP 15 28 (KC kL 244) [(3,.slice i h g),(14,.slice n m l),(15,IV (a:Int)),(16,IV o)] ((B,.cells (xx gen f a e d j sz c k) 86)::b) S w0 (lN R)
theorem Fz (a7:Nat)(gen:Int)(t:OA)(d s:Nat)(q:Int)(a6:Nat)(sz m:Int)(a8:Bool)(B:Nat)(z:OA)(y F:Nat)(Z:OA)(Y a1:Nat)(a:Int)(u:Nat)(w:Bool)(a3:aX)
 (H:
 Br (a<(d:Int))
 (∃a2 G:Nat,Z=some ⟨a2,G,none⟩∧(0≤a∧a<Y)∧
 ∃(a5:List aa) (e:dF) (l:OA) (k:Nat) (j:OA) (h:Nat) (g:OA) (f:Nat),(∃b4 b0,(a2,bu ⟨a5⟩ b4 b0)∈((B,.cells (xx gen t d s q u sz m w) 86)::a3))∧((a5.drop (G+((ad a)*23))).take 23=(e.cells l k j h g f)∧(G+((ad a)*23))+23≤a5.length)∧
 ∀x:Nat,
 eA TP 52 ⟨[.agg (xa e l k j h g f)]⟩ ((x,.cells (xa e l k j h g f) 38)::(B,.cells (xx gen t d s q u sz m w) 86)::a3) S w0 (fun v L'=>∃(M:dF) (X:OA) (V:Nat) (U:OA) (Q:Nat) (O:OA) (N:Nat),∃a4,v=(.agg (FX M X V U Q O N))∧L'=(Ia x e l k j h g f B gen t d s q u sz m w a4)∧
 ∃C D:Nat,z=some ⟨C,D,none⟩∧(0≤a∧a<y)∧
 ∃(cs:List aa) (a0:aX),a4.Perm ((C,.cells ⟨cs⟩ 38)::a0)∧
 ((D+((ad a)*23))+23≤(cs).length)∧
 xW a7 gen t d s q a6 sz m a8 B z y F Z Y a1 (ab.wrap (a+(1:Int))) u w ((C,.cells ⟨(over (cs) (D+((ad a)*23)) (M.cells X V U Q O N))⟩ 38)::(x,.cells (xa e l k j h g f) 38)::a0) S w0 R))
 (Fin R ((B,.cells (xx gen t d s q u sz m w) 86)::a3) S w0 (.slice z y F))):
 xW a7 gen t d s q a6 sz m a8 B z y F Z Y a1 a u w a3 S w0 R:=by
 unfold xW;refine .ru 5 (.sP 17 H (fun H=>?_) fun H=>?_)
 ·refine .ru 7 ?_
  obtain⟨a2,G,hp,H⟩:=H;refine .ub (E:=38) (p:=Z) (b:=a2) (o:=G) (len:=Y) (cap:=a1) (sz:=23) (o':=(G+((ad a)*23))) (kd:=.i64) (i:=a) hp (by kernel_rfl) H.1 (by omega) ?_
  replace H:=H.2
  obtain⟨a5,e,l,k,j,h,g,f,b3,a9,H⟩:=H;refine .loadT (b:=a2) (off:=(G+((ad a)*23))) (T:=38) (v:=.agg (xa e l k j h g f)) (by kernel_rfl) b3 (vN a9.1 a9.2 (by kernel_rfl) (by kernel_rfl)) (.nH (.cells kAjq 38) H fun x H=>(.front (.ru 1 (.store 0 0 (T:=38) (v:=.agg (xa e l k j h g f)) (by kernel_rfl) (.ru 4 (.ld 0 0 (.cl H ?_)))))));rintro _ _ ⟨M,X,V,U,Q,O,N,a4,rfl,rfl,H⟩;refine .nm (KR kL 7833 [4,5]) [(3,.slice z y F),(14,.slice Z Y a1),(15,IV (d:Int)),(16,IV a),(21,.slice z y F),(22,IV a),(24,.agg (FX M X V U Q O N))] (Ia x e l k j h g f B gen t d s q u sz m w a4) ?_;obtain⟨C,D,hp,H⟩:=H;refine .ub (E:=38) (p:=z) (b:=C) (o:=D) (len:=y) (cap:=F) (sz:=23) (o':=(D+((ad a)*23))) (kd:=.i64) (i:=a) hp (by kernel_rfl) H.1 (by omega) ?_
  replace H:=H.2
  obtain⟨cs,a0,b1,H⟩:=H;refine .Ea (L':=(C,.cells ⟨cs⟩ 38)::((Mq x e l k j h g f B gen t d s q u sz m w)++a0)) (Ki (A:=(Mq x e l k j h g f B gen t d s q u sz m w)) b1) (.nm (KR kL 7833 [5]) [(3,.slice z y F),(14,.slice Z Y a1),(15,IV (d:Int)),(16,IV a),(24,.agg (FX M X V U Q O N)),(25,.pointer (some ⟨C,(D+((ad a)*23)),none⟩))] ((C,.cells ⟨cs⟩ 38)::(x,.cells (xa e l k j h g f) 38)::(B,.cells (xx gen t d s q u sz m w) 86)::a0) (.T6 0 (off:=(D+((ad a)*23))) (n:=23) (T:=38) (vs:=(M.cells X V U Q O N)) (c:=cs) (by kernel_rfl) H.1 ?_))
  replace H:=H.2
  refine .ru 7 (.tT [2,0,1] 3 H)
 ·refine .ru 7 (.rt Tryz.func15 H)
abbrev kBqq (x0 x1 x2 x3 x4 x5 x6 x7 x8 x9):=((x0,.cells #[IV x1,.slice x2 x3 x4,IV x5,PP x6,IV x7,IV x8,.bool x9] 86):Nat×Obj)
theorem X4 (b:Nat)(gen:Int)(f:OA)(a e:Nat)(h:Int)(c:Nat)(sz g:Int)(d:Bool)(k:aX)(hm:Mem ((kBqq b gen f a e h c sz g d)::k) S w0 W)
 (H:
 eA TP 51 ⟨[.slice f a e]⟩ ((kBqq b gen f a e h c sz g d)::k) S w0 (fun v L'=>∃(sp:OA) (i:Nat),∃j,v=(.slice sp a i)∧L'=((kBqq b gen f a e h c sz g d)::j)∧
 xW b gen f a e h c sz g d b sp a i sp a i (0:Int) c d j S w0 R)):
 aE TP 15 ⟨[PP b]⟩ W R:=by
 refine kO.cs 28 Tryz.func15 hm (.ru 18 (.ld 0 1 (.cl H ?_)));rintro _ _ ⟨sp,i,j,rfl,rfl,H⟩;refine .ru 11 (.tT [0] 1 H)
def lj (lk:Lk)(fs:List dF)(p:OA)(c:Nat)(G:aX):Prop:=
 fs.length≤c∧((p=none∧c=0∧fs=[])∨∃Q cs G0,p=some ⟨Q,0,none⟩∧G.Perm ((Q,.cells ⟨cs⟩ 38)::G0)∧cs.length=c*23∧nR (mJ G0 lk) cs fs)
theorem lj.oz {G:aX}:lj lk [] none 0 G:=⟨aD _,.inl ⟨rfl,rfl,rfl⟩⟩
theorem lj.perm {fs:List dF}{p:OA}{c:Nat}{G O:aX}(h:lj lk fs p c G)(hp:O.Perm G):lj lk fs p c O:=by
 obtain⟨V,M|⟨Q,cs,a1,e,M,a2,a3⟩⟩:=h
 ·exact⟨V,.inl M⟩
 ·exact⟨V,.inr ⟨Q,cs,a1,e,hp.trans M,a2,a3⟩⟩
theorem lj.more {fs:List dF}{p:OA}{c:Nat}{G:aX}(h:lj lk fs p c G)(X:aX):lj lk fs p c (X++G):=by
 obtain⟨O,M|⟨Q,cs,V,e,M,a1,a2⟩⟩:=h
 ·exact⟨O,.inl M⟩
 ·exact⟨O,.inr ⟨Q,cs,X++V,e,(M.append_left X).trans cI,a1,a2.mono (oR fun x a3=>ak _ a3)⟩⟩
theorem lj.mono {lk a1:Lk}{fs:List dF}{p:OA}{c:Nat}{G:aX}(h:lj lk fs p c G)(a5:∀b c,lk b c→a1 b c):lj a1 fs p c G:=by
 obtain⟨V,M|⟨Q,cs,a2,e,M,a3,a4⟩⟩:=h
 ·exact⟨V,.inl M⟩
 ·refine⟨V,.inr ⟨Q,cs,a2,e,M,a3,a4.mono ?_⟩⟩
  rintro b c (O|O)
  ·exact .inl O
  ·exact .inr (a5 b c O)
theorem lj.zX {fs:List dF}{p:OA}{c:Nat}{G:aX}(h:lj lk fs p c G):pP (mJ G lk) p fs:=by
 obtain⟨a2,⟨_,_,rfl⟩|⟨Q,cs,a1,rfl,M,a3,O⟩⟩:=h
 ·exact Sd
 ·exact(O.mono (oR fun x V=>M.mem_iff.2 (ag _ V))).at (.inl ⟨_,_,M.mem_iff.2 au⟩)
theorem Bi {x:Nat×Obj}{A B C:aX}:(x::(A++(B++C))).Perm ((x::(A++B))++C):=by rw[aY,an]
theorem JY {x y:Nat×Obj}{A B C:aX}:(x::y::(A++(B++C))).Perm ((x::y::(A++B))++C):=by rw[aY,aY,an]
theorem lj.push {fs:List dF}{p:OA}{c:Nat}{G X Y L:aX}{f:dF}(h:lj lk fs p c G)(a6:lv (mJ X lk) f tp tc bp bc ap ac){n:Nat}(hn:fs.length=n)(b4:n≤1000000)(hp:L.Perm (X++(G++Y))):
  mM TP 23 22 22 (.slice p n c) 1 (f.cells tp tc bp bc ap ac) L S w0 (fun v L'=>∃p' c' N,v=.slice p' (n+1) c'∧L'.Perm (N++Y)∧lj lk (fs++[f]) p' c' N∧lj lk fs p c N∧∀x∈X,x∈N):=by
 subst hn;obtain⟨a2,⟨rfl,rfl,rfl⟩|⟨Q,cs,O,rfl,a7,a3,a5⟩⟩:=h
 ·refine(mM.nil (T:=22) (E:=38) (z:=.agg ⟨dF.zero.cells none 0 none 0 none 0⟩) (sz:=23) (bytes:=272) (by kernel_rfl) (by kernel_rfl) rfl (by omega) (by omega)).mono ?_
  rintro _ _ ⟨B,cap,r,rfl,a1,V,rfl⟩;refine⟨some ⟨B,0,none⟩,cap,(B,.cells ⟨f.cells tp tc bp bc ap ac++r⟩ 38)::(X++G),rfl,?_,⟨by simpa using a1,.inr ⟨B,_,X++G,rfl,ah _,V,?_⟩⟩,lj.oz,fun x M=>by simp[M]⟩
  ·exact aw.trans ((eS _ hp).trans Bi)
  ·exact nR.one (a6.mono (oR fun x M=>ay _ M)) a1 V
 ·have b3:L.Perm ((Q,.cells ⟨cs⟩ 38)::(X++(O++Y))):=by
   refine hp.trans ?_;refine(((a7.append_right Y).append_left X).trans ?_);exact cI
  refine(mM.row (E:=38) (z:=.agg ⟨dF.zero.cells none 0 none 0 none 0⟩) (sz:=23) (bytes:=272) (by kernel_rfl) (by kernel_rfl) rfl b3 ⟨a2,a3⟩ (by omega) (by omega)).mono ?_;rintro _ _ ⟨B,cap,r,rfl,a1,V,a8⟩;have M:∀b c,mJ X lk b c→mJ (X++O) lk b c:=oR fun x M=>ay _ M
  have a9:∀b c,mJ O lk b c→mJ (X++O) lk b c:=oR fun x M=>ak _ M
  have a4:=nR.app (r:=r) (a5.mono a9) a2 a3 (a6.mono M) a1 V;have b1:nR (mJ (X++O) lk) (cs.take (fs.length*23)++f.cells tp tc bp bc ap ac++r) fs:=by
   have:=a4.take fs.length;rwa[fk rfl]at this
  rcases a8 with⟨rfl,rfl,rfl⟩|rfl
  ·refine⟨some ⟨B,0,none⟩,cap,(B,.cells ⟨cs.take (fs.length*23)++f.cells tp tc bp bc ap ac++r⟩ 38)::(X++O),rfl,?_,⟨by simpa using a1,.inr ⟨B,_,X++O,rfl,ah _,V,a4⟩⟩,?_,fun x M=>by simp[M]⟩
   ·exact Bi
   ·exact⟨a2,.inr ⟨B,_,X++O,rfl,ah _,V,b1⟩⟩
  ·refine⟨some ⟨B,0,none⟩,cap,(B,.cells ⟨cs.take (fs.length*23)++f.cells tp tc bp bc ap ac++r⟩ 38)::(Q,.cells ⟨cs⟩ 38)::(X++O),rfl,?_,⟨by simpa using a1,.inr ⟨B,_,(Q,.cells ⟨cs⟩ 38)::(X++O),rfl,ah _,V,a4.mono (oR fun x M=>ag _ M)⟩⟩,⟨a2,.inr ⟨Q,cs,(B,.cells ⟨cs.take (fs.length*23)++f.cells tp tc bp bc ap ac++r⟩ 38)::(X++O),rfl,dg _ _ _,a3,a5.mono (oR fun x M=>ag _ (ak _ M))⟩⟩,fun x M=>by simp[M]⟩
   exact JY
structure JM where
 gen:Int
 fs:List dF
 en:Nat
 sz:Nat
 cu:Nat
 br:Bool
abbrev JM.js (m:JM)(p:OA)(c:Nat):JS:=⟨m.gen,p,m.fs.length,c,(m.en:Int),(m.sz:Int),(m.cu:Int),m.br⟩
def PA (JB D:Nat)(m:JM)(G:aX):Prop:=∃p c T,G=jH JB D (m.js p c)::T∧lj mI m.fs p c T
def AO (lk lk':Lk)(cs:List aa)(l:List dF)(i:Nat):Prop:=∀j (h:j<l.length),j*23+23≤cs.length∧((j<i→sD lk' ((cs.drop (j*23)).take 23) l[j])∧(i≤j→sD lk ((cs.drop (j*23)).take 23) l[j]))
theorem AO.put {lk V O:Lk}{cs:List aa}{l:List dF}{i:Nat}(h:AO lk V cs l i)(hi:i<l.length)(a6:∀b c,V b c→O b c)(hp:lv O l[i] tp tc bp bc ap ac):
  AO lk O (over cs (i*23) (l[i].cells tp tc bp bc ap ac)) l (i+1):=by
 have M:=(h i hi).1;have a7:(over cs (i*23) (l[i].cells tp tc bp bc ap ac)).length=cs.length:=wm (by show i*23+23≤_;exact M);intro j a4;obtain⟨a1,a2,a3⟩:=h j a4;refine⟨by rw[a7];exact a1,fun a5=>?_,fun a5=>?_⟩
 ·by_cases e:j=i
  ·subst e
   rw[XV rfl M];exact⟨_,_,_,_,_,_,rfl,hp⟩
  ·rw[ME rfl M e]
   exact(a2 (by omega)).mono a6
 ·rw[ME rfl M (by omega)]
  exact a3 (by omega)
def NY (fs:List dF)(G:aX)(v:aa)(L':aX):Prop:=∃p c N,v=.slice p fs.length c∧L'.Perm (N++G)∧lj mI fs p c N
theorem HK {x:Nat×Obj}{N T F:aX}{j:Nat×Obj}(h:F.Perm (x::(N++T))):(j::F).Perm ((x::N)++(j::T)):=
 (h.cons j).trans ((dg x j (N++T)).trans ((cI.symm).cons x))
theorem M5 {JB D:Nat}{m:JM}{p:OA}{c:Nat}{T:aX}(a8:lj mI m.fs p c T)(a1:∀f∈m.fs,f.Small)(b3:m.fs.length≤1000000){Q c':Nat}(hc:m.fs.length≤c'):
  ∀(g i:Nat) (cs:List aa) (F M:aX),g+i=m.fs.length→F.Perm ((Q,.cells ⟨cs⟩ 38)::(M++T))→cs.length=c'*23→AO (l7 T) (l7 M) cs m.fs i→
   xW JB m.gen p m.fs.length c (m.en:Int) D (m.sz:Int) (m.cu:Int) m.br JB (SO Q) m.fs.length c' (SO Q) m.fs.length c' (i:Int) D m.br F S w0 (fun e a3=>∃v L',e=.returned v∧Mem L' S w0 a3∧NY m.fs (jH JB D (m.js p c)::T) v L')
 |0,i,cs,F,M,hg,hp,hc2,h=>by
  apply Fz;refine no (by omega) (kR ⟨_,_,(Q,.cells ⟨cs⟩ 38)::M,rfl,HK hp,hc,.inr ⟨Q,cs,M,rfl,ah _,hc2,fun j V=>⟨(h j V).1,((h j V).2.1 (by omega)).mono yL⟩⟩⟩)
 | g+1,i,cs,F,M,hg,hp,hc2,h=>by
  apply Fz;have hi:i<m.fs.length:=by omega
  obtain⟨k1,b9,b5⟩:=h i hi;obtain⟨tp,tc,bp,bc,ap,ac,e,a9⟩:=b5 (aD _);refine yes (by omega) ⟨Q,0,rfl,by omega,cs,m.fs[i],tp,tc,bp,bc,ap,ac,⟨_,_,ag _ (hp.mem_iff.2 au)⟩,⟨by rw[az,ai];exact e,by rw[ai];omega⟩,fun a2=>?_⟩;refine eA.new [_,_] (Gt a9 (a1 _ (bH hi))) (fun W hm=>qt hm fun x O=>ag _ (ag _ (hp.mem_iff.2 (ag _ (ak _ O))))) ?_;rintro _ F' ⟨b7,b6,a7,a6,a5,a4,rfl,b1⟩;have b4:ab.wrap ((i:Int)+1)=((i+1:Nat):Int):=by rw[kS (by omega)];omega
  refine⟨m.fs[i],b7,b6,a7,a6,a5,a4,_,rfl,rfl,Q,0,rfl,by omega,cs,F'++(M++T),?_,by rw[ai];omega,?_⟩
  ·exact((hp.append_left F').trans cI)
  ·rw[b4,ai,az]
   refine M5 a8 a1 b3 hc g (i+1) _ _ ((a2,.cells ⟨m.fs[i].cells tp tc bp bc ap ac⟩ 38)::(F'++M)) (by omega) ?_ ?_ (h.put hi (mR fun x O=>ag _ (ak _ O)) (b1.mono (mR fun x O=>ag _ (ay _ O))))
   ·rw[aY,an]
   ·rw[wm (by show i*23+23≤_;omega)];exact hc2
theorem NZ {JB D:Nat}{m:JM}{G:aX}(h:PA JB D m G)(a5:∀f∈m.fs,f.Small)(a1:m.fs.length≤1000000):lP TP 15 ⟨[pt JB 0]⟩ G (NY m.fs G):=by
 obtain⟨p,c,T,rfl,O⟩:=h;intro W hm;refine X4 JB m.gen p m.fs.length c (m.en:Int) D (m.sz:Int) (m.cu:Int) m.br T hm (eA.new [_] (Yk (lk:=mJ T mI) O.zX a1) (fun W hm b c a3=>qt hm (fun x a6=>ag _ a6) b c (vq b c a3)) ?_);rintro _ F' ⟨p',c',rfl,k1,a7,a8⟩;refine⟨p',c',_,rfl,rfl,?_⟩;rcases bX m.fs.length with h0|hpos
 ·apply Fz
  have hn:m.fs=[]:=aQ.1 h0;refine no (by omega) ?_;rcases a8 h0 with⟨rfl,rfl,rfl⟩|⟨Q,cs,rfl,rfl,M⟩
  ·exact kR ⟨_,_,[],rfl,ah _,by rw[hn];exact lj.oz⟩
  ·exact kR ⟨_,_,[(Q,.cells ⟨cs⟩ 38)],rfl,HK (N:=[]) (ah _),k1,.inr ⟨Q,cs,[],rfl,ah _,M,by rw[hn];exact fun i hi=>absurd hi (by simp)⟩⟩
 ·obtain⟨Q,cs,rfl,rfl,M,a2⟩:=a7 hpos
  exact M5 O a5 a1 k1 m.fs.length 0 cs _ [] (by omega) (ah _) M fun j V=>⟨(a2 j V).1,fun a4=>absurd a4 (by omega),fun _=>(a2 j V).2.mono vq⟩
abbrev zK3aa (a:dF)(b x2 x3:Nat)(x4 x5 c:OA):Array aa:= #[IV a.n,IV a.time,IV a.kind,IV a.story,.string a.lang,IV a.rev,IV a.base,.string a.title,.string a.author,.slice x4 a.topics.length b,.slice x5 a.blocks.length x2,IV a.lab.unt,.slice c a.lab.after.length x3,IV a.lab.appr,IV a.lab.den,IV a.editor,IV a.block,IV a.sentence,.string a.text,.string a.name,IV a.partner,IV a.cls,IV a.unt]
abbrev yK3aa (a:Bool)(b:dF)(x2 x3 x4 x5:Int)(l m n o c d e f:Nat)(g h i j:OA)(k:aX):aX:=(l,.cells (zK3aa b m n o g h i) 38)::(c,.cells #[IV x2,.slice j d e,IV x3,PP f,IV x4,IV x5,.bool a] 86)::k
theorem Ye (a:Nat)(gen:Int)(i:OA)(b h:Nat)(g:Int)(c:Nat)(sz f:Int)(e:Bool)(d:aX)(hm:Mem ((kBqq a gen i b h g c sz f e)::d) S w0 W)(H:VP S w0 R (.ru [9,200]<|.li 3 2 (ab.wrap ((b:Int)+1)) fun j=>.re 1 (IV j) ((kBqq a gen i b h g c sz f e)::d))):aE TP 53 ⟨[PP a]⟩ W R:=VC.cs Tryz.func53 hm _ H
abbrev kAaq (x0:dF)(x1 x2 x3 x4 x5 x6):=([IV x0.n,IV x0.time,IV x0.kind,IV x0.story,.string x0.lang,IV x0.rev,IV x0.base,.string x0.title,.string x0.author,.slice x1 x0.topics.length x2,.slice x3 x0.blocks.length x4,IV x0.lab.unt,.slice x5 x0.lab.after.length x6,IV x0.lab.appr,IV x0.lab.den,IV x0.editor,IV x0.block,IV x0.sentence,.string x0.text,.string x0.name,IV x0.partner,IV x0.cls,IV x0.unt]:List aa)
theorem Rc (b:Nat)(c:dF)(i:OA)(h:Nat)(g:OA)(f:Nat)(e:OA)(d:Nat)(gen:Int)(p:OA)(j o:Nat)(l:Int)(m:Nat)(sz k:Int)(s:Bool)(w:aX)(hm:Mem ((kBqq b gen p j o l m sz k s)::w) S w0 W)(H:VP S w0 R (.nf 2 (.cells (zK3aa c h f d i g e) 38) fun B=>.hp (yK3aa s c gen l sz k B h f d b j o m i g e p w) fun q=>.ru [11,201]<|.r 7<|.dr 18<|.qu [3,101,1]<|.zB 20 s (.qu [13]<|.dn<|.re 6 (IV 240) q)<|.qu [100]<|.ex fun E=>.qc 24 [.agg (zK3aa c h f d i g e)] q (.bool E)<|.zB 22 E (.qu [4,100,3]<|.ex fun F=>.qc 53 [PP b] q (IV F)<|.qu [2]<|.dn<|.I 1 33 (c.n=F) (.re 5 (IV 240) q)<|.ru [4,200]<|.cl 0 54 [.agg (zK3aa c h f d i g e)] q<|.ex fun u=>.rt (.string u) q<|.cl 8 23 [PP b] q<|.ex fun G=>.rt (IV G) q<|.P 2 40 (G<(u.size:Int)) (.re 5 (IV 241) q)<|.r 4<|.dD<|.nm [0,3,5]<|.ph 16 [0,1,2,3,4,5,6,7,8,9,10,11,12,13,14] [15] 2<|.qu [6,101]<|.ex fun M=>.qc 44 [PP b,IV k] [(B,.cells (zK3aa c h f d i g e) 38),(kBqq b gen p j o l m sz k s)] (IV M)<|.qu [4,101,2]<|.dn<|.cl 49 [PP b,IV (ab.wrap (M+l)),.string u] (yK3aa s c gen l sz k B h f d b j o m i g e p w)<|.x3 fun sp N A=>.rt (.slice sp 4 N) (yK3aa s c gen l sz k B h f d b j o m i g e p A)<|.dn<|.tl<|.cl 0 50 [PP b,.slice sp 4 N] (yK3aa s c gen l sz k B h f d b j o m i g e p A)<|.x3 fun x re t=>.rt (IV re) (yK3aa t c gen l sz k B h f d b j o m i g e p x)<|.I 7 59 (re=0) (.re 6 (IV re) (yK3aa t c gen l sz k B h f d b j o m i g e p x))<|.r 3<|.dD<|.nm [0,3,5]<|.ph 10 [0,1,2,3,4,5,6] [7,8,9] 2<|.qu [5,101,100]<|.dn<|.cl 52 [.agg (zK3aa c h f d i g e)] (yK3aa t c gen l sz k B h f d b j o m i g e p x)<|.x5 fun(a:dF) cvtp cvtc cvbp cvbc=>.x3 fun z y C=>.rt (.agg (zK3aa a cvtc cvbc y cvtp cvbp z)) (yK3aa t c gen l sz k B h f d b j o m i g e p C)<|.n2 1 (.cells (zK3aa a cvtc cvbc y cvtp cvbp z) 38) fun O=>.apd O 38 38 23 22 22 (.slice p j o) 1 1 (kAaq a cvtp cvtc cvbp cvbc z y) (yK3aa t c gen l sz k B h f d b j o m i g e p C)<|.x3 fun ap (D:Nat) F4=>.rt (.slice ap (j+1) D) (yK3aa t c gen l sz k B h f d b j o m i g e p F4)<|.dn<|.tl<|.ru [3,201,7,201,6,201]<|.re 5 (IV 0) ((B,.cells (zK3aa c h f d i g e) 38)::(b,.cells #[IV gen,.slice ap (j+1) D,IV (ab.wrap (l+(u.size:Int))),PP m,IV sz,IV k,.bool t] 86)::F4))<|.qu [11]<|.dn<|.re 6 (IV 240) q)):aE TP 16 ⟨[PP b,.agg (zK3aa c h f d i g e)]⟩ W R:=VC.cs Tryz.func16 hm _ H
theorem PW.ro {P:Program}{g:FuncId}{args:Array aa}{W:aj}{v:aa}{x:Nat×Obj}(h:∀{R:bJ→aj→Prop} {S:List Nat} {w0 W:aj},Mem [x] S w0 W→Fin R [x] S w0 v→aE P g args W R)(O:W.heap[x.1]?=some x.2):PW P g args W v:=by
 have hm:Mem [x] [x.1] W W:=⟨by simp,by simp[O],by simp,Kept.refl _ W⟩;refine h hm fun a1 M=>⟨rfl,M.kept.os,M.kept.tape,M.kept.output,M.kept.size,fun k V=>?_⟩
 by_cases e:k=x.1
 ·subst e
  rw[M.here x au,O]
 ·exact M.kept.block k V (by simpa using e)
theorem lR {A B:aX}(h:∀(c:aX→Nat) (w:Nat×Obj→Nat),(∀x l,c (x::l)=c l+w x)→(∀a b,c (a++b)=c a+c b)→c []=0→(∀a b:aX,a.Perm b→c a=c b)→c A=c B):A.Perm B:=
 letI:DecidableEq (Nat×Obj):=fun a b=>Classical.propDecidable (a=b)
 List.perm_iff_count.2 fun a=>h (List.count a) (fun x=>if x==a then 1 else 0) (fun x l=>List.count_cons) (fun _ _=>List.count_append) List.count_nil (fun _ _ hp=>hp.count_eq a)
theorem perm_a {A B:aX}(h:∀(c:aX→Nat) (w:Nat×Obj→Nat),(∀x l,c (x::l)=c l+w x)→(∀a b,c (a++b)=c a+c b)→c []=0→(∀a b:aX,a.Perm b→c a=c b)→c A=c B:=by intro c w M O V a1;simp only[M,O,V,aY,aT];omega):A.Perm B:=lR h
theorem mM.nd {P:Program}{S:List Nat}{w0:aj}{L:aX}{sz:Nat}{T U:aC}{s:aa}{m:Nat}{news:List aa}{K K':aa→aX→Prop}(h:mM P sz T U s m news L S w0 K)(a5:∀v L',K v L'→∃M,L'.Perm M∧K' v M):mM P sz T U s m news L S w0 K':=by
 intro x ty W hm a6;obtain⟨v,O,L',V,a1,a2⟩:=h x ty W hm a6;obtain⟨M,a3,a4⟩:=a5 v L' a2;exact⟨v,O,M,V,a1.perm a3.symm,a4⟩
section perms
variable (x y z:Nat×Obj)(A F T X Z:aX)
theorem Zu:([x]++(y::A)).Perm (y::x::A):=perm_a
theorem Tg:((x::X)++(y::A)).Perm (y::x::(X++A)):=perm_a
theorem WN:((x::(F++X))++(y::T)).Perm (y::x::(X++(F++T))):=perm_a
theorem Oy:((x::(F++X))++(y::T)).Perm (y::x::(F++(X++T))):=perm_a
theorem GA:(y::x::(F++T)).Perm (x::(F++(y::T))):=perm_a
theorem Wg:((y::x::(Z++(F++(X++T))))++[z]).Perm (Z++(T++(y::x::z::(F++X)))):=perm_a
theorem WQ:(A++(y::x::z::(F++X))).Perm (y::x::(A++(z::(F++X)))):=perm_a
theorem PM:(y::x::(A++(z::(F++X)))).Perm (x::(F++((y::z::X)++A))):=perm_a
end perms
theorem NX {W:aj}{JB D:Nat}{m:JM}{p:OA}{c:Nat}(h:W.heap[JB]?=some (jH JB D (m.js p c)).2)(O:m.en≤m.sz)(V:m.sz≤4194304):PW TP 23 ⟨[pt JB 0]⟩ W (.int .i64 ((m.sz-m.en:Nat):Int)):=by
 refine PW.ro (x:=jH JB D (m.js p c)) (fun hm M=>RP JB m.gen p m.fs.length c (m.en:Int) D (m.sz:Int) (m.cu:Int) m.br hm ?_) h;rintro _ rfl;rw[kS (by omega),show(m.sz:Int)-(m.en:Int)=((m.sz-m.en:Nat):Int)by omega];exact M
theorem GV {W:aj}{JB D:Nat}{m:JM}{p:OA}{c:Nat}(h:W.heap[JB]?=some (jH JB D (m.js p c)).2):PW TP 26 ⟨[pt JB 0]⟩ W (.int .i64 m.gen):=
 PW.ro (x:=jH JB D (m.js p c)) (fun hm M=>Zk JB m.gen p m.fs.length c (m.en:Int) D (m.sz:Int) (m.cu:Int) m.br hm M) h
theorem wV {W:aj}{JB D:Nat}{m:JM}{p:OA}{c k:Nat}(h:W.heap[JB]?=some (jH JB D (m.js p c)).2)(O:k≤1)(V:m.sz≤4194304):PW TP 44 ⟨[pt JB 0,.int .i64 (k:Int)]⟩ W (.int .i64 ((k*m.sz:Nat):Int)):=by
 refine PW.ro (x:=jH JB D (m.js p c)) (fun hm M=>RK JB (k:Int) m.gen p m.fs.length c (m.en:Int) D (m.sz:Int) (m.cu:Int) m.br hm ?_) h;rintro _ rfl;have e:(k:Int)*(m.sz:Int)=((k*m.sz:Nat):Int):=by simp
 have:k*m.sz≤1*4194304:=dp O V;rw[e,kS (by omega)];exact M
theorem Xr {W:aj}{JB D:Nat}{m:JM}{p:OA}{c:Nat}(h:W.heap[JB]?=some (jH JB D (m.js p c)).2)(O:m.fs.length≤1000000):PW TP 53 ⟨[pt JB 0]⟩ W (.int .i64 ((m.fs.length+1:Nat):Int)):=by
 refine PW.ro (x:=jH JB D (m.js p c)) (fun hm M=>Ye JB m.gen p m.fs.length c (m.en:Int) D (m.sz:Int) (m.cu:Int) m.br [] hm ?_) h;rintro _ rfl;rw[kS (by omega),show(m.fs.length:Int)+1=((m.fs.length+1:Nat):Int)by omega];exact M
structure nQ (m:JM):Prop where
 en:m.en≤m.sz
 sz:m.sz≤2097152
 cu:m.cu≤1
 ok:∀f∈m.fs,f.ok=true
 len:m.fs.length≤500
 gen:0≤m.gen∧m.gen≤4611686018427387903
def mw (m:JM)(d:DS)(f:dF):Int×JM×DS:=
 if m.br=true then(240,m,d)else if f.ok=false then(240,m,d)else if f.n≠(m.fs.length+1:Nat)then(240,m,d)
 else if m.sz-m.en<(lJ f).length then(241,m,d)
 else if(ln (l8 ((m.cu*m.sz+m.en:Nat):Int) (ba (lJ f))) d).1=0 then(0,{m with fs:=m.fs++[f],en:=m.en+(lJ f).length},(ln (l8 ((m.cu*m.sz+m.en:Nat):Int) (ba (lJ f))) d).2)
 else((ln (l8 ((m.cu*m.sz+m.en:Nat):Int) (ba (lJ f))) d).1,{m with br:=true},(ln (l8 ((m.cu*m.sz+m.en:Nat):Int) (ba (lJ f))) d).2)
def JD (JB D:Nat)(m:JM)(d:DS)(L:aX):Prop:=∃F p c T,L.Perm (jH JB D (m.js p c)::(F++T))∧mV D d F∧lj mI m.fs p c T
def xL (lk:Lk)(S:List Nat)(W:aj):Prop:=(0∉S∧lG W 0=some mH)∧∀b c,lk b c→qb S W b c
theorem vo {lk:Lk}{S:List Nat}{w0 W:aj}{L:aX}(h:∀b c,lk b c→qb S w0 b c)(hm:Mem L S w0 W):∀b c,lk b c→kY W b c:=fun b c M=>sh hm.kept (h b c M).1 (h b c M).2
theorem Hf {lk:Lk}{JB D:Nat}{m:JM}{d:DS}{L:aX}{f:dF}{tp bp ap:OA}{tc bc ac:Nat}(h:JD JB D m d L)(hm:nQ m)(hp:d.pend.length<900000)(b4:lv lk f tp tc bp bc ap ac):
  m0 TP 16 ⟨[pt JB 0,.agg ⟨f.cells tp tc bp bc ap ac⟩]⟩ L (xL lk (L.map (·.1))) (fun v L'=>v=.int .i64 (mw m d f).1∧JD JB D (mw m d f).2.1 (mw m d f).2.2 L'):=by
 obtain⟨F,p,c,T,d1,c2,b1⟩:=h;intro W d7 ⟨⟨hS,hg⟩,hlk⟩;generalize L.map (·.1)=S at*;have d8:=d7.perm d1.symm;have d5:=hm.en;have e4:=hm.sz;have b9:=hm.cu;have e8:=hm.len;refine Rc JB f tp tc bp bc ap ac m.gen p m.fs.length c (m.en:Int) D (m.sz:Int) (m.cu:Int) m.br (F++T) d8 fun B=>?_
 have a4:∀{e:Int} {b6:JM×DS},(e,b6)=mw m d f→b6=(m,d)→Fin (fun e O=>∃v L',e=.returned v∧Mem L' S W O∧v=.int .i64 (mw m d f).1∧JD JB D (mw m d f).2.1 (mw m d f).2.2 L') ((B,.cells ⟨f.cells tp tc bp bc ap ac⟩ 38)::jH JB D (m.js p c)::(F++T)) S W (.int .i64 e):=by
  intro e b6 c9 d0;subst d0;rw[←c9];refine kR ⟨rfl,F,p,c,(B,.cells ⟨f.cells tp tc bp bc ap ac⟩ 38)::T,?_,c2,b1.more [_]⟩;exact GA _ _ _ _
 refine⟨fun a1=>a4 (by rw[mw,if_pos a1]) rfl,fun a1=>⟨f.ok,lV.pw fun O M=>FP (b4.mono (vo hlk M)),fun V=>?_,fun V=>a4 (by rw[mw,if_neg (by rw[a1];decide),if_pos V]) rfl⟩⟩;refine⟨((m.fs.length+1:Nat):Int),lV.pw fun O M=>Xr (m:=m) (M.here (jH JB D (m.js p c)) (ag _ au)) (by omega),fun hn=>a4 (by rw[mw,if_neg (by rw[a1];decide),if_neg (by rw[V];decide),if_pos hn]) rfl,fun hn=>?_⟩;refine eA.pw (fun O M=>Jo (sh M.kept hS hg) (b4.mono (vo hlk M)) V) ⟨_,rfl,rfl,?_⟩;refine eA.pw (fun O M=>NX (m:=m) (M.here (jH JB D (m.js p c)) (ag _ au)) d5 (by omega)) ⟨_,rfl,rfl,fun b5=>a4 (by rw[mw,if_neg (by rw[a1];decide),if_neg (by rw[V];decide),if_neg (by simpa using hn),if_pos (by rw[lY]at b5;omega)]) rfl,fun b5=>?_⟩;rw[lY]at b5;have e9:(lJ f).length≤m.sz-m.en:=by omega
 refine⟨((m.cu*m.sz:Nat):Int),m3.pw fun O M=>wV (m:=m) (M.here (jH JB D (m.js p c)) (ag _ au)) b9 (by omega),?_⟩;have hcs:m.cu*m.sz≤1*2097152:=dp b9 e4;have c7:ab.wrap (((m.cu*m.sz:Nat):Int)+(m.en:Int))=((m.cu*m.sz+m.en:Nat):Int):=by rw[kS (by omega)];omega
 rw[c7];have e2:1≤(ba (lJ f)).size:=by rw[lY];show 1≤(mD _).length;rw[mD];simp
 refine eA.lF (L0:=[jH JB D (m.js p c)]) (L1:=(B,.cells ⟨f.cells tp tc bp bc ap ac⟩ 38)::(F++T)) (Hw (j:=m.js p c) e2 (by omega)) (Zu _ _ _) ?_;rintro _ _ ⟨Bs,X,rfl,rfl,e3⟩;refine⟨_,Tg _ _ _ _,some ⟨Bs,0,none⟩,4,_,rfl,rfl,?_⟩;obtain⟨vs,t,fz,k1,e5,e6⟩:=e3;refine eA.lF (L0:=jH JB D (m.js p c)::(F++X)) (L1:=(B,.cells ⟨f.cells tp tc bp bc ap ac⟩ 38)::T) (DC (ops:=l8 ((m.cu*m.sz+m.en:Nat):Int) (ba (lJ f))) (sc:=4) k1 e5 e6 (j:=m.js p c) (by show 4≤1000;omega) c2 hp) (WN _ _ _ _ _) ?_;rintro _ _ ⟨F',rfl,rfl,c3⟩;have b7:mw m d f=if(ln (l8 ((m.cu*m.sz+m.en:Nat):Int) (ba (lJ f))) d).1=0 then(0,{m with fs:=m.fs++[f],en:=m.en+(lJ f).length},(ln (l8 ((m.cu*m.sz+m.en:Nat):Int) (ba (lJ f))) d).2)
   else((ln (l8 ((m.cu*m.sz+m.en:Nat):Int) (ba (lJ f))) d).1,{m with br:=true},(ln (l8 ((m.cu*m.sz+m.en:Nat):Int) (ba (lJ f))) d).2):=by
  rw[mw,if_neg (by rw[a1];decide),if_neg (by rw[V];decide),if_neg (by simpa using hn),if_neg (by omega)]
 generalize ln (l8 ((m.cu*m.sz+m.en:Nat):Int) (ba (lJ f))) d=r at*;have d4:jH JB D ((m.js p c).after r.1)=(JB,.cells #[.int .i64 m.gen,.slice p m.fs.length c,.int .i64 m.en,.pointer (SO D),.int .i64 m.sz,.int .i64 m.cu,.bool ((m.js p c).after r.1).br] 86):=by
  unfold JS.after;split<;>rfl
 rw[d4];refine⟨_,Oy _ _ _ _ _,F'++(X++T),r.1,((m.js p c).after r.1).br,rfl,rfl,fun c5=>?_,fun c4=>?_⟩
 ·rw[b7,if_neg c5]
  have b3:((m.js p c).after r.1).br=true:=by rw[JS.after,if_neg c5]
  rw[b3];exact kR ⟨rfl,F',p,c,(B,.cells ⟨f.cells tp tc bp bc ap ac⟩ 38)::(X++T),GA _ _ _ _,c3,b1.more (_::X)⟩
 ·have b3:((m.js p c).after r.1).br=m.br:=by rw[JS.after,if_pos c4]
  rw[b3];refine eA.new (lk:=lk) [_,_] (Gt b4 (BU V)) (fun O M=>vo hlk M) ?_;rintro _ Z ⟨a8,a7,a6,a5,a3,a2,rfl,d6⟩;refine⟨f,a8,a7,a6,a5,a3,a2,_,rfl,rfl,fun a9=>?_⟩;refine(lj.push (X:=Z) (Y:=(B,.cells ⟨f.cells tp tc bp bc ap ac⟩ 38)::jH JB D (m.js p c)::(a9,.cells ⟨f.cells a8 a7 a6 a5 a3 a2⟩ 38)::(F'++X)) b1 (d6.mono yL) rfl (by omega) (Wg _ _ _ _ _ _ _)).nd ?_;rintro _ e7 ⟨p',c',N,rfl,d9,d2,_,_⟩;refine⟨_,d9.trans (WQ _ _ _ _ _ _),p',c',N++((a9,.cells ⟨f.cells a8 a7 a6 a5 a3 a2⟩ 38)::(F'++X)),rfl,rfl,?_⟩;rw[b7,if_pos c4];have c8:ab.wrap ((m.en:Int)+((ba (lJ f)).size:Int))=((m.en+(lJ f).length:Nat):Int):=by rw[lY,kS (by omega)];omega
  have c6:(m.fs++[f]).length=m.fs.length+1:=by simp
  rw[c8];have d3:lj mI (m.fs++[f]) p' c' ((((B,.cells ⟨f.cells tp tc bp bc ap ac⟩ 38)::(a9,.cells ⟨f.cells a8 a7 a6 a5 a3 a2⟩ 38)::X)++N)):=d2.more _;exact kR ⟨rfl,F',p',c',_,by rw[JM.js,c6];exact PM _ _ _ _ _ _,c3,d3⟩
abbrev nk (a:dF)(g:OA)(f:Nat)(e:OA)(d:Nat)(c:OA)(b:Nat):Array aa:=⟨a.cells g f e d c b⟩
abbrev rb (a:dF)(g:OA)(f:Nat)(e:OA)(d:Nat)(c:OA)(b:Nat):Array aa:=⟨a.cells g f e d c b⟩
abbrev xV (a:dF)(g:OA)(f:Nat)(e:OA)(d:Nat)(c:OA)(b:Nat):Array aa:=⟨a.cells g f e d c b⟩
abbrev nA (gen:Int)(e:OA)(d c:Nat)(b:Int)(f:Nat)(sz a:Int)(g:Bool):Array aa:= #[IV gen,.slice e d c,IV b,PP f,IV sz,IV a,.bool g]
abbrev qS (gen:Int)(e:OA)(d c:Nat)(b:Int)(f:Nat)(sz a:Int)(g:Bool):Array aa:= #[IV gen,.slice e d c,IV b,PP f,IV sz,IV a,.bool g]
abbrev Oe:Array aa:= #[IV 0,IV 0,IV 0,IV 0,sZ,IV 0,IV 0,sZ,sZ,.slice none 0 0,.slice none 0 0,IV 0,.slice none 0 0,IV 0,IV 0,IV 0,IV 0,IV 0,sZ,sZ,IV 0,IV 0,IV 0]
def vR (o:Nat)(gen:Int)(e:OA)(a d:Nat)(h:Int)(n:Nat)(sz g:Int)(p:Bool)(b c:Nat)(m:Int)(j:Nat)(k:Bool)(i:Array cD)(l:Nat)(f:aX)(S:List Nat)(w0:aj)(R:bJ→aj→Prop):Prop:=
 kO TP 67 66 (KC fw 116) [(0,PP b),(4,.map (some c)),(16,.slice e a d),(17,IV (a:Int)),(18,IV m)] ((b,.cells (qS gen e a d h j sz g k) 86)::(c,.map i l)::f) S w0 (lN R)
def u5 (t:Nat)(gen:Int)(d:OA)(a c:Nat)(i:Int)(s:Nat)(sz h:Int)(u:Bool)(b e g:Nat)(m:OA)(l k:Nat)(q:Int)(j:Array cD)(p n:Nat)(o:Bool)(f:aX)(S:List Nat)(w0:aj)(R:bJ→aj→Prop):Prop:=
 kO TP 67 66 (KC fw 2036) [(4,.map (some b)),(7,PP g),(8,.slice m l k),(44,.slice d a c),(45,IV (a:Int)),(46,IV q)] ((b,.map j p)::(e,.cells (nA gen d a c i n sz h o) 86)::f) S w0 (lN R)
theorem IA (U:Nat)(gen:Int)(d:OA)(a f:Nat)(k:Int)(O:Nat)(sz j:Int)(V:Bool)(g e:Nat)(s:Int)(l:Nat)(m:Bool)(h:Array cD)(q:Nat)(t:aX)
 (H:
 Br (s<(a:Int))
 (∃N x:Nat,d=some ⟨N,x,none⟩∧(0≤s∧s<a)∧
 ∃(X:List aa) (u:dF) (F:OA) (D:Nat) (C:OA) (A:Nat) (z:OA) (y:Nat),(∃a9 a5,(N,bu ⟨X⟩ a9 a5)∈((g,.cells (qS gen d a f k l sz j m) 86)::(e,.map h q)::t))∧((X.drop (x+((ad s)*23))).take 23=(u.cells F D C A z y)∧(x+((ad s)*23))+23≤X.length)∧
 ∀G:Nat,
 Br (u.kind=6)
 ((nZ .i64 (h:Array cD).toList=true)∧
 ∀(M:Array cD) (Y:Nat),nZ .i64 M.toList=true→(∀Z,m6 .i64 Z M.toList=if Z=u.story then some (.bool true)else m6 .i64 Z (h:Array cD).toList)→
 vR U gen d a f k O sz j V g e (ab.wrap (s+(1:Int))) l m M Y t S w0 R)
 (vR U gen d a f k O sz j V g e (ab.wrap (s+(1:Int))) l m h q t S w0 R))
 (∀w:Nat,
 eA TP 48 ⟨[IV (ab.wrap (gen+(1:Int)))]⟩ ((kBnq w)::(g,.cells (qS gen d a f k l sz j m) 86)::(e,.map h q)::t) S w0 (fun v L'=>∃a0 a1,v=(kBcq a0 a1)∧L'=((kBnq w)::(g,.cells (qS gen d a f k l sz j m) 86)::(e,.map h q)::t)∧
 eA TP 47 ⟨[.string a0,IV a1]⟩ ((kBnq w)::(g,.cells (qS gen d a f k l sz j m) 86)::(e,.map h q)::t) S w0 (fun v L'=>∃a2,v=.string a2∧L'=((kBnq w)::(g,.cells (qS gen d a f k l sz j m) 86)::(e,.map h q)::t)∧
 eA TP 109 ⟨[PP w,.string a2]⟩ ((kBnq w)::(g,.cells (qS gen d a f k l sz j m) 86)::(e,.map h q)::t) S w0 (fun v L'=>∃Q a4,v=(kCbq a4)∧L'=((g,.cells (qS gen d a f k l sz j m) 86)::(e,.map h q)::Q)∧
 u5 U gen d a f k O sz j V e g w none 0 0 (0:Int) h q l m Q S w0 R))))):
 vR U gen d a f k O sz j V g e s l m h q t S w0 R:=by
 unfold vR;refine .ru 5 (.sP 19 H (fun H=>?_) fun H=>?_)
 ·refine .ru 6 ?_
  obtain⟨N,x,hp,H⟩:=H;refine .ub (E:=38) (p:=d) (b:=N) (o:=x) (len:=a) (cap:=f) (sz:=23) (o':=(x+((ad s)*23))) (kd:=.i64) (i:=s) hp (by kernel_rfl) H.1 (by omega) ?_
  replace H:=H.2
  obtain⟨X,u,F,D,C,A,z,y,a8,a3,H⟩:=H;refine .loadT (b:=N) (off:=(x+((ad s)*23))) (T:=38) (v:=.agg (xV u F D C A z y)) (by kernel_rfl) a8 (vN a3.1 a3.2 (by kernel_rfl) (by kernel_rfl)) (.nH (.cells Oe 38) H fun G H=>(.front (.store 0 0 (T:=38) (v:=.agg (xV u F D C A z y)) (by kernel_rfl) (.ru 4 (.ld 0 2 (.ru 2 (.sP 24 H (fun H=>?_) fun H=>?_)))))))
  ·refine .nm (KC fw 7475) [(0,PP g),(4,.map (some e)),(6,PP G),(16,.slice d a f),(17,IV (a:Int)),(18,IV s),(24,.bool true)] ((G,.cells (xV u F D C A z y) 38)::(g,.cells (qS gen d a f k l sz j m) 86)::(e,.map h q)::t) (.ru 4 (.ld 0 3 (.Vx 2 (b:=e) (c:=q) (es:=h) (kt:=3) (et:=4) (kd:=.i64) (n:=u.story) (v:=.bool true) (by kernel_rfl) H.1 (fun M Y a6 a7=>?_))))
   replace H:=H.2 M Y a6 a7
   refine .nm (KR fw 14950 []) [(0,PP g),(4,.map (some e)),(16,.slice d a f),(17,IV (a:Int)),(18,IV s)] ((G,.cells (xV u F D C A z y) 38)::(g,.cells (qS gen d a f k l sz j m) 86)::(e,.map M Y)::t) (.ru 7 (.tT [1,2] 3 H))
  ·refine .nm (KC fw 7475) [(0,PP g),(4,.map (some e)),(6,PP G),(16,.slice d a f),(17,IV (a:Int)),(18,IV s),(24,.bool false)] ((G,.cells (xV u F D C A z y) 38)::(g,.cells (qS gen d a f k l sz j m) 86)::(e,.map h q)::t) (.ru 8 (.tT [1,2] 3 H))
 ·refine .ru 4 (.nH (.cells #[.pointer none,.slice none 0 0] 103) H fun w H=>(.front (.ru 7 (.ld 1 0 (.ru 1 (.cl H ?_))))))
  rintro _ _ ⟨a0,a1,rfl,rfl,H⟩;refine .ru 2 (.cl H ?_);rintro _ _ ⟨a2,rfl,rfl,H⟩;refine .cl H ?_;rintro _ _ ⟨Q,a4,rfl,rfl,H⟩;refine .ru 12 (.ld 0 1 (.nm (KR fw 508 [5,6]) [(4,.map (some e)),(7,PP w),(8,.slice none 0 0),(44,.slice d a f)] ((g,.cells (qS gen d a f k l sz j m) 86)::(e,.map h q)::Q) (.ru 5 (.tT [1,0] 2 H))))
theorem G5 (c2:Nat)(gen:Int)(d:OA)(a f:Nat)(l:Int)(b6:Nat)(sz k:Int)(c3:Bool)(e j Z:Nat)(a1:OA)(Y a0:Nat)(X:Int)(g:Array cD)(h m:Nat)(q:Bool)(a3:aX)
 (H:
 Br (X<(a:Int))
 (∃a6 a2:Nat,d=some ⟨a6,a2,none⟩∧(0≤X∧X<a)∧
 ∃(b5:List aa) (t:dF) (C:OA) (A:Nat) (z:OA) (y:Nat) (w:OA) (u:Nat),(∃d4 d0,(a6,bu ⟨b5⟩ d4 d0)∈((e,.map g h)::(j,.cells (nA gen d a f l m sz k q) 86)::a3))∧((b5.drop (a2+((ad X)*23))).take 23=(t.cells C A z y w u)∧(a2+((ad X)*23))+23≤b5.length)∧
 ∀D:Nat,
 ∃a7:Bool,(nZ .i64 (g:Array cD).toList=true)∧((m6 .i64 t.story (g:Array cD).toList).getD (.bool false)=.bool a7)∧
 Bb (a7)
 (eA TP 81 ⟨[.agg (nk t C A z y w u)]⟩ ((D,.cells (nk t C A z y w u) 38)::(e,.map g h)::(j,.cells (nA gen d a f l m sz k q) 86)::a3) S w0 (fun v L'=>∃(F:dF) (V:OA) (Q:Nat) (O:OA) (N:Nat) (M:OA) (G:Nat),∃b7,v=(.agg (rb F V Q O N M G))∧L'=((D,.cells (nk t C A z y w u) 38)::(e,.map g h)::(j,.cells (nA gen d a f l m sz k q) 86)::b7)∧
 ∀a8:Nat,
 mM TP 23 22 22 (.slice a1 Y a0) (1) (F.cells V Q O N M G) ((a8,.cells (rb F V Q O N M G) 38)::(D,.cells (rb F V Q O N M G) 38)::(e,.map g h)::(j,.cells (nA gen d a f l m sz k q) 86)::b7) S w0 (fun v L'=>∃(ap:OA) (b1:Nat),∃a4,v=(.slice ap (Y+1) b1)∧L'=((D,.cells (rb F V Q O N M G) 38)::(e,.map g h)::(j,.cells (nA gen d a f l m sz k q) 86)::a4)∧
 eA TP 54 ⟨[.agg (rb F V Q O N M G)]⟩ ((D,.cells (rb F V Q O N M G) 38)::(e,.map g h)::(j,.cells (nA gen d a f l m sz k q) 86)::a4) S w0 (fun v L'=>∃c5,v=.string c5∧L'=((D,.cells (rb F V Q O N M G) 38)::(e,.map g h)::(j,.cells (nA gen d a f l m sz k q) 86)::a4)∧
 eA TP 109 ⟨[PP Z,.string c5]⟩ ((D,.cells (rb F V Q O N M G) 38)::(e,.map g h)::(j,.cells (nA gen d a f l m sz k q) 86)::a4) S w0 (fun v L'=>∃b9 c8,v=(kCbq c8)∧L'=((D,.cells (rb F V Q O N M G) 38)::(e,.map g h)::(j,.cells (nA gen d a f l m sz k q) 86)::b9)∧
 u5 c2 gen d a f l b6 sz k c3 e j Z ap (Y+1) b1 (ab.wrap (X+(1:Int))) g h m q b9 S w0 R)))))
 (∀a9:Nat,
 mM TP 23 22 22 (.slice a1 Y a0) (1) (t.cells C A z y w u) ((a9,.cells (nk t C A z y w u) 38)::(D,.cells (nk t C A z y w u) 38)::(e,.map g h)::(j,.cells (nA gen d a f l m sz k q) 86)::a3) S w0 (fun v L'=>∃(b4:OA) (b3:Nat),∃a5,v=(.slice b4 (Y+1) b3)∧L'=((D,.cells (nk t C A z y w u) 38)::(e,.map g h)::(j,.cells (nA gen d a f l m sz k q) 86)::a5)∧
 eA TP 54 ⟨[.agg (nk t C A z y w u)]⟩ ((D,.cells (nk t C A z y w u) 38)::(e,.map g h)::(j,.cells (nA gen d a f l m sz k q) 86)::a5) S w0 (fun v L'=>∃c4,v=.string c4∧L'=((D,.cells (nk t C A z y w u) 38)::(e,.map g h)::(j,.cells (nA gen d a f l m sz k q) 86)::a5)∧
 eA TP 109 ⟨[PP Z,.string c4]⟩ ((D,.cells (nk t C A z y w u) 38)::(e,.map g h)::(j,.cells (nA gen d a f l m sz k q) 86)::a5) S w0 (fun v L'=>∃b0 c9,v=(kCbq c9)∧L'=((D,.cells (nk t C A z y w u) 38)::(e,.map g h)::(j,.cells (nA gen d a f l m sz k q) 86)::b0)∧
 u5 c2 gen d a f l b6 sz k c3 e j Z b4 (Y+1) b3 (ab.wrap (X+(1:Int))) g h m q b0 S w0 R)))))
 (eA TP 60 ⟨[PP Z]⟩ ((e,.map g h)::(j,.cells (nA gen d a f l m sz k q) 86)::a3) S w0 (fun v L'=>∃c0 c6,v=.string c6∧L'=((e,.map g h)::(j,.cells (nA gen d a f l m sz k q) 86)::c0)∧
 Fin R ((e,.map g h)::(j,.cells (nA gen d a f l m sz k q) 86)::c0) S w0 (.tuple #[.string c6,.slice a1 Y a0])))):
 u5 c2 gen d a f l b6 sz k c3 e j Z a1 Y a0 X g h m q a3 S w0 R:=by
 unfold u5;refine .ru 5 (.sP 47 H (fun H=>?_) fun H=>?_)
 ·refine .ru 6 ?_
  obtain⟨a6,a2,hp,H⟩:=H;refine .ub (E:=38) (p:=d) (b:=a6) (o:=a2) (len:=a) (cap:=f) (sz:=23) (o':=(a2+((ad X)*23))) (kd:=.i64) (i:=X) hp (by kernel_rfl) H.1 (by omega) ?_
  replace H:=H.2
  obtain⟨b5,t,C,A,z,y,w,u,d3,c7,H⟩:=H;refine .loadT (b:=a6) (off:=(a2+((ad X)*23))) (T:=38) (v:=.agg (nk t C A z y w u)) (by kernel_rfl) d3 (vN c7.1 c7.2 (by kernel_rfl) (by kernel_rfl)) (.nH (.cells Oe 38) H fun D H=>(.front (.store 0 0 (T:=38) (v:=.agg (nk t C A z y w u)) (by kernel_rfl) (.ru 6 (.ld 0 3 ?_)))));obtain⟨a7,d1,d2,H⟩:=H;refine .QS 1 (b:=e) (c:=h) (es:=g) (kt:=3) (et:=4) (kd:=.i64) (n:=t.story) (z:=.bool false) (.bool a7) (by kernel_rfl) d1 d2 (.nm (KR fw 260708 []) [(4,.map (some e)),(7,PP Z),(8,.slice a1 Y a0),(10,PP D),(44,.slice d a f),(45,IV (a:Int)),(46,IV X),(53,.bool a7)] ((D,.cells (nk t C A z y w u) 38)::(e,.map g h)::(j,.cells (nA gen d a f l m sz k q) 86)::a3) (.ru 1 (.sB 53 H (fun H=>?_) fun H=>?_)))
  ·refine .ru 2 (.ld 0 0 (.cl H ?_))
   rintro _ _ ⟨F,V,Q,O,N,M,G,b7,rfl,rfl,H⟩;refine .store 0 0 (T:=38) (v:=.agg (rb F V Q O N M G)) (by kernel_rfl) (.ru 4 (.ld 0 0 (.nw (fun B=>.slice (SO B) 1 1) (.cells (rb F V Q O N M G) 38) fun a8=>?_)))
   replace H:=H a8
   refine .front (.vy (sz:=23) (T:=22) (U:=22) (s:=.slice a1 Y a0) (x:=.slice (SO a8) 1 1) (1) (F.cells V Q O N M G) (by kernel_rfl) (yf (E':=38) (t:=38) (fz:=(0,0)) (c:=(F.cells V Q O N M G)) (by simp) (by kernel_rfl) (by simp) (by simp[ic])) H ?_);rintro _ _ ⟨ap,b1,a4,rfl,rfl,H⟩;refine .nm (KR fw 260710 [4]) [(4,.map (some e)),(7,PP Z),(10,PP D),(44,.slice d a f),(45,IV (a:Int)),(46,IV X),(59,.slice ap (Y+1) b1)] ((D,.cells (rb F V Q O N M G) 38)::(e,.map g h)::(j,.cells (nA gen d a f l m sz k q) 86)::a4) (.ru 3 (.ld 0 0 (.cl H ?_)));rintro _ _ ⟨c5,rfl,rfl,H⟩;refine .cl H ?_;rintro _ _ ⟨b9,c8,rfl,rfl,H⟩;refine .ru 7 (.tT [1,2] 3 H)
  ·refine .ru 5 (.ld 0 0 (.nw (fun B=>.slice (SO B) 1 1) (.cells (nk t C A z y w u) 38) fun a9=>?_))
   replace H:=H a9
   refine .front (.vy (sz:=23) (T:=22) (U:=22) (s:=.slice a1 Y a0) (x:=.slice (SO a9) 1 1) (1) (t.cells C A z y w u) (by kernel_rfl) (yf (E':=38) (t:=38) (fz:=(0,0)) (c:=(t.cells C A z y w u)) (by simp) (by kernel_rfl) (by simp) (by simp[ic])) H ?_);rintro _ _ ⟨b4,b3,a5,rfl,rfl,H⟩;refine .ru 3 (.ld 0 0 (.cl H ?_));rintro _ _ ⟨c4,rfl,rfl,H⟩;refine .cl H ?_;rintro _ _ ⟨b0,c9,rfl,rfl,H⟩;refine .nm (KR fw 260711 []) [(4,.map (some e)),(7,PP Z),(8,.slice b4 (Y+1) b3),(44,.slice d a f),(45,IV (a:Int)),(46,IV X)] ((D,.cells (nk t C A z y w u) 38)::(e,.map g h)::(j,.cells (nA gen d a f l m sz k q) 86)::b0) (.ru 7 (.tT [1,2] 3 H))
 ·refine .ru 4 (.cl H ?_)
  rintro _ _ ⟨c0,c6,rfl,rfl,H⟩;refine .ru 4 (.rt Tryz.func67 H)
theorem XQ (a:Nat)(gen:Int)(i:OA)(h g:Nat)(f:Int)(b:Nat)(sz e:Int)(c:Bool)(d:aX)(hm:Mem ((kBqq a gen i h g f b sz e c)::d) S w0 W)
 (H:
 ∀B:Nat,
 vR a gen i h g f b sz e c a B (0:Int) b c (#[]) 0 d S w0 R):
 aE TP 67 ⟨[PP a]⟩ W R:=by
 refine kO.cs 66 Tryz.func67 hm (.ru 7 (.nw (fun B=>.map (some B)) (.map #[] 0) fun B=>?_))
 replace H:=H B
 refine .front (.ru 9 (.ld 1 1 (.ru 5 (.tT [1,0] 2 H))))
def q7 (l:List dF)(q:Int):Bool:=l.any fun f=>decide (f.kind=6)&&decide (f.story=q)
theorem ES (l:List dF)(f:dF)(q:Int):q7 (l++[f]) q=(q7 l q||(decide (f.kind=6)&&decide (f.story=q))):=by simp[q7]
def l5 (l:List dF):List dF:=l.map fun f=>if q7 l f.story=true then nn f else f
def nN (t l:List dF):List dF:=l.map fun f=>if q7 t f.story=true then nn f else f
abbrev flat (fs:List dF):List UInt8:=fs.flatMap lJ
abbrev cont (g:Int)(fs:List dF):List UInt8:=lA g++flat fs
theorem DH {f:dF}(h:f.ok=true):(lJ f).length≤60030:=by
 have M:=A5 h;have O:=pd (mE f);have V:=AW (lL (mE f));rw[lJ];omega
theorem A9:∀(fs:List dF),(∀f∈fs,f.ok=true)→(flat fs).length≤fs.length*60030
 |[],_=>aD _
 |f::r,h=>by
  have O:=DH (h f au);have V:=A9 r fun x M=>h x (ag _ M)
  simp only[flat,bq,ae,aI]at*;omega
theorem tz (g:Int):(lA g).length≤21:=by
 have M:=lx g;have O:=AW (Wire.enc g);rw[lA];omega
theorem H6 {t:List dF}{f:dF}(h:f.ok=true):(if q7 t f.story=true then nn f else f).ok=true:=by
 split
 ·exact Jv h
 ·exact h
theorem AG {t l:List dF}(h:∀f∈l,f.ok=true):∀f∈nN t l,f.ok=true:=by
 intro f M;obtain⟨x,O,rfl⟩:=List.mem_map.1 M;exact H6 (h x O)
theorem lj.join {fs:List dF}{p:OA}{c:Nat}{N T:aX}(h:lj (l7 T) fs p c N):lj mI fs p c (N++T):=by
 obtain⟨a1,M|⟨Q,cs,a2,e,M,a3,a4⟩⟩:=h
 ·exact⟨a1,.inl M⟩
 ·refine⟨a1,.inr ⟨Q,cs,a2++T,e,M.append_right T,a3,a4.mono ?_⟩⟩
  rintro b c (O|O)
  ·exact .inl (mR (fun x V=>ay _ V) b c O)
  ·exact .inl (mR (fun x V=>ak _ V) b c O)
section perms
variable (x y z u v:Nat×Obj)(A F T X Z N B:aX)
theorem XT:([x]++(y::z::T)).Perm (x::y::z::T):=ah _
theorem GN:(F++(y::z::T)).Perm (y::z::(F++T)):=perm_a
theorem Ie (hp:F.Perm (B++(N++T))):(u::v::y::z::(X++F)).Perm (X++(N++(u::v::y::z::(B++T)))):=lR fun c w M O V a1=>by
 have:=a1 _ _ hp;simp only[M,O,V]at this ⊢;omega
theorem GZ:(N++(u::v::y::z::(B++T))).Perm (v::y::z::(N++(u::(B++T)))):=perm_a
theorem Tp:(B++(v::y::z::((u::N)++T))).Perm (v::y::z::(N++(u::(B++T)))):=perm_a
theorem Us:(B++(v::y::z::((u::N)++T))).Perm (v::y::z::(B++((u::N)++T))):=perm_a
theorem Wz (hp:F.Perm (B++(N++T))):(B++(y::z::(N++T))).Perm (y::z::F):=lR fun c w M O V a1=>by
 have:=a1 _ _ hp;simp only[M,O,V]at this ⊢;omega
end perms
def uC (es:Array cD)(t:List dF):Prop:=nZ .i64 es.toList=true∧∀q,m6 .i64 q es.toList=if q7 t q=true then some (.bool true)else none
theorem uC.put {es M:Array cD}{t:List dF}{f:dF}(h:uC es t)(a1:f.kind=6)(O:nZ .i64 M.toList=true)(V:∀q,m6 .i64 q M.toList=if q=f.story then some (.bool true)else m6 .i64 q es.toList):uC M (t++[f]):=by
 refine⟨O,fun q=>?_⟩;rw[V,h.2,ES,decide_eq_true a1,Bool.true_and]
 by_cases hq:q=f.story
 ·rw[if_pos hq,decide_eq_true hq.symm,Bool.or_true,if_pos rfl]
 ·rw[if_neg hq,decide_eq_false (fun e=>hq e.symm),Bool.or_false]
theorem uC.lH {es:Array cD}{t:List dF}{f:dF}(h:uC es t)(M:¬f.kind=6):uC es (t++[f]):=by
 refine⟨h.1,fun q=>?_⟩;rw[h.2,ES,decide_eq_false M,Bool.false_and,Bool.or_false]
def Cc (JB D:Nat)(m:JM)(p:OA)(c:Nat)(v:aa)(L':aX):Prop:=
 ∃p' c' T',v=.tuple #[.string (ba (cont (m.gen+1) (l5 m.fs))),.slice p' m.fs.length c']∧L'.Perm (jH JB D (m.js p c)::T')∧lj mI (l5 m.fs) p' c' T'∧lj mI m.fs p c T'
theorem v7 {α:Type}{l:List α}{i:Nat}(h:i<l.length):l.take i++[l[i]]=l.take (i+1):=by rw[List.take_add_one,ar h];rfl
theorem Ka {JB D a8 b5:Nat}{m:JM}{p:OA}{c:Nat}{T:aX}(b7:lj mI m.fs p c T)(hm:nQ m)(f5:m.gen+1≤4611686018427387903){es:Array cD}{a9:Nat}(c2:uC es m.fs){S:List Nat}{w0:aj}(d5:0∉S)(d7:lG w0 0=some mH):
  ∀(g i:Nat) (q:OA) (qc:Nat) (F a7 N:aX),g+i=m.fs.length→F.Perm (a7++(N++T))→oI b5 (lA (m.gen+1)++flat (nN m.fs (m.fs.take i))) a7→lj (l7 T) (nN m.fs (m.fs.take i)) q qc N→
   u5 JB m.gen p m.fs.length c (m.en:Int) D (m.sz:Int) (m.cu:Int) m.br a8 JB b5 q i qc (i:Int) es a9 D m.br F S w0 (fun e b6=>∃v L',e=.returned v∧Mem L' S w0 b6∧Cc JB D m p c v L')
 | 0,i,q,qc,F,a7,N,hgi,hp,hB,hN=>by
  apply G5;obtain rfl:i=m.fs.length:=by omega
  rw[kh]at hB hN;have f6:=hm.len;have f8:(lA (m.gen+1)++flat (nN m.fs m.fs)).length≤100000000:=by
   have d3:=A9 (nN m.fs m.fs) (AG hm.ok);have f3:=tz (m.gen+1);have g4:(nN m.fs m.fs).length=m.fs.length:=du _;rw[ae];omega
  refine no (by omega) (eA.lF (L0:=a7) (L1:=(a8,.map es a9)::jH JB D (m.js p c)::(N++T)) (Oc hB (by omega)) (Wz _ _ _ _ _ _ hp) ?_);rintro _ F' rfl;refine⟨_,GN _ _ _ _,_,_,rfl,rfl,kR ⟨q,qc,(a8,.map es a9)::(F'++(N++T)),rfl,dg _ _ _,(hN.join.more F').more [_],?_⟩⟩;have:=b7.more ((a8,.map es a9)::(F'++N));rwa[aY,an]at this
 | g +1,i,q,qc,F,a7,N,hgi,hp,hB,hN=>by
  apply G5;have f6:=hm.len;have hi:i<m.fs.length:=by omega
  have c3:=hm.ok _ (bH hi);have f9:ab.wrap ((i:Int)+1)=((i+1:Nat):Int):=by rw[kS (by omega)];omega
  have c5:(nN m.fs (m.fs.take i)).length=i:=by rw[nN,du,ao];omega
  have b9:nN m.fs (m.fs.take i)++[if q7 m.fs m.fs[i].story=true then nn m.fs[i]else m.fs[i]]=nN m.fs (m.fs.take (i+1)):=by
   rw[←v7 hi,nN,nN,List.map_append];rfl
  have f8:(lA (m.gen+1)++flat (nN m.fs (m.fs.take i))).length≤100000000:=by
   have d3:=A9 (nN m.fs (m.fs.take i)) (AG fun f b1=>hm.ok f (List.mem_of_mem_take b1));have f3:=tz (m.gen+1);rw[c5]at d3;rw[ae];omega
  obtain⟨c1,⟨_,_,f7⟩|⟨Q,cs,e9,rfl,c7,g2,e4⟩⟩:=b7
  ·rw[f7]at hi;exact absurd hi (by simp)
  have b7:lj mI m.fs (SO Q) c T:=⟨c1,.inr ⟨Q,cs,e9,rfl,c7,g2,e4⟩⟩;obtain⟨g6,tp,tc,bp,bc,ap,ac,e,b1⟩:=e4 i hi;have b1:lv (l7 T) m.fs[i] tp tc bp bc ap ac:=b1.mono fun b c b4=>mR (fun x a5=>c7.mem_iff.2 (ag _ a5)) b c (vq b c b4)
  have e3:∀x∈T,x∈F:=fun x a5=>hp.mem_iff.2 (ak _ (ak _ a5))
  refine yes (by omega) ⟨Q,0,rfl,by omega,cs,m.fs[i],tp,tc,bp,bc,ap,ac,⟨_,_,ag _ (ag _ (e3 _ (c7.mem_iff.2 au)))⟩,⟨by rw[az,ai];exact e,by rw[ai];omega⟩,fun B7=>?_⟩;have step:∀(M:dF) (a4 a2 V:OA) (a3 a1 O B8:Nat) (p':OA) (c':Nat) (a6:aX),M.ok=true→lv (l7 (a6++((B8,.cells (nk M a4 a3 a2 a1 V O) 38)::(a7++T)))) M a4 a3 a2 a1 V O→nN m.fs (m.fs.take i)++[M]=nN m.fs (m.fs.take (i+1))→lj (l7 T) (nN m.fs (m.fs.take i)++[M]) p' c' a6→
    eA TP 54 ⟨[.agg (nk M a4 a3 a2 a1 V O)]⟩ ((B7,.cells (nk M a4 a3 a2 a1 V O) 38)::(a8,.map es a9)::(JB,.cells (nA m.gen (SO Q) m.fs.length c (m.en:Int) D (m.sz:Int) (m.cu:Int) m.br) 86)::(a6++((B8,.cells (nk M a4 a3 a2 a1 V O) 38)::(a7++T)))) S w0
     (fun v L'=>∃(e5:BA),v=(.string e5)∧L'=((B7,.cells (nk M a4 a3 a2 a1 V O) 38)::(a8,.map es a9)::(JB,.cells (nA m.gen (SO Q) m.fs.length c (m.en:Int) D (m.sz:Int) (m.cu:Int) m.br) 86)::(a6++((B8,.cells (nk M a4 a3 a2 a1 V O) 38)::(a7++T))))∧
     eA TP 109 ⟨[.pointer (SO b5),.string e5]⟩ ((B7,.cells (nk M a4 a3 a2 a1 V O) 38)::(a8,.map es a9)::(JB,.cells (nA m.gen (SO Q) m.fs.length c (m.en:Int) D (m.sz:Int) (m.cu:Int) m.br) 86)::(a6++((B8,.cells (nk M a4 a3 a2 a1 V O) 38)::(a7++T)))) S w0 (fun v L'=>∃(c8:aX) (g3:Int),v=(.tuple #[.int .i64 g3,.nilIface])∧L'=((B7,.cells (nk M a4 a3 a2 a1 V O) 38)::(a8,.map es a9)::(JB,.cells (nA m.gen (SO Q) m.fs.length c (m.en:Int) D (m.sz:Int) (m.cu:Int) m.br) 86)::c8)∧
      u5 JB m.gen (SO Q) m.fs.length c (m.en:Int) D (m.sz:Int) (m.cu:Int) m.br a8 JB b5 p' (i+1) c' (ab.wrap ((i:Int)+(1:Int))) es a9 D m.br c8 S w0 (fun e b6=>∃v L',e=.returned v∧Mem L' S w0 b6∧Cc JB D m (SO Q) c v L'))):=by
   intro M a4 a2 V a3 a1 O B8 p' c' a6 d9 f4 e2 b3;refine eA.pw (fun b6 d8=>Jo (sh d8.kept d5 d7) (f4.mono (qt d8 fun x a5=>ag _ (ag _ (ag _ a5)))) d9) ⟨_,rfl,rfl,?_⟩;have g5:=DH d9;refine eA.lF (L0:=a7) (L1:=(B7,.cells (nk M a4 a3 a2 a1 V O) 38)::(a8,.map es a9)::(JB,.cells (nA m.gen (SO Q) m.fs.length c (m.en:Int) D (m.sz:Int) (m.cu:Int) m.br) 86)::(((B8,.cells (nk M a4 a3 a2 a1 V O) 38)::a6)++T)) (Bx hB (by rw[lY];omega)) (Tp _ _ _ _ _ _ _) ?_;rintro _ e8 ⟨rfl,d4⟩;refine⟨_,Us _ _ _ _ _ _ _,_,_,rfl,rfl,?_⟩;rw[f9];refine Ka b7 hm f5 c2 d5 d7 g (i+1) p' c' _ e8 ((B8,.cells (nk M a4 a3 a2 a1 V O) 38)::a6) (by omega) (ah _) ?_ (e2▸b3.more [_]);rw[mA]at d4;rw[←e2,flat,List.flatMap_append,←an,List.flatMap_singleton];exact d4
  refine⟨q7 m.fs m.fs[i].story,c2.1,?_,fun c6=>?_,fun c6=>?_⟩
  ·rw[c2.2];cases q7 m.fs m.fs[i].story<;>rfl
  ·rw[c6,if_pos rfl]at b9
   refine eA.new (lk:=l7 T) [_,_,_] (TH b1 (BU c3)) (fun W hm=>qt hm fun x a5=>ag _ (ag _ (ag _ (e3 x a5)))) ?_;rintro _ Z ⟨e7,e6,d2,d1,d0,c9,rfl,d6⟩;refine⟨nn m.fs[i],e7,e6,d2,d1,d0,c9,_,rfl,rfl,fun B8=>?_⟩;refine(lj.push (f:=nn m.fs[i]) hN d6 c5 (by omega) (Ie _ _ _ _ _ _ _ _ _ hp)).nd ?_;rintro _ f2 ⟨p',c',a6,rfl,c4,b3,_,hZ⟩;refine⟨_,c4.trans (GZ _ _ _ _ _ _ _),p',c',_,rfl,rfl,step (nn m.fs[i]) e7 d2 d0 e6 d1 c9 B8 p' c' a6 (Jv c3) (d6.mono ?_) b9 b3⟩;rintro b c (b4|b4)
   ·exact mR (fun x a5=>ay _ (hZ x a5)) b c b4
   ·exact mR (fun x a5=>by simp[a5]) b c b4
  ·rw[c6,if_neg (by decide)]at b9
   intro B8;refine(lj.push (X:=[]) (f:=m.fs[i]) hN (b1.mono p6) c5 (by omega) (Ie _ _ _ _ _ _ _ _ _ hp)).nd ?_;rintro _ f2 ⟨p',c',a6,rfl,c4,b3,_,hZ⟩;exact⟨_,c4.trans (GZ _ _ _ _ _ _ _),p',c',_,rfl,rfl,step m.fs[i] tp bp ap tc bc ac B8 p' c' a6 c3 (b1.mono (mR fun x a5=>by simp[a5])) b9 b3⟩
theorem EF {JB D a6:Nat}{m:JM}{p:OA}{c:Nat}{T:aX}(M:lj mI m.fs p c T)(hm:nQ m)(a4:m.gen+1≤4611686018427387903){S:List Nat}{w0:aj}(V:0∉S)(a1:lG w0 0=some mH):
  ∀(g i:Nat) (es:Array cD) (O:Nat),g+i=m.fs.length→uC es (m.fs.take i)→
   vR JB m.gen p m.fs.length c (m.en:Int) D (m.sz:Int) (m.cu:Int) m.br JB a6 (i:Int) D m.br es O T S w0 (fun e b4=>∃v L',e=.returned v∧Mem L' S w0 b4∧Cc JB D m p c v L')
 |0,i,es,O,hgi,hes=>by
  apply IA;obtain rfl:i=m.fs.length:=by omega
  rw[kh]at hes;have c7:=hm.gen;refine no (by omega) fun a2=>?_
  rw[kS (by omega)];refine eA.pure (ze _) ⟨od (m.gen+1),0,if_pos (by unfold lU nY;omega),rfl,?_⟩;have c4:=lx (m.gen+1);refine eA.tZ (Fk (by rw[vz];omega)) V a1 ⟨_,rfl,rfl,?_⟩;rw[ta];have c5:=tz (m.gen+1);refine eA.lF (L0:=[(a2,.cells #[.pointer none,.slice none 0 0] 103)]) (L1:=jH JB D (m.js p c)::(a6,.map es O)::T) (Bx (oI.new a2) (by rw[lY];show 0+(lA (m.gen+1)).length≤_;omega)) (XT _ _ _ _) ?_;rintro _ a3 ⟨rfl,a7⟩;refine⟨_,GN _ _ _ _,a3++T,_,rfl,rfl,?_⟩;refine Ka M hm a4 hes V a1 m.fs.length 0 none 0 _ a3 [] (by omega) (ah _) ?_ lj.oz;rw[mA,aT]at a7;rw[dN];show oI a2 (lA (m.gen+1)++[]) a3;rw[aL];exact a7
 | g+1,i,es,O,hgi,hes=>by
  apply IA;have c8:=hm.len;have hi:i<m.fs.length:=by omega
  have a8:ab.wrap ((i:Int)+1)=((i+1:Nat):Int):=by rw[kS (by omega)];omega
  obtain⟨c1,⟨_,_,b6⟩|⟨Q,cs,b3,rfl,a9,b7,b1⟩⟩:=M
  ·rw[b6]at hi;exact absurd hi (by simp)
  have M:lj mI m.fs (SO Q) c T:=⟨c1,.inr ⟨Q,cs,b3,rfl,a9,b7,b1⟩⟩;obtain⟨c9,tp,tc,bp,bc,ap,ac,e,c6⟩:=b1 i hi;refine yes (by omega) ⟨Q,0,rfl,by omega,cs,m.fs[i],tp,tc,bp,bc,ap,ac,⟨_,_,ag _ (ag _ (a9.mem_iff.2 au))⟩,⟨by rw[az,ai];exact e,by rw[ai];omega⟩,fun B3=>⟨fun a5=>⟨hes.1,fun b5 b9 c2 c3=>?_⟩,fun a5=>?_⟩⟩
  ·rw[a8]
   exact EF M hm a4 V a1 g (i+1) b5 b9 (by omega) (by rw[←v7 hi];exact hes.put a5 c2 c3)
  ·rw[a8]
   exact EF M hm a4 V a1 g (i+1) es O (by omega) (by rw[←v7 hi];exact hes.lH a5)
theorem Zz {JB D:Nat}{m:JM}{p:OA}{c:Nat}{T:aX}(M:lj mI m.fs p c T)(hm:nQ m)(O:m.gen+1≤4611686018427387903):
  m0 TP 67 ⟨[pt JB 0]⟩ (jH JB D (m.js p c)::T) (fun W=>0∉(jH JB D (m.js p c)::T).map (·.1)∧lG W 0=some mH) (Cc JB D m p c):=by
 intro W V ⟨hS,hg⟩;refine XQ JB m.gen p m.fs.length c (m.en:Int) D (m.sz:Int) (m.cu:Int) m.br T V fun B=>?_
 exact EF M hm O hS hg m.fs.length 0 #[] 0 (by omega) ⟨rfl,fun q=>rfl⟩
inductive o6:List (Nat×BA)→List UInt8→List UInt8→Prop
 |nil (b:List UInt8):o6 [] b b
 |cons {o:Nat} {s:BA} {r:List (Nat×BA)} {b b':List UInt8} (t:Nat) (h:o6 r (lu b o ((bb s).take t)) b'):o6 ((o,s)::r) b b'
def oU:List (Nat×BA)→List UInt8→List UInt8
 |[],b=>b
 |(o,s)::r,b=>oU r (lu b o (bb s))
theorem zx (o:Nat)(s:BA):∀(p:List (Nat×BA)) (b:List UInt8),oU (p++[(o,s)]) b=lu (oU p b) o (bb s)
 |[],b=>rfl
 |(o',s')::r,b=>zx o s r _
def lC.fits (n:Nat):lC→Prop
 | .sync=>True
 | .write off s=>0≤off∧off+s.size≤n
def pJ:List lC→List UInt8→List (Nat×BA)→List UInt8→Prop
 |[],b,p,x=>o6 p b x
 | .sync::r,b,p,x=>o6 p b x∨pJ r (oU p b) [] x
 | .write o s::r,b,p,x=>o6 p b x∨pJ r b (p++[(o.toNat,s)]) x
theorem pJ.now {b x:List UInt8}{p:List (Nat×BA)}(h:o6 p b x):∀ops,pJ ops b p x
 |[]=>h
 | .sync::_=>.inl h
 | .write _ _::_=>.inl h
def qD:List lC→List UInt8→List (Nat×BA)→List UInt8×List (Nat×BA)
 |[],b,p=>(b,p)
 | .sync::r,b,p=>qD r (oU p b) []
 | .write o s::r,b,p=>qD r b (p++[(o.toNat,s)])
structure s9 (d:DS):Prop where
 ok:mj d
 vis:d.vis=oU d.pend d.dur
theorem wz (d:DS):d.mT.vis=d.vis∧d.mT.dur=d.dur∧d.mT.pend=d.pend:=by
 unfold DS.mT;split
 ·exact⟨rfl,rfl,rfl⟩
 ·split<;>exact⟨rfl,rfl,rfl⟩
structure YF (ops:List lC)(d:DS)(r:Int×DS):Prop where
 err:r.1=0∨r.1=231
 sR:s9 r.2
 len:r.2.vis.length=d.vis.length
 img:∀x,o6 r.2.pend r.2.dur x→pJ ops d.dur d.pend x
 fin:r.1=0→(r.2.dur,r.2.pend)=qD ops d.dur d.pend
 pow:d.on=true→d.cut=0→r.1=0∧r.2.on=true∧r.2.cut=0
theorem Am:∀(ops:List lC) (d:DS),s9 d→(∀o∈ops,o.fits d.vis.length)→YF ops d (ln ops d)
 |[],d,hd,_=>⟨.inl rfl,hd,rfl,fun x h=>h,fun _=>rfl,fun O M=>⟨rfl,O,M⟩⟩
 | .sync::r,d,hd,hf=>by
  cases ho:d.on with
  | false=>
   have e:ln (.sync::r) d=(231,d):=by
    rw[ln];have e:(lC.sync.run d)=(231,d):=if_pos ho;rw[e];rfl
   rw[e];exact⟨.inr rfl,hd,rfl,fun x h=>pJ.now h _,fun h=>absurd h (show¬(231:Int)=0 by decide),fun h=>absurd (ho.symm.trans h) (by decide)⟩
  | true=>
   have e:ln (.sync::r) d=ln r {d with dur:=d.vis,pend:=[]}:=by
    rw[ln];have e:(lC.sync.run d)=(0,{d with dur:=d.vis,pend:=[]}):=if_neg (by rw[ho];decide);rw[e];rfl
   rw[e];have a7:mj {d with dur:=d.vis,pend:=[]}:=⟨rfl,hd.ok.pos,hd.ok.le,hd.ok.cut,fun p hp=>by cases hp⟩;have ih:=Am r {d with dur:=d.vis,pend:=[]} ⟨a7,rfl⟩ (fun o h=>hf o (ag _ h));refine⟨ih.err,ih.sR,ih.len,fun x h=>.inr ?_,fun h=>?_,fun O M=>ih.pow O M⟩
   ·have:=ih.img x h
    simp only at this;rwa[hd.vis]at this
   ·show _=qD r (oU d.pend d.dur) []
    rw[←hd.vis];exact ih.fin h
 | .write off s::r,d,hd,hf=>by
  have a3:=hf _ au;simp only[lC.fits]at a3;cases ho:d.on with
  | false=>
   have e:ln (.write off s::r) d=(231,d):=by
    rw[ln];have e:((lC.write off s).run d)=(231,d):=if_pos ho;rw[e];rfl
   rw[e];exact⟨.inr rfl,hd,rfl,fun x h=>pJ.now h _,fun h=>absurd h (show¬(231:Int)=0 by decide),fun h=>absurd (ho.symm.trans h) (by decide)⟩
  | true=>
   have e:ln (.write off s::r) d=ln r (d.put off.toNat s).mT:=by
    rw[ln];have e:((lC.write off s).run d)=(0,(d.put off.toNat s).mT):=(if_neg (by rw[ho];decide)).trans (if_pos a3);rw[e];rfl
   rw[e];have a2:off.toNat+s.size≤d.vis.length:=by omega
   have a8:(lu d.vis off.toNat (bb s)).length=d.vis.length:=qw a2;obtain⟨a5,V,a1⟩:=wz (d.put off.toNat s);have a4:(d.put off.toNat s).mT.vis.length=d.vis.length:=by rw[a5];exact a8
   have hc:s9 (d.put off.toNat s).mT:=⟨mj.mT (mj.put hd.ok a2),by
    rw[a5,V,a1];show lu d.vis off.toNat (bb s)=oU (d.pend++[(off.toNat,s)]) d.dur;rw[zx,←hd.vis]⟩
   have ih:=Am r (d.put off.toNat s).mT hc (fun o h=>by rw[a4];exact hf o (ag _ h));refine⟨ih.err,ih.sR,by rw[ih.len,a4],fun x h=>.inr ?_,fun h=>?_,fun O M=>?_⟩
   ·have:=ih.img x h
    rw[V,a1]at this;exact this
   ·have:=ih.fin h
    rw[V,a1]at this;exact this
   ·have a6:(d.put off.toNat s).mT=d.put off.toNat s:=if_pos M
    rw[a6]at ih ⊢;exact ih.pow O M
theorem Kj:∀(a b:List lC) (d:DS),ln (a++b) d=if(ln a d).1=0 then ln b (ln a d).2 else ln a d
 |[],b,d=>rfl
 |o::a,b,d=>by
  rw[aY,ln,ln]
  by_cases h:(o.run d).1=0
  ·rw[if_pos h,if_pos h];exact Kj a b _
  ·rw[if_neg h,if_neg h,if_neg h]
theorem RZ {a:List lC}{d:DS}(h:(ln (a++[.sync]) d).1=0):(ln (a++[.sync]) d).2.on=true:=by
 rw[Kj]at h ⊢
 by_cases h0:(ln a d).1=0
 ·rw[if_pos h0]at h ⊢
  generalize (ln a d).2=d1 at h ⊢;cases ho:d1.on with
  | false=>
   have e:ln [.sync] d1=(231,d1):=by
    rw[ln];have e:(lC.sync.run d1)=(231,d1):=if_pos ho;rw[e];rfl
   rw[e]at h;exact absurd h (show¬(231:Int)=0 by decide)
  | true=>
   have e:ln [.sync] d1=(0,{d1 with dur:=d1.vis,pend:=[]}):=by
    rw[ln];have e:(lC.sync.run d1)=(0,{d1 with dur:=d1.vis,pend:=[]}):=if_neg (by rw[ho];decide);rw[e];rfl
   rw[e];exact ho
 ·rw[if_neg h0]at h;exact absurd h h0
def lay (c:Nat)(X Y R:List UInt8):List UInt8:=if c=0 then X++Y++R else Y++X++R
theorem Ma (c:Nat)(X Y R:List UInt8):(lay c X Y R).length=X.length+Y.length+R.length:=by
 unfold lay;split<;>simp<;>omega
theorem xo {A B C s:List UInt8}{o:Nat}(h:o+s.length≤B.length):lu (A++(B++C)) (A.length+o) s=A++(lu B o s++C):=by
 unfold lu;have e1:(A++(B++C)).take (A.length+o)=A++B.take o:=by
  rw[List.take_append,aK (by omega),show A.length+o-A.length=o by omega,fb (by omega)]
 have M:(A++(B++C)).drop (A.length+o+s.length)=B.drop (o+s.length)++C:=by
  rw[List.drop_append,ax (by omega),aT,show A.length+o+s.length-A.length=o+s.length by omega,fa (by omega)]
 rw[e1,M];simp
theorem Bt {c sz o:Nat}{X Y R s:List UInt8}(hc:c≤1)(O:X.length=sz)(M:Y.length=sz)(h:o+s.length≤sz):lu (lay c X Y R) (c*sz+o) s=lay c (lu X o s) Y R:=by
 unfold lay;split
 ·next h0=>
  subst h0;have:=xo (A:=[]) (B:=X) (C:=Y++R) (s:=s) (o:=o) (by omega);simp only[aT,bt,az]at this;rw[Nat.zero_mul,az,an,this,an]
 ·next h0=>
  have:c=1:=by omega
  subst this;rw[Nat.one_mul,an,←M,xo (by omega),an]
theorem HG {c sz o:Nat}{X Y R s:List UInt8}(hc:c≤1)(M:X.length=sz)(O:Y.length=sz)(h:o+s.length≤sz):lu (lay c X Y R) ((1-c)*sz+o) s=lay c X (lu Y o s) R:=by
 unfold lay;split
 ·next h0=>
  subst h0;rw[Nat.sub_zero,Nat.one_mul,an,←M,xo (by omega),an]
 ·next h0=>
  have:c=1:=by omega
  subst this;have:=xo (A:=[]) (B:=Y) (C:=X++R) (s:=s) (o:=o) (by omega);simp only[aT,bt,az]at this;rw[show(1-1)*sz+o=o by simp,an,this,an]
theorem Nl {c:Nat}{X Y R:List UInt8}(hc:c≤1):lay c X Y R=lay (1-c) Y X R:=by
 unfold lay;rcases(by omega:c=0∨c=1)with rfl|rfl<;>simp
def Ends (t:List UInt8):Prop:=t=[]∨∃r,t=0::r
def zs (n:Nat):List UInt8:=aA n 0
theorem tg (n:Nat):Ends (zs n):=by
 cases n with
 |zero=>exact .inl rfl
 |succ n=>exact .inr ⟨zs n,jJ⟩
theorem nC (n:Nat):(zs n).length=n:=List.length_replicate
theorem A1 (n t:Nat):(zs n).take t=zs (min t n):=List.take_replicate
theorem Nk (n t:Nat):(zs n).drop t=zs (n-t):=List.drop_replicate
theorem MX (a b:Nat):zs a++zs b=zs (a+b):=List.replicate_append_replicate
theorem LW {Y:List UInt8}{k:Nat}(h:k≤Y.length)(M:0<k):Ends (lu Y 0 (zs k)):=by
 obtain⟨k,rfl⟩:∃m,k=m+1:=⟨k-1,by omega⟩;refine .inr ⟨zs k++Y.drop (0+(zs (k+1)).length),?_⟩;unfold lu;rw[dN,aT];rfl
theorem Tc {Y:List UInt8}{k:Nat}(h:Y.length=k):lu Y 0 (zs k)=zs k:=by
 unfold lu;rw[dN,aT,az,nC,ax (by omega),aL]
theorem YD {A t:List UInt8}{k:Nat}(h:k≤t.length)(M:Ends t):∃t',lu (A++t) A.length (zs k)=A++t'∧Ends t'∧t'.length=t.length:=by
 have e:lu (A++t) A.length (zs k)=A++lu t 0 (zs k):=by
  have:=xo (A:=A) (B:=t) (C:=[]) (s:=zs k) (o:=0) (by rw[nC];omega);simpa using this
 refine⟨lu t 0 (zs k),e,?_,by rw[qw (by rw[nC];omega)]⟩;rcases bX k with rfl|hk
 ·show Ends (lu t 0 [])
  rw[vA];exact M
 ·exact LW h hk
abbrev yK5aa (a:Bool)(b x2 x3 x4:Int)(x5 d e f:Nat)(g:OA)(c:aX):aX:=(x5,.cells #[IV b,.slice g d e,IV x2,PP f,IV x3,IV x4,.bool a] 86)::c
abbrev kBjq (x0 x1 x2 x3 x4 x5 x6 x7 x8 x9):=(#[.func (.func 110) #[] #[PP x0,PP x1,PP x2],.func (.func 68) #[PP x3] #[],.func (.func 110) #[] #[PP x4,PP x5,PP x6],.func (.func 68) #[PP x3] #[],.func (.func 110) #[] #[PP x7,PP x8,PP x9],.func (.func 68) #[PP x3] #[]]:Array aa)
theorem Va (b:Nat)(gen:Int)(g:OA)(f e:Nat)(d:Int)(a:Nat)(sz c:Int)(h:Bool)(C:aX)(hm:Mem (yK5aa h gen d sz c b f e a g C) S w0 W)(H:VP S w0 R (.hp (yK5aa h gen d sz c b f e a g C) fun z=>.ru [13,200,11,200]<|.B 1 21 h (.re 5 (IV 240) z)<|.ru [9,200]<|.P 2 27 (4611686018427387903≤gen) (.re 5 (IV 241) z)<|.cl 5 67 [PP b] z<|.x5 fun i rp O rc u=>.rt (.tuple #[.string i,.slice rp O rc]) (yK5aa h gen d sz c b f e a g u)<|.hp (yK5aa h gen d sz c b f e a g u) fun F=>.ru [14,200]<|.P 2 39 (sz<(i.size:Int)) (.re 5 (IV 241) F)<|.ru [7,200]<|.li 2 5 (ab.wrap (1-c)) fun G=>.r 2<|.dr 10<|.qu [2]<|.ex fun A=>.qc 44 [PP b,IV G] F (IV A)<|.qu [3,100,3]<|.dn<|.r 2<|.dD<|.nm [0,3,4,5,6,7]<|.ph 29 [0,1,2,3,4,5,7,8,9,10,11,13,14,15,16,17,18,19,21,22,23,24,27] [6,12,20,25,26,28] 1<|.qu [5]<|.ss i 1 (i.size:Int)<|.qu [4]<|.ss i 0 1<|.qu [6,100,3,100,1]<|.dn<|.cl 69 [PP b,IV (ab.wrap (A+1)),.string (i.extract (ad 1) i.size)] (yK5aa h gen d sz c b f e a g u)<|.x4 fun k n q D=>.rt (kBlq k n q) (yK5aa h gen d sz c b f e a g D)<|.cl 69 [PP b,IV A,.string (i.extract 0 (ad 1))] (yK5aa h gen d sz c b f e a g D)<|.x4 fun l o s E=>.rt (kBlq l o s) (yK5aa h gen d sz c b f e a g E)<|.hp (yK5aa h gen d sz c b f e a g E) fun j=>.cl 44 [PP b,IV c] j<|.ex fun M=>.rt (IV M) j<|.cl 70 [IV sz] j<|.ex fun N=>.rt (.string N) j<|.cl 69 [PP b,IV M,.string N] j<|.x4 fun m p t w=>.rt (kBlq m p t) (yK5aa h gen d sz c b f e a g w)<|.n2 6 (.cells (kBjq k n q a l o s m p t) 53) fun B=>.df B (.cells (kBjq k n q a l o s m p t) 53) (yK5aa h gen d sz c b f e a g w)<|.tl<|.cl 0 50 [PP b,.slice (SO B) 6 6] ((B,.cells (kBjq k n q a l o s m p t) 53)::(kBqq b gen g f e d a sz c h)::w)<|.x3 fun x re y=>.rt (IV re) (yK5aa y gen d sz c b f e a g x)<|.I 8 84 (re=0) (.re 6 (IV re) (yK5aa y gen d sz c b f e a g x))<|.ru [8,200,8,200,7,200]<|.re 5 (IV 0) ((b,.cells #[IV (ab.wrap (gen+1)),.slice rp O rc,IV (i.size:Int),PP a,IV sz,IV G,.bool y] 86)::x))):aE TP 25 ⟨[PP b]⟩ W R:=VC.cs Tryz.func25 hm _ H
def nF (m:JM):List lC:=
 [.write (((1-m.cu)*m.sz:Nat)+1:Int) (tH (ba (cont (m.gen+1) (l5 m.fs)))),.sync,.write (((1-m.cu)*m.sz:Nat):Int) (tO (ba (cont (m.gen+1) (l5 m.fs)))),.sync,.write ((m.cu*m.sz:Nat):Int) (ba (zs m.sz)),.sync]
def nz (m:JM)(d:DS):Int×JM×DS:=
 if m.br=true then(240,m,d)else if 4611686018427387903≤m.gen then(241,m,d)
 else if m.sz<(cont (m.gen+1) (l5 m.fs)).length then(241,m,d)
 else if(ln (nF m) d).1=0 then(0,{gen:=m.gen+1,fs:=l5 m.fs,en:=(cont (m.gen+1) (l5 m.fs)).length,sz:=m.sz,cu:=1-m.cu,br:=m.br},(ln (nF m) d).2)
 else((ln (nF m) d).1,{m with br:=true},(ln (nF m) d).2)
section perms
variable (x y z:Nat×Obj)(A F T X Z X1 X2 X3 L:aX)
theorem sb:((x::T)++F).Perm (x::(F++T)):=perm_a
theorem Sk (h:L.Perm (x::T)):(L++F).Perm (x::(F++T)):=lR fun c w M O V a1=>by
 have:=a1 _ _ h;simp only[M,O,V]at this ⊢;omega
theorem Gc:((x::X)++A).Perm (x::(X++A)):=ah _
theorem To:((x::(F++(z::(X3++(X2++X1)))))++T).Perm (z::x::(X3++(X2++(X1++(F++T))))):=perm_a
theorem TL:((x::(F++X))++T).Perm (x::(F++(X++T))):=perm_a
end perms
theorem xH (l:List dF):(l5 l).length=l.length:=du _
theorem Ks {JB D:Nat}{m:JM}{d:DS}{L:aX}(h:JD JB D m d L)(hm:nQ m)(hp:d.pend.length<900000):
  m0 TP 25 ⟨[pt JB 0]⟩ L (xL mI (L.map (·.1))) (fun v L'=>v=.int .i64 (nz m d).1∧JD JB D (nz m d).2.1 (nz m d).2.2 L'):=by
 obtain⟨F,p,c,T,d3,a9,b5⟩:=h;intro W d6 ⟨⟨hS,hg⟩,_⟩;generalize L.map (·.1)=S at*;have d7:=d6.perm d3.symm;have e7:=hm.en;have e2:=hm.sz;have d5:=hm.cu;have e9:=hm.len;have e8:=hm.gen;refine Va JB m.gen p m.fs.length c (m.en:Int) D (m.sz:Int) (m.cu:Int) m.br (F++T) d7 ⟨fun a8=>?_,fun a8=>⟨fun b9=>?_,fun b9=>?_⟩⟩
 ·rw[nz,if_pos a8];exact kR ⟨rfl,F,p,c,T,ah _,a9,b5⟩
 ·rw[nz,if_neg (by rw[a8];decide),if_pos b9];exact kR ⟨rfl,F,p,c,T,ah _,a9,b5⟩
 ·have a7:nz m d=if m.sz<(cont (m.gen+1) (l5 m.fs)).length then(241,m,d)
   else if(ln (nF m) d).1=0 then(0,{gen:=m.gen+1,fs:=l5 m.fs,en:=(cont (m.gen+1) (l5 m.fs)).length,sz:=m.sz,cu:=1-m.cu,br:=m.br},(ln (nF m) d).2)
   else((ln (nF m) d).1,{m with br:=true},(ln (nF m) d).2):=by
    rw[nz,if_neg (by rw[a8];decide),if_neg b9]
  refine eA.nX (L0:=jH JB D (m.js p c)::T) (L1:=F) (Zz b5 hm (by omega)) (fun a2 M=>⟨fun d2=>?_,sh M.kept hS hg⟩) (sb _ _ _) ?_
  ·have f2:0<W.heap.size:=by
    have:=hg;unfold lG at this;rcases cy 0 W.heap.size with h|h
    ·exact h
    ·rw[Array.getElem?_eq_none h]at this;cases this
   obtain⟨q,c3,c8⟩:=List.mem_map.1 d2;rcases M.own q (by rcases bT.1 c3 with rfl|c3;exact au;exact ag _ (ak _ c3))with h|h
   ·rw[c8]at h;try dsimp only at h
    omega
   ·rw[c8]at h;exact hS h
  rintro _ e4 ⟨p',c',a1,rfl,d8,d9,c4⟩;refine⟨_,Sk _ _ _ _ d8,ba (cont (m.gen+1) (l5 m.fs)),p',m.fs.length,c',_,rfl,rfl,fun b7=>?_,fun b7=>?_⟩
  ·rw[lY]at b7
   rw[a7,if_pos (by omega)];exact kR ⟨rfl,F,p,c,a1,ah _,a9,c4⟩
  ·rw[lY]at b7
   have e5:1≤(cont (m.gen+1) (l5 m.fs)).length:=by
    show 1≤(mD _++_).length;rw[mD];simp
   have e6:m.cu=0∨m.cu=1:=by omega
   intro e3 c2;have c2:e3=((1-m.cu:Nat):Int):=by
    rw[c2,kS (by omega)];omega
   subst c2;have f3:(1-m.cu)*m.sz≤1*2097152:=dp (by omega) e2;have c9:∀{A:aX} {a2:aj},Mem (jH JB D (m.js p c)::A) S W a2→a2.heap[JB]?=some (jH JB D (m.js p c)).2:=fun M=>M.here _ au
   refine⟨(((1-m.cu)*m.sz:Nat):Int),lV.pw fun a2 M=>wV (m:=m) (c9 M) (by omega) (by omega),by rw[lY];omega,by rw[lY];omega,?_⟩;have d1:ab.wrap ((((1-m.cu)*m.sz:Nat):Int)+1)=(((1-m.cu)*m.sz:Nat):Int)+1:=kS (by omega);rw[d1];refine eA.lF (L0:=[jH JB D (m.js p c)]) (L1:=F++a1) (w9 (j:=m.js p c) (D:=D)) (ah _) ?_;rintro _ _ ⟨O,V,ks,rfl,rfl⟩;refine⟨_,Gc _ _ _,O,V,ks,_,rfl,rfl,?_⟩;refine eA.lF (L0:=[jH JB D (m.js p c)]) (L1:=qj JB O V ks _ _++(F++a1)) (w9 (j:=m.js p c) (D:=D)) (ah _) ?_;rintro _ _ ⟨a4,a5,a6,rfl,rfl⟩;refine⟨_,Gc _ _ _,a4,a5,a6,_,rfl,rfl,?_⟩;refine eA.pw (fun a2 M=>wV (m:=m) (c9 M) d5 (by omega)) ⟨_,rfl,rfl,?_⟩;refine eA.pure (Hv m.sz (by omega)) ⟨_,rfl,rfl,?_⟩;refine eA.lF (L0:=[jH JB D (m.js p c)]) (L1:=qj JB a4 a5 a6 _ _++(qj JB O V ks _ _++(F++a1))) (w9 (j:=m.js p c) (D:=D)) (ah _) ?_;rintro _ _ ⟨b1,b3,b4,rfl,rfl⟩;refine⟨_,Gc _ _ _,b1,b3,b4,_,rfl,rfl,fun B=>?_⟩;refine eA.lF (L0:=jH JB D (m.js p c)::(F++((B,.cells #[o9 O V ks,.func (.func 68) ⟨[pt D 0]⟩ ⟨[]⟩,o9 a4 a5 a6,.func (.func 68) ⟨[pt D 0]⟩ ⟨[]⟩,o9 b1 b3 b4,.func (.func 68) ⟨[pt D 0]⟩ ⟨[]⟩] 53)::(qj JB b1 b3 b4 _ _++(qj JB a4 a5 a6 _ _++qj JB O V ks _ _))))) (L1:=a1)
    (DC (ops:=nF m) (sc:=6) (j:=m.js p c) (vs:=[o9 O V ks,.func (.func 68) ⟨[pt D 0]⟩ ⟨[]⟩,o9 a4 a5 a6,.func (.func 68) ⟨[pt D 0]⟩ ⟨[]⟩,o9 b1 b3 b4,.func (.func 68) ⟨[pt D 0]⟩ ⟨[]⟩]) au (aD 6) ?_ (by show 6≤1000;omega) a9 hp) (To _ _ _ _ _ _ _) ?_
   ·intro i hi
    match i,hi with
    |0,_=>exact wE fun x a3=>ag _ (ak _ (ak _ a3))
    |1,_=>exact rfl
    |2,_=>exact wE fun x a3=>ag _ (ak _ (ay _ a3))
    |3,_=>exact rfl
    |4,_=>exact wE fun x a3=>ag _ (ay _ a3)
    |5,_=>exact rfl
   ·rintro _ _ ⟨F',rfl,rfl,c5⟩
    rw[if_neg (by omega)]at a7;generalize ln (nF m) d=r at*;have d4:jH JB D ((m.js p c).after r.1)=(JB,.cells #[.int .i64 m.gen,.slice p m.fs.length c,.int .i64 m.en,.pointer (SO D),.int .i64 m.sz,.int .i64 m.cu,.bool ((m.js p c).after r.1).br] 86):=by
     unfold JS.after;split<;>rfl
    rw[d4];refine⟨_,TL _ _ _ _,_,r.1,((m.js p c).after r.1).br,rfl,rfl,fun c7=>?_,fun c6=>?_⟩
    ·rw[a7,if_neg c7]
     have b6:((m.js p c).after r.1).br=true:=by rw[JS.after,if_neg c7]
     rw[b6];exact kR ⟨rfl,F',p,c,_,ah _,c5,c4.more _⟩
    ·rw[a7,if_pos c6]
     have b6:((m.js p c).after r.1).br=m.br:=by rw[JS.after,if_pos c6]
     have d0:ab.wrap (m.gen+1)=m.gen+1:=kS (by omega);rw[b6,d0,lY];exact kR ⟨rfl,F',p',c',_,by rw[JM.js,xH],c5,d9.more _⟩
abbrev zK6aa (a:Bool)(b x2 x3:Int)(x4 x5 c:Nat)(d:OA):Array aa:= #[IV b,.slice d x4 x5,IV x2,PP c,IV x3,IV 0,.bool a]
abbrev zK6ab (a:Bool)(b x2 x3:Int)(x4 x5 c:Nat)(d:OA):Array aa:= #[IV b,.slice d x4 x5,IV x2,PP c,IV x3,IV 1,.bool a]
abbrev yK6aa (a b:BA)(x2:Bool)(x3 x4 x5:Int)(g h i j c d:Nat)(e:OA)(f:aX):aX:=(g,.cells (zK6aa x2 x3 x4 x5 h i j e) 86)::(c,.cells #[.string a,.string b] 87)::(d,.cells #[IV x4,IV 0] 139)::f
abbrev yK6ab (a b:BA)(x2:Bool)(x3 x4 x5:Int)(g h i j c d:Nat)(e:OA)(f:aX):aX:=(g,.cells (zK6ab x2 x3 x4 x5 h i j e) 86)::(c,.cells #[.string a,.string b] 87)::(d,.cells #[IV 0,IV x4] 139)::f
noncomputable def zG (u:Nat)(gen:Int)(h:OA)(g f:Nat)(e:Int)(t:Nat)(sz:Int)(w:Bool)(a b c:Nat)(p:OA)(o n:Nat)(m:BA)(q s:Int)(k:Nat)(l:Bool)(i j:BA)(d:aX)(S:List Nat):Cut:=⟨TP,S,46,88,(KC gM 3664284),[(0,PP a),(3,PP b),(5,PP c),(7,.slice p o n),(9,IV 0),(10,.string m),(39,.agg #[IV 0,IV 1]),(40,IV 0),(51,IV q),(52,IV s)],(yK6aa i j l gen e sz a g f k b c h d)⟩
noncomputable def zC (u:Nat)(gen:Int)(h:OA)(g f:Nat)(e:Int)(t:Nat)(sz:Int)(w:Bool)(a b c:Nat)(p:OA)(o n:Nat)(m:BA)(q s:Int)(k:Nat)(l:Bool)(i j:BA)(d:aX)(S:List Nat):Cut:=⟨TP,S,46,88,(KC gM 3664284),[(0,PP a),(3,PP b),(5,PP c),(7,.slice p o n),(9,IV 1),(10,.string m),(39,.agg #[IV 1,IV 0]),(40,IV 0),(51,IV q),(52,IV s)],(yK6aa i j l gen e sz a g f k b c h d)⟩
noncomputable def wi (u:Nat)(gen:Int)(h:OA)(g f:Nat)(e:Int)(t:Nat)(sz:Int)(w:Bool)(a b c:Nat)(p:OA)(o n:Nat)(m:BA)(q s:Int)(k:Nat)(l:Bool)(i j:BA)(d:aX)(S:List Nat):Cut:=⟨TP,S,46,88,(KC gM 3664284),[(0,PP a),(3,PP b),(5,PP c),(7,.slice p o n),(9,IV 1),(10,.string m),(39,.agg #[IV 0,IV 1]),(40,IV 1),(51,IV q),(52,IV s)],(yK6aa i j l gen e sz a g f k b c h d)⟩
noncomputable def wR (u:Nat)(gen:Int)(h:OA)(g f:Nat)(e:Int)(t:Nat)(sz:Int)(w:Bool)(a b c:Nat)(p:OA)(o n:Nat)(m:BA)(q s:Int)(k:Nat)(l:Bool)(i j:BA)(d:aX)(S:List Nat):Cut:=⟨TP,S,46,88,(KC gM 3664284),[(0,PP a),(3,PP b),(5,PP c),(7,.slice p o n),(9,IV 0),(10,.string m),(39,.agg #[IV 1,IV 0]),(40,IV 1),(51,IV q),(52,IV s)],(yK6aa i j l gen e sz a g f k b c h d)⟩
abbrev kAoq (x0 x1 x2):=((x0,.cells #[.string x1,.string x2] 87):Nat×Obj)
abbrev kBaq (x0 x1 x2):=(#[.func (.func 110) #[] #[PP x0,PP x1,PP x2]]:Array aa)
abbrev kCdq (x0 x1):=((x0,.cells #[IV x1,IV 0] 139):Nat×Obj)
abbrev kDaq (x0 x1 x2):=([.func (.func 110) #[] #[PP x0,PP x1,PP x2]]:List aa)
theorem FK (u:Nat)(gen:Int)(h:OA)(g f:Nat)(b:Int)(s:Nat)(sz:Int)(w:Bool)(c d e:Nat)(y:OA)(l x:Nat)(p:BA)(C q:Int)(j:Nat)(k:Bool)(i a:BA)(t:aX)(H:VP S w0 R (.P 5 53 (q<C) (.r 13<|.ix p q<|.I 2 58 ((k8 p q)=0) (.r 2<|.dD<|.nm [0,3,5,7,9,10,39,40]<|.ph 14 [0,1,2,3,4,5,6,7,8,9,10,11] [12,13] 3<|.hp [(c,.cells (zK6aa k gen b sz g f j h) 86),(kAoq d i a),(kCdq e b)] fun E=>.qu [4]<|.ex fun F=>.qc 44 [PP c,IV 0] E (IV F)<|.qu [2,102,3]<|.ex fun G=>.qc 70 [IV (p.size:Int)] E (.string G)<|.dn<|.cl 69 [PP c,IV (ab.wrap (F+b)),.string G] (yK6aa i a k gen b sz c g f j d e h t)<|.x4 fun m n o A=>.rt (kBlq m n o) (yK6aa i a k gen b sz c g f j d e h A)<|.n2 1 (.cells (kBaq m n o) 53) fun z=>.df z (.cells (kBaq m n o) 53) (yK6aa i a k gen b sz c g f j d e h A)<|.tl<|.apd 0 z 53 53 1 92 92 (.slice y l x) 1 1 (kDaq m n o) ((z,.cells (kBaq m n o) 53)::(c,.cells (zK6aa k gen b sz g f j h) 86)::(kAoq d i a)::(kCdq e b)::A)<|.x3 fun ap (D:Nat) F4=>.rt (.slice ap (l+1) D) (yK6aa i a k gen b sz c g f j d e h F4)<|.r 23<|.dr 8<|.qu [2,101,2,102]<|.ss a 0 (a.size:Int)<|.qu [1]<|.pI 10 (a.extract (ad 0) a.size) fun M=>.dn<|.cT 9 [0,1,2] 3 (wi u gen h g f b s sz w c d e ap (l+1) D M (M.size:Int) 0 j k i a F4 S))<|.cT 8 [0,1,2] 3 (zG u gen h g f b s sz w c d e y l x p C (ab.wrap (q+1)) j k i a t S))<|.r 23<|.dr 8<|.qu [2,101,2,102]<|.ss a 0 (a.size:Int)<|.qu [1]<|.pI 10 (a.extract (ad 0) a.size) fun N=>.dn<|.cT 9 [0,1,2] 3 (wi u gen h g f b s sz w c d e y l x N (N.size:Int) 0 j k i a t S))):zG u gen h g f b s sz w c d e y l x p C q j k i a t S w0 R:=VC.go ew _ H
theorem El (u:Nat)(gen:Int)(h:OA)(g f:Nat)(b:Int)(s:Nat)(sz:Int)(w:Bool)(c d e:Nat)(y:OA)(l x:Nat)(p:BA)(C q:Int)(j:Nat)(k:Bool)(a i:BA)(t:aX)(H:VP S w0 R (.P 5 53 (q<C) (.r 13<|.ix p q<|.I 2 58 ((k8 p q)=0) (.r 2<|.dD<|.nm [0,3,5,7,9,10,39,40]<|.ph 14 [0,1,2,3,4,5,6,7,8,9,10,11] [12,13] 3<|.hp [(c,.cells (zK6aa k gen b sz g f j h) 86),(kAoq d a i),(kCdq e b)] fun E=>.qu [4]<|.ex fun F=>.qc 44 [PP c,IV 1] E (IV F)<|.qu [2,102,3]<|.ex fun G=>.qc 70 [IV (p.size:Int)] E (.string G)<|.dn<|.cl 69 [PP c,IV (ab.wrap (F+0)),.string G] (yK6aa a i k gen b sz c g f j d e h t)<|.x4 fun m n o A=>.rt (kBlq m n o) (yK6aa a i k gen b sz c g f j d e h A)<|.n2 1 (.cells (kBaq m n o) 53) fun z=>.df z (.cells (kBaq m n o) 53) (yK6aa a i k gen b sz c g f j d e h A)<|.tl<|.apd 0 z 53 53 1 92 92 (.slice y l x) 1 1 (kDaq m n o) ((z,.cells (kBaq m n o) 53)::(c,.cells (zK6aa k gen b sz g f j h) 86)::(kAoq d a i)::(kCdq e b)::A)<|.x3 fun ap1 (D:Nat) F7=>.rt (.slice ap1 (l+1) D) (yK6aa a i k gen b sz c g f j d e h F7)<|.r 23<|.dr 8<|.qu [2,101,2,102]<|.ss a b (a.size:Int)<|.qu [1]<|.pI 10 (a.extract (ad b) a.size) fun M=>.dn<|.cT 9 [0,1,2] 3 (wR u gen h g f b s sz w c d e ap1 (l+1) D M (M.size:Int) 0 j k a i F7 S))<|.cT 8 [0,1,2] 3 (zC u gen h g f b s sz w c d e y l x p C (ab.wrap (q+1)) j k a i t S))<|.r 23<|.dr 8<|.qu [2,101,2,102]<|.ss a b (a.size:Int)<|.qu [1]<|.pI 10 (a.extract (ad b) a.size) fun N=>.dn<|.cT 9 [0,1,2] 3 (wR u gen h g f b s sz w c d e y l x N (N.size:Int) 0 j k a i t S))):zC u gen h g f b s sz w c d e y l x p C q j k a i t S w0 R:=VC.go ew _ H
abbrev kBwq (x0):=(#[.func (.func 68) #[PP x0] #[]]:Array aa)
abbrev kDoq (x0):=([.func (.func 68) #[PP x0] #[]]:List aa)
theorem DX (E:Nat)(gen:Int)(h:OA)(g f:Nat)(b:Int)(D:Nat)(sz:Int)(M:Bool)(c d e:Nat)(t:OA)(l s:Nat)(q:BA)(z u:Int)(a:Nat)(k:Bool)(i j:BA)(m:aX)(H:VP S w0 R (.P 5 53 (u<z) (.r 13<|.ix q u<|.I 2 58 ((k8 q u)=0) (.r 2<|.dD<|.nm [0,3,5,7,9,10,39,40]<|.ph 14 [0,1,2,3,4,5,6,7,8,9,10,11] [12,13] 3<|.hp [(c,.cells (zK6aa k gen b sz g f a h) 86),(kAoq d i j),(kCdq e b)] fun N=>.qu [4]<|.ex fun O=>.qc 44 [PP c,IV 1] N (IV O)<|.qu [2,102,3]<|.ex fun Q=>.qc 70 [IV (q.size:Int)] N (.string Q)<|.dn<|.cl 69 [PP c,IV (ab.wrap (O+0)),.string Q] (yK6aa i j k gen b sz c g f a d e h m)<|.x4 fun n o p x=>.rt (kBlq n o p) (yK6aa i j k gen b sz c g f a d e h x)<|.n2 1 (.cells (kBaq n o p) 53) fun w=>.df w (.cells (kBaq n o p) 53) (yK6aa i j k gen b sz c g f a d e h x)<|.tl<|.apd 0 w 53 53 1 92 92 (.slice t l s) 1 1 (kDaq n o p) ((w,.cells (kBaq n o p) 53)::(c,.cells (zK6aa k gen b sz g f a h) 86)::(kAoq d i j)::(kCdq e b)::x)<|.x3 fun ap2 (y:Nat) F10=>.rt (.slice ap2 (l+1) y) (yK6aa i j k gen b sz c g f a d e h F10)<|.P 22 78 (0<((l+1):Int)) (.ru [6,200]<|.r 1<|.ns true 1 (.cells (kBwq a) 53) fun A=>.apd 0 A 53 53 1 92 92 (.slice ap2 (l+1) y) 1 1 (kDoq a) ((A,.cells (kBwq a) 53)::(c,.cells (zK6aa k gen b sz g f a h) 86)::(kAoq d i j)::(kCdq e b)::F10)<|.x3 fun ap3 (F:Nat) F11=>.rt (.slice ap3 ((l+1)+1) F) (yK6aa i j k gen b sz c g f a d e h F11)<|.re 7 (.slice ap3 ((l+1)+1) F) (yK6aa i j k gen b sz c g f a d e h F11))<|.re 7 (.slice ap2 (l+1) y) (yK6aa i j k gen b sz c g f a d e h F10))<|.cT 8 [0,1,2] 3 (wi E gen h g f b D sz M c d e t l s q z (ab.wrap (u+1)) a k i j m S))<|.P 22 78 (0<(l:Int)) (.ru [6,200]<|.r 1<|.ns true 1 (.cells (kBwq a) 53) fun C=>.apd 0 C 53 53 1 92 92 (.slice t l s) 1 1 (kDoq a) ((C,.cells (kBwq a) 53)::(c,.cells (zK6aa k gen b sz g f a h) 86)::(kAoq d i j)::(kCdq e b)::m)<|.x3 fun ap4 (G:Nat) F12=>.rt (.slice ap4 (l+1) G) (yK6aa i j k gen b sz c g f a d e h F12)<|.re 7 (.slice ap4 (l+1) G) (yK6aa i j k gen b sz c g f a d e h F12))<|.re 7 (.slice t l s) (yK6aa i j k gen b sz c g f a d e h m))):wi E gen h g f b D sz M c d e t l s q z u a k i j m S w0 R:=VC.go ew _ H
theorem CY (E:Nat)(gen:Int)(h:OA)(g f:Nat)(b:Int)(D:Nat)(sz:Int)(M:Bool)(c d e:Nat)(t:OA)(l s:Nat)(q:BA)(z u:Int)(a:Nat)(k:Bool)(i j:BA)(m:aX)(H:VP S w0 R (.P 5 53 (u<z) (.r 13<|.ix q u<|.I 2 58 ((k8 q u)=0) (.r 2<|.dD<|.nm [0,3,5,7,9,10,39,40]<|.ph 14 [0,1,2,3,4,5,6,7,8,9,10,11] [12,13] 3<|.hp [(c,.cells (zK6aa k gen b sz g f a h) 86),(kAoq d i j),(kCdq e b)] fun N=>.qu [4]<|.ex fun O=>.qc 44 [PP c,IV 0] N (IV O)<|.qu [2,102,3]<|.ex fun Q=>.qc 70 [IV (q.size:Int)] N (.string Q)<|.dn<|.cl 69 [PP c,IV (ab.wrap (O+b)),.string Q] (yK6aa i j k gen b sz c g f a d e h m)<|.x4 fun n o p x=>.rt (kBlq n o p) (yK6aa i j k gen b sz c g f a d e h x)<|.n2 1 (.cells (kBaq n o p) 53) fun w=>.df w (.cells (kBaq n o p) 53) (yK6aa i j k gen b sz c g f a d e h x)<|.tl<|.apd 0 w 53 53 1 92 92 (.slice t l s) 1 1 (kDaq n o p) ((w,.cells (kBaq n o p) 53)::(c,.cells (zK6aa k gen b sz g f a h) 86)::(kAoq d i j)::(kCdq e b)::x)<|.x3 fun ap5 (y:Nat) F14=>.rt (.slice ap5 (l+1) y) (yK6aa i j k gen b sz c g f a d e h F14)<|.P 22 78 (0<((l+1):Int)) (.ru [6,200]<|.r 1<|.ns true 1 (.cells (kBwq a) 53) fun A=>.apd 0 A 53 53 1 92 92 (.slice ap5 (l+1) y) 1 1 (kDoq a) ((A,.cells (kBwq a) 53)::(c,.cells (zK6aa k gen b sz g f a h) 86)::(kAoq d i j)::(kCdq e b)::F14)<|.x3 fun ap6 (F:Nat) F15=>.rt (.slice ap6 ((l+1)+1) F) (yK6aa i j k gen b sz c g f a d e h F15)<|.re 7 (.slice ap6 ((l+1)+1) F) (yK6aa i j k gen b sz c g f a d e h F15))<|.re 7 (.slice ap5 (l+1) y) (yK6aa i j k gen b sz c g f a d e h F14))<|.cT 8 [0,1,2] 3 (wR E gen h g f b D sz M c d e t l s q z (ab.wrap (u+1)) a k i j m S))<|.P 22 78 (0<(l:Int)) (.ru [6,200]<|.r 1<|.ns true 1 (.cells (kBwq a) 53) fun C=>.apd 0 C 53 53 1 92 92 (.slice t l s) 1 1 (kDoq a) ((C,.cells (kBwq a) 53)::(c,.cells (zK6aa k gen b sz g f a h) 86)::(kAoq d i j)::(kCdq e b)::m)<|.x3 fun ap7 (G:Nat) F16=>.rt (.slice ap7 (l+1) G) (yK6aa i j k gen b sz c g f a d e h F16)<|.re 7 (.slice ap7 (l+1) G) (yK6aa i j k gen b sz c g f a d e h F16))<|.re 7 (.slice t l s) (yK6aa i j k gen b sz c g f a d e h m))):wR E gen h g f b D sz M c d e t l s q z u a k i j m S w0 R:=VC.go ew _ H
abbrev kDnq:=(.cells #[IV 0,IV 0] 139:Obj)
abbrev kEwq (x0 x1 x2):=([PP x0,.agg #[.string x1,.string x2]]:List aa)
theorem PL (c:Nat)(a b:BA)(gen:Int)(j:OA)(i h:Nat)(d:Int)(e:Nat)(sz:Int)(f:Bool)(g:aX)(hm:Mem ((c,.cells (zK6aa f gen d sz i h e j) 86)::g) S w0 W)(H:VP S w0 R (.nf 2 (.cells #[.string a,.string b] 87) fun B=>.nf 5 kDnq fun k=>.r 2<|.dr 10<|.qu [3,102,4,102,1]<|.dn<|.ru [200]<|.r 2<|.dD<|.nm [0,3,5]<|.ph 11 [0,1,2,3,4,5,6,7,8,9] [10] 3<|.qu [3,102,4,102,1]<|.dn<|.n1 kDnq fun n=>.df n kDnq ((kCdq k d)::(kAoq B a b)::(c,.cells (zK6aa f gen d sz i h e j) 86)::g)<|.tl<|.ru [200,8,203]<|.P 2 37 (gen=0) (.ru [3,200,10,200]<|.r 19<|.dr 8<|.qu [2,102,2,101]<|.ss a d (a.size:Int)<|.qu [1]<|.pI 10 (a.extract (ad d) a.size) fun l=>.dn<|.cT 9 [3,2,1] 4 (zG c gen j i h d e sz f c B k none 0 0 l (l.size:Int) 0 e f a b g S))<|.ru [11,200]<|.r 19<|.dr 8<|.qu [2,102,2,101]<|.ss b 0 (b.size:Int)<|.qu [1]<|.pI 10 (b.extract (ad 0) b.size) fun m=>.dn<|.cT 9 [3,2,1] 4 (zC c gen j i h d e sz f c B k none 0 0 m (m.size:Int) 0 e f a b g S))):aE TP 46 ⟨(kEwq c a b)⟩ W R:=VC.cs ew hm _ H
noncomputable def xe (u:Nat)(gen:Int)(h:OA)(g f:Nat)(e:Int)(t:Nat)(sz:Int)(w:Bool)(a b c:Nat)(p:OA)(o n:Nat)(m:BA)(q s:Int)(k:Nat)(l:Bool)(i j:BA)(d:aX)(S:List Nat):Cut:=⟨TP,S,46,88,(KC gM 3664284),[(0,PP a),(3,PP b),(5,PP c),(7,.slice p o n),(9,IV 0),(10,.string m),(39,.agg #[IV 0,IV 1]),(40,IV 0),(51,IV q),(52,IV s)],(yK6ab i j l gen e sz a g f k b c h d)⟩
noncomputable def vI (u:Nat)(gen:Int)(h:OA)(g f:Nat)(e:Int)(t:Nat)(sz:Int)(w:Bool)(a b c:Nat)(p:OA)(o n:Nat)(m:BA)(q s:Int)(k:Nat)(l:Bool)(i j:BA)(d:aX)(S:List Nat):Cut:=⟨TP,S,46,88,(KC gM 3664284),[(0,PP a),(3,PP b),(5,PP c),(7,.slice p o n),(9,IV 1),(10,.string m),(39,.agg #[IV 0,IV 1]),(40,IV 1),(51,IV q),(52,IV s)],(yK6ab i j l gen e sz a g f k b c h d)⟩
abbrev kDmq (x0 x1):=((x0,.cells #[IV 0,IV x1] 139):Nat×Obj)
theorem Ez (u:Nat)(gen:Int)(h:OA)(g f:Nat)(b:Int)(s:Nat)(sz:Int)(w:Bool)(c d e:Nat)(y:OA)(l x:Nat)(p:BA)(C q:Int)(j:Nat)(k:Bool)(i a:BA)(t:aX)(H:VP S w0 R (.P 5 53 (q<C) (.r 13<|.ix p q<|.I 2 58 ((k8 p q)=0) (.r 2<|.dD<|.nm [0,3,5,7,9,10,39,40]<|.ph 14 [0,1,2,3,4,5,6,7,8,9,10,11] [12,13] 3<|.hp [(c,.cells (zK6ab k gen b sz g f j h) 86),(kAoq d i a),(kDmq e b)] fun E=>.qu [4]<|.ex fun F=>.qc 44 [PP c,IV 0] E (IV F)<|.qu [2,102,3]<|.ex fun G=>.qc 70 [IV (p.size:Int)] E (.string G)<|.dn<|.cl 69 [PP c,IV (ab.wrap (F+0)),.string G] (yK6ab i a k gen b sz c g f j d e h t)<|.x4 fun m n o A=>.rt (kBlq m n o) (yK6ab i a k gen b sz c g f j d e h A)<|.n2 1 (.cells (kBaq m n o) 53) fun z=>.df z (.cells (kBaq m n o) 53) (yK6ab i a k gen b sz c g f j d e h A)<|.tl<|.apd 0 z 53 53 1 92 92 (.slice y l x) 1 1 (kDaq m n o) ((z,.cells (kBaq m n o) 53)::(c,.cells (zK6ab k gen b sz g f j h) 86)::(kAoq d i a)::(kDmq e b)::A)<|.x3 fun ap (D:Nat) F3=>.rt (.slice ap (l+1) D) (yK6ab i a k gen b sz c g f j d e h F3)<|.r 23<|.dr 8<|.qu [2,101,2,102]<|.ss a b (a.size:Int)<|.qu [1]<|.pI 10 (a.extract (ad b) a.size) fun M=>.dn<|.cT 9 [0,1,2] 3 (vI u gen h g f b s sz w c d e ap (l+1) D M (M.size:Int) 0 j k i a F3 S))<|.cT 8 [0,1,2] 3 (xe u gen h g f b s sz w c d e y l x p C (ab.wrap (q+1)) j k i a t S))<|.r 23<|.dr 8<|.qu [2,101,2,102]<|.ss a b (a.size:Int)<|.qu [1]<|.pI 10 (a.extract (ad b) a.size) fun N=>.dn<|.cT 9 [0,1,2] 3 (vI u gen h g f b s sz w c d e y l x N (N.size:Int) 0 j k i a t S))):xe u gen h g f b s sz w c d e y l x p C q j k i a t S w0 R:=VC.go ew _ H
theorem Ef (E:Nat)(gen:Int)(h:OA)(g f:Nat)(b:Int)(D:Nat)(sz:Int)(M:Bool)(c d e:Nat)(t:OA)(l s:Nat)(q:BA)(z u:Int)(a:Nat)(k:Bool)(i j:BA)(m:aX)(H:VP S w0 R (.P 5 53 (u<z) (.r 13<|.ix q u<|.I 2 58 ((k8 q u)=0) (.r 2<|.dD<|.nm [0,3,5,7,9,10,39,40]<|.ph 14 [0,1,2,3,4,5,6,7,8,9,10,11] [12,13] 3<|.hp [(c,.cells (zK6ab k gen b sz g f a h) 86),(kAoq d i j),(kDmq e b)] fun N=>.qu [4]<|.ex fun O=>.qc 44 [PP c,IV 1] N (IV O)<|.qu [2,102,3]<|.ex fun Q=>.qc 70 [IV (q.size:Int)] N (.string Q)<|.dn<|.cl 69 [PP c,IV (ab.wrap (O+b)),.string Q] (yK6ab i j k gen b sz c g f a d e h m)<|.x4 fun n o p x=>.rt (kBlq n o p) (yK6ab i j k gen b sz c g f a d e h x)<|.n2 1 (.cells (kBaq n o p) 53) fun w=>.df w (.cells (kBaq n o p) 53) (yK6ab i j k gen b sz c g f a d e h x)<|.tl<|.apd 0 w 53 53 1 92 92 (.slice t l s) 1 1 (kDaq n o p) ((w,.cells (kBaq n o p) 53)::(c,.cells (zK6ab k gen b sz g f a h) 86)::(kAoq d i j)::(kDmq e b)::x)<|.x3 fun ap1 (y:Nat) F6=>.rt (.slice ap1 (l+1) y) (yK6ab i j k gen b sz c g f a d e h F6)<|.P 22 78 (0<((l+1):Int)) (.ru [6,200]<|.r 1<|.ns true 1 (.cells (kBwq a) 53) fun A=>.apd 0 A 53 53 1 92 92 (.slice ap1 (l+1) y) 1 1 (kDoq a) ((A,.cells (kBwq a) 53)::(c,.cells (zK6ab k gen b sz g f a h) 86)::(kAoq d i j)::(kDmq e b)::F6)<|.x3 fun ap2 (F:Nat) F7=>.rt (.slice ap2 ((l+1)+1) F) (yK6ab i j k gen b sz c g f a d e h F7)<|.re 7 (.slice ap2 ((l+1)+1) F) (yK6ab i j k gen b sz c g f a d e h F7))<|.re 7 (.slice ap1 (l+1) y) (yK6ab i j k gen b sz c g f a d e h F6))<|.cT 8 [0,1,2] 3 (vI E gen h g f b D sz M c d e t l s q z (ab.wrap (u+1)) a k i j m S))<|.P 22 78 (0<(l:Int)) (.ru [6,200]<|.r 1<|.ns true 1 (.cells (kBwq a) 53) fun C=>.apd 0 C 53 53 1 92 92 (.slice t l s) 1 1 (kDoq a) ((C,.cells (kBwq a) 53)::(c,.cells (zK6ab k gen b sz g f a h) 86)::(kAoq d i j)::(kDmq e b)::m)<|.x3 fun ap3 (G:Nat) F8=>.rt (.slice ap3 (l+1) G) (yK6ab i j k gen b sz c g f a d e h F8)<|.re 7 (.slice ap3 (l+1) G) (yK6ab i j k gen b sz c g f a d e h F8))<|.re 7 (.slice t l s) (yK6ab i j k gen b sz c g f a d e h m))):vI E gen h g f b D sz M c d e t l s q z u a k i j m S w0 R:=VC.go ew _ H
theorem U6 (b:Nat)(a f:BA)(gen:Int)(j:OA)(i h:Nat)(e:Int)(c:Nat)(sz:Int)(d:Bool)(g:aX)(hm:Mem ((b,.cells (zK6ab d gen e sz i h c j) 86)::g) S w0 W)(H:VP S w0 R (.nf 2 (.cells #[.string a,.string f] 87) fun B=>.nf 5 kDnq fun k=>.r 2<|.dr 10<|.qu [3,102,4,102,1]<|.dn<|.ru [200]<|.r 2<|.dD<|.nm [0,3,5]<|.ph 11 [0,1,2,3,4,5,6,7,8,9] [10] 3<|.qu [3,102,4,102,1]<|.dn<|.n1 kDnq fun n=>.df n kDnq ((kDmq k e)::(kAoq B a f)::(b,.cells (zK6ab d gen e sz i h c j) 86)::g)<|.tl<|.ru [200,8,203]<|.P 2 37 (gen=0) (.ru [3,200,10,200]<|.r 19<|.dr 8<|.qu [2,102,2,101]<|.ss a 0 (a.size:Int)<|.qu [1]<|.pI 10 (a.extract (ad 0) a.size) fun l=>.dn<|.cT 9 [3,2,1] 4 (xe b gen j i h e c sz d b B k none 0 0 l (l.size:Int) 0 c d a f g S))<|.ru [11,200]<|.r 19<|.dr 8<|.qu [2,102,2,101]<|.ss a 0 (a.size:Int)<|.qu [1]<|.pI 10 (a.extract (ad 0) a.size) fun m=>.dn<|.cT 9 [3,2,1] 4 (xe b gen j i h e c sz d b B k none 0 0 m (m.size:Int) 0 c d a f g S))):aE TP 46 ⟨(kEwq b a f)⟩ W R:=VC.cs ew hm _ H
def nT (JB D:Nat)(ops:List lC)(p:OA)(c:Nat)(G:aX):Prop:=
 ops.length≤c∧((p=none∧c=0∧ops=[])∨∃Q cs G0,p=some ⟨Q,0,none⟩∧G.Perm ((Q,.cells ⟨cs⟩ 53)::G0)∧cs.length=c∧∀i (h:i<ops.length),∃v,cs[i]?=some v∧qF G0 JB D ops[i] v)
theorem nT.oz {JB D:Nat}{G:aX}:nT JB D [] none 0 G:=⟨aD _,.inl ⟨rfl,rfl,rfl⟩⟩
theorem nT.push {JB D:Nat}{ops os:List lC}{p:OA}{c n:Nat}{G X Y L:aX}{S:List Nat}{w0:aj}{vs:List aa}(h:nT JB D ops p c G)(hn:ops.length=n)(b7:n≤1000)(a1:os.length=vs.length)(a3:0<vs.length)(b6:vs.length≤1000)(a4:∀i (h:i<os.length),qF X JB D os[i] (vs[i]'(by omega)))(hp:L.Perm (X++(G++Y))){m:Nat}(hm:m=vs.length):
  mM TP 1 92 92 (.slice p n c) m vs L S w0 (fun v L'=>∃p' c' N,v=.slice p' (n+m) c'∧L'.Perm (N++Y)∧nT JB D (ops++os) p' c' N):=by
 subst hn hm;obtain⟨a6,⟨rfl,rfl,rfl⟩|⟨Q,cs,O,rfl,a7,b5,a8⟩⟩:=h
 ·refine(mM.nil (T:=92) (E:=53) (z:=.nilFunc) (sz:=1) (bytes:=8) (by kernel_rfl) (by kernel_rfl) rfl a3 (by omega)).mono ?_
  rintro _ _ ⟨B,cap,r,rfl,V,b4,rfl⟩;refine⟨some ⟨B,0,none⟩,cap,(B,.cells ⟨vs++r⟩ 53)::(X++G),by rw[bt,az],?_,⟨by simpa[a1]using V,.inr ⟨B,_,X++G,rfl,ah _,by omega,fun i hi=>?_⟩⟩⟩
  ·exact aw.trans ((eS _ hp).trans Bi)
  ·simp only[aT]at hi ⊢
   exact⟨vs[i]'(by omega),by rw[dG (by omega),ar],(a4 i hi).mono fun x M=>ay _ M⟩
 ·have b3:L.Perm ((Q,.cells ⟨cs⟩ 53)::(X++(O++Y))):=hp.trans (((a7.append_right Y).append_left X).trans cI)
  refine(mM.row (E:=53) (z:=.nilFunc) (sz:=1) (bytes:=8) (by kernel_rfl) (by kernel_rfl) rfl b3 ⟨a6,by omega⟩ a3 (by omega)).mono ?_;rintro _ _ ⟨B,cap,r,rfl,V,b4,a9⟩;have a5:∀i (h:i<(ops++os).length),∃v,(cs.take (ops.length*1)++vs++r)[i]?=some v∧qF (X++O) JB D (ops++os)[i] v:=by
   intro i hi;rw[ae]at hi;have b1:(cs.take (ops.length*1)).length=ops.length:=by rw[ao];omega
   rcases cy i ops.length with hlt|hge
   ·obtain⟨v,k1,a2⟩:=a8 i hlt
    refine⟨v,?_,?_⟩
    ·rw[an,dG (by omega),bh (by omega)];exact k1
    ·rw[ek hlt];exact a2.mono fun x M=>ak _ M
   ·refine⟨vs[i-ops.length]'(by omega),?_,?_⟩
    ·rw[an,iq (by omega),b1,dG (by omega),ar]
    ·rw[iv hge];exact(a4 _ (by omega)).mono fun x M=>ay _ M
  rcases a9 with⟨rfl,rfl,rfl⟩|rfl
  ·exact⟨some ⟨B,0,none⟩,cap,(B,.cells ⟨cs.take (ops.length*1)++vs++r⟩ 53)::(X++O),rfl,Bi,⟨by rw[ae,a1];exact V,.inr ⟨B,_,X++O,rfl,ah _,by omega,a5⟩⟩⟩
  ·refine⟨some ⟨B,0,none⟩,cap,(B,.cells ⟨cs.take (ops.length*1)++vs++r⟩ 53)::(Q,.cells ⟨cs⟩ 53)::(X++O),rfl,JY,⟨by rw[ae,a1];exact V,.inr ⟨B,_,(Q,.cells ⟨cs⟩ 53)::(X++O),rfl,ah _,by omega,fun i hi=>?_⟩⟩⟩
   obtain⟨v,k1,a2⟩:=a5 i hi;exact⟨v,k1,a2.mono fun x M=>ag _ M⟩
def mr (k sz fr:Nat)(img:List UInt8):List lC:=if(img.drop fr).all (fun b=>b==0)=true then []else [.write ((k*sz+fr:Nat):Int) (ba (zs (img.length-fr)))]
def nu (ops:List lC):List lC:=if ops.length=0 then []else ops++[.sync]
def px (gen:Int)(cu en sz:Nat)(i0 i1:List UInt8):List lC:=
 nu (if cu=0 then(if gen=0 then mr 0 sz en i0++mr 1 sz 0 i1 else mr 1 sz 0 i1++mr 0 sz en i0)else mr 0 sz 0 i0++mr 1 sz en i1)
theorem w7 {rest:BA}{P:Nat→Prop}(a2:(bb rest).all (fun b=>b==0)=false→∀t,t<rest.size→¬k8 rest (t:Int)=0→P t)(go:∀t,t<rest.size→k8 rest (t:Int)=0→P (t+1)→P t)(a3:(bb rest).all (fun b=>b==0)=true→P rest.size):P 0:=by
 have key:∀g t,g+t=rest.size→(∀i,i<t→k8 rest (i:Int)=0)→P t:=by
  intro g;induction g with
  |zero=>
   intro t a1 h;obtain rfl:t=rest.size:=by omega
   refine a3 (ij.2 fun b M=>?_);obtain⟨i,hi,rfl⟩:=List.mem_iff_getElem.1 M;simpa using(rC hi).1 (h i (by rw[lB]at hi;exact hi))
  | succ g ih=>
   intro t a1 h
   by_cases M:k8 rest (t:Int)=0
   ·exact go t (by omega) M (ih (t+1) (by omega) fun i hi=>by
     rcases cy i t with h1|h1
     ·exact h i h1
     ·obtain rfl:i=t:=by omega
      exact M)
   ·refine a2 ?_ t (by omega) M
    have O:t<(bb rest).length:=by rw[lB];omega
    rw[Bool.eq_false_iff];intro V;have:=ij.1 V _ (bH O);exact M ((rC O).2 (by simpa using this))
 exact key rest.size 0 (by omega) fun i hi=>absurd hi (by omega)
section perms
variable (x y z q u:Nat×Obj)(A F T X Z N G Y:aX)
theorem rM (hp:F.Perm (G++Y)):(q::x::y::z::(X++F)).Perm (X++(G++(q::x::y::z::Y))):=lR fun c w M O V a1=>by
 have:=a1 _ _ hp;simp only[M,O,V]at this ⊢;omega
theorem GY:(N++(q::x::y::z::Y)).Perm (x::y::z::(N++(q::Y))):=perm_a
theorem Sb:((x::X)++(y::z::F)).Perm (x::y::z::(X++F)):=perm_a
theorem MK (hp:F.Perm (N++Y)):(x::y::z::F).Perm (x::(N++(y::z::Y))):=lR fun c w M O V a1=>by
 have:=a1 _ _ hp;simp only[M,O,V]at this ⊢;omega
end perms
def pW (JB D:Nat)(m:JM)(p:OA)(c:Nat)(T:aX)(ops:List lC)(v:aa)(L':aX):Prop:=
 ∃q qc N Y,v=.slice q ops.length qc∧L'.Perm (jH JB D (m.js p c)::(N++(Y++T)))∧nT JB D ops q qc N
section cln
variable {JB D:Nat}{m:JM}{p:Option Addr}{c:Nat}{T:aX}{S:List Nat}{w0:World}(y z:Nat×Obj)
theorem vT {k fr:Nat}{rest:BA}{ops:List lC}{q:OA}{qc n:Nat}{F G Y:aX}{a3:OA→Nat→aX→Prop}(a4:k≤1)(b5:m.sz≤2097152)(b9:fr≤2097152)(c4:rest.size≤2097152)(hp:F.Perm (G++(Y++T)))(b3:nT JB D ops q qc G)(hn:ops.length=n)(c3:n≤10)
    (next:∀ap ac F' a2 a6,F'.Perm (a2++(a6++T))→nT JB D (ops++[.write ((k*m.sz+fr:Nat):Int) (ba (zs rest.size))]) ap ac a2→a3 ap ac F'):
    ∃ (r1 : Int),(m3 TP 44 ⟨[pt JB 0,.int .i64 (k:Int)]⟩ [jH JB D (m.js p c),y,z] S w0 (.int .i64 r1))∧
          ∃(a5:BA),(m3 TP 70 ⟨[.int .i64 (rest.size:Int)]⟩ [jH JB D (m.js p c),y,z] S w0 (.string a5))∧
          eA TP 69 ⟨[pt JB 0,.int .i64 (ab.wrap (r1+(fr:Int))),.string a5]⟩ (jH JB D (m.js p c)::y::z::F) S w0 (fun v L'=>∃(M:Nat) (O:Nat) (ks:Nat) (V:aX),v=o9 M O ks∧L'=(jH JB D (m.js p c)::y::z::V)∧
            ∀B9:Nat,
            mM TP 1 92 92 (.slice q n qc) (1) [o9 M O ks] ((B9,.cells #[o9 M O ks] 53)::jH JB D (m.js p c)::y::z::V) S w0 (fun v L'=>∃(ap:OA) (ac:Nat) (a1:aX),v=(.slice ap (n+1) ac)∧L'=(jH JB D (m.js p c)::y::z::a1)∧a3 ap ac a1)):=by
  have c2:k*m.sz≤1*2097152:=dp a4 b5;refine⟨((k*m.sz:Nat):Int),m3.pw fun b7 a9=>wV (m:=m) (a9.here _ au) a4 (by omega),ba (zs rest.size),m3.of (Hv rest.size (by omega)),?_⟩;have a7:ab.wrap (((k*m.sz:Nat):Int)+(fr:Int))=((k*m.sz+fr:Nat):Int):=by rw[kS (by omega)];omega
  rw[a7];refine eA.lF (L0:=[jH JB D (m.js p c)]) (L1:=y::z::F) (w9 (j:=m.js p c) (D:=D)) (ah _) ?_;rintro _ _ ⟨M,O,ks,rfl,rfl⟩;refine⟨_,Sb _ _ _ _ _,M,O,ks,_,rfl,rfl,fun B9=>?_⟩;refine(nT.push (os:=[.write ((k*m.sz+fr:Nat):Int) (ba (zs rest.size))]) (vs:=[o9 M O ks]) b3 hn (by omega) rfl (by simp) (by simp) (fun i hi=>?_) (rM _ _ _ _ _ (qj JB M O ks _ _) _ _ hp) rfl).nd ?_
  · match i,hi with
    |0,_=>exact wE fun x b4=>b4
  · rintro _ b6 ⟨p',c',N,rfl,b1,a8⟩
    exact⟨_,b1.trans (GY _ _ _ _ _ _),p',c',_,rfl,rfl,next p' c' _ N ((B9,.cells #[o9 M O ks] 53)::Y) (ah _) a8⟩
theorem wN {ops:List lC}{q:OA}{qc n:Nat}{F G Y:aX}(hp:F.Perm (G++(Y++T)))(a3:nT JB D ops q qc G)(hn:ops.length=n)(a7:n≤10):
    (((0 :Int)<(n:Int))→
          ∀O:Nat,
          mM TP 1 92 92 (.slice q n qc) (1) [.func (.func 68) #[pt D 0] #[]] ((O,.cells #[.func (.func 68) #[pt D 0] #[]] 53)::jH JB D (m.js p c)::y::z::F) S w0 (fun v L'=>∃(a2:OA) (a1:Nat) (V:aX),v=(.slice a2 (n+1) a1)∧L'=(jH JB D (m.js p c)::y::z::V)∧
            Fin (fun e M=>∃v L',e=.returned v∧Mem L' S w0 M∧pW JB D m p c T (nu ops) v L') (jH JB D (m.js p c)::y::z::V) S w0 (.slice a2 (n+1) a1)))∧
         ((¬((0:Int)<(n:Int)))→
          Fin (fun e M=>∃v L',e=.returned v∧Mem L' S w0 M∧pW JB D m p c T (nu ops) v L') (jH JB D (m.js p c)::y::z::F) S w0 (.slice q n qc)):=by
  refine⟨fun h O=>?_,fun h=>?_⟩
  · have e:nu ops=ops++[.sync]:=if_neg (by omega)
    refine(nT.push (os:=[.sync]) (X:=[]) (vs:=[.func (.func 68) #[pt D 0] #[]]) a3 hn (by omega) rfl (by simp) (by simp) (fun i hi=>?_) (rM _ _ _ _ _ [] _ _ hp) rfl).nd ?_
    · match i,hi with
      |0,_=>exact rfl
    · rintro _ a6 ⟨p',c',N,rfl,a5,a4⟩
      refine⟨_,a5.trans (GY _ _ _ _ _ _),p',c',_,rfl,rfl,kR ⟨p',c',N,y::z::(_::Y),by rw[e,ae,hn];rfl,MK _ _ _ _ _ _ (ah _),by rw[e];exact a4⟩⟩
  · have e:nu ops=ops:=by rw[nu,if_pos (by omega)];exact(aQ.1 (by omega)).symm
    exact kR ⟨q,qc,G,y::z::Y,by rw[e,hn],MK _ _ _ _ _ _ hp,by rw[e];exact a3⟩
abbrev qN (S:List Nat)(w0:aj)(K:aa→aX→Prop):bJ→aj→Prop:=fun e W'=>∃v L',e=.returned v∧Mem L' S w0 W'∧K v L'
theorem xX (i:BA)(fr:Nat):bb (i.extract fr i.size)=(bb i).drop fr:=by
 rw[tA,aK (by rw[aZ,lB];omega)]
theorem AF {i:BA}{fr:Nat}(h:fr≤i.size):(i.extract fr i.size).size=(bb i).length-fr:=by
 rw[di,lB];omega
theorem wq {k sz fr:Nat}{rest:BA}{img:List UInt8}(e:bb rest=img.drop fr)(es:rest.size=img.length-fr)(M:(bb rest).all (fun b=>b==0)=false):mr k sz fr img=[.write ((k*sz+fr:Nat):Int) (ba (zs rest.size))]:=by
 rw[mr,←e,M,if_neg (by decide),es]
theorem wu {k sz fr:Nat}{rest:BA}{img:List UInt8}(e:bb rest=img.drop fr)(M:(bb rest).all (fun b=>b==0)=true):mr k sz fr img=[]:=by
 rw[mr,←e,M,if_pos rfl]
theorem YJ {gen:Int}{fs:List dF}{en sz:Nat}{br:Bool}{i0 i1:BA}(a7:sz≤2097152)(c3:i0.size≤2097152)(c4:i1.size≤2097152)(b5:en≤i0.size){W:aj}(b7:Mem (jH JB D ((JM.mk gen fs en sz 0 br).js p c)::T) S w0 W):
  aE TP 46 ⟨[pt JB 0,.agg #[.string i0,.string i1]]⟩ W (qN S w0 (pW JB D (JM.mk gen fs en sz 0 br) p c T (px gen 0 en sz (bb i0) (bb i1)))):=by
 have b9:Mem ((JB,.cells #[.int .i64 gen,.slice p fs.length c,.int .i64 (en:Int),.pointer (SO D),.int .i64 (sz:Int),.int .i64 (0:Int),.bool br] 86)::T) S w0 W:=b7;have b0:(bb i0).length=i0.size:=lB i0;have c2:(bb i1).length=i1.size:=lB i1;have e1:bb (i1.extract (ad (0:Int)) i1.size)=(bb i1).drop 0:=xX i1 0;have b4:(i1.extract (ad (0:Int)) i1.size).size=(bb i1).length-0:=AF (bx _);have e0:bb (i0.extract (ad (en:Int)) i0.size)=(bb i0).drop en:=by rw[ai];exact xX i0 en
 have b3:(i0.extract (ad (en:Int)) i0.size).size=(bb i0).length-en:=by rw[ai];exact AF b5
 rw[px,if_pos rfl];refine PL JB i0 i1 gen p fs.length c (en:Int) D (sz:Int) br T b9 fun B a4 B2=>⟨fun b1=>?_,fun b1=>?_⟩
 ·rw[if_pos b1]
  have a5:∀(ops:List lC) (q:OA) (qc n:Nat) (F G Y:aX),F.Perm (G++(Y++T))→nT JB D ops q qc G→ops.length=n→n≤5→
    wi JB gen p fs.length c (en:Int) D (sz:Int) br JB B a4 q n qc (i1.extract (ad (0:Int)) i1.size) ((i1.extract (ad (0:Int)) i1.size).size:Int) (0:Int) D br i0 i1 F S w0 (qN S w0 (pW JB D (JM.mk gen fs en sz 0 br) p c T (nu (ops++mr 1 sz 0 (bb i1))))):=by
   intro ops q qc n F G Y hp a6 hn b6;refine w7 (rest:=(i1.extract (ad (0:Int)) i1.size)) (P:=fun t=>wi JB gen p fs.length c (en:Int) D (sz:Int) br JB B a4 q n qc (i1.extract (ad (0:Int)) i1.size) ((i1.extract (ad (0:Int)) i1.size).size:Int) (t:Int) D br i0 i1 F S w0 (qN S w0 (pW JB D (JM.mk gen fs en sz 0 br) p c T (nu (ops++mr 1 sz 0 (bb i1)))))) (fun V t a3 M=>?_) (fun t a3 M ih=>?_) fun O=>?_
   ·apply DX
    rw[wq e1 b4 V];exact yes (by omega) ⟨by omega,fun _=>vT (m:=JM.mk gen fs en sz 0 br) (k:=1) (fr:=0) _ _ (by omega) a7 (by omega) (by omega) hp a6 hn (by omega) fun ap ac F' a8 a9 a1 a2=>wN (m:=JM.mk gen fs en sz 0 br) (n:=n+1) _ _ a1 a2 (by rw[ae,hn];simp) (by omega),fun h=>absurd h M⟩
   ·apply DX
    refine yes (by omega) ⟨by omega,fun h=>absurd M h,fun _=>?_⟩;rw[kS (by omega),show(t:Int)+1=((t+1:Nat):Int)by omega];exact ih
   ·apply DX
    rw[wu e1 O,aL];exact no (by omega) (wN (m:=JM.mk gen fs en sz 0 br) _ _ hp a6 hn (by omega))
  refine⟨by omega,?_⟩;rintro _ rfl;refine w7 (rest:=(i0.extract (ad (en:Int)) i0.size)) (P:=fun t=>zG JB gen p fs.length c (en:Int) D (sz:Int) br JB B a4 none 0 0 (i0.extract (ad (en:Int)) i0.size) ((i0.extract (ad (en:Int)) i0.size).size:Int) (t:Int) D br i0 i1 T S w0 (qN S w0 (pW JB D (JM.mk gen fs en sz 0 br) p c T (nu (mr 0 sz en (bb i0)++mr 1 sz 0 (bb i1)))))) (fun V t a3 M=>?_) (fun t a3 M ih=>?_) fun O=>?_
  ·apply FK
   rw[wq e0 b3 V];refine yes (by omega) ⟨by omega,fun _=>vT (m:=JM.mk gen fs en sz 0 br) (k:=0) (fr:=en) (ops:=[]) (G:=[]) (Y:=[]) _ _ (by omega) a7 (by omega) (by omega) (ah _) nT.oz rfl (by omega) fun ap ac F' a8 a9 a1 a2=>⟨by omega,?_⟩,fun h=>absurd h M⟩;rintro _ rfl;exact a5 _ _ _ _ _ _ _ a1 a2 rfl (by decide)
  ·apply FK
   refine yes (by omega) ⟨by omega,fun h=>absurd M h,fun _=>?_⟩;rw[kS (by omega),show(t:Int)+1=((t+1:Nat):Int)by omega];exact ih
  ·apply FK
   rw[wu e0 O];refine no (by omega) ⟨by omega,?_⟩;rintro _ rfl;exact a5 [] none 0 0 T [] [] (ah _) nT.oz rfl (by omega)
 ·rw[if_neg b1]
  have a5:∀(ops:List lC) (q:OA) (qc n:Nat) (F G Y:aX),F.Perm (G++(Y++T))→nT JB D ops q qc G→ops.length=n→n≤5→
    wR JB gen p fs.length c (en:Int) D (sz:Int) br JB B a4 q n qc (i0.extract (ad (en:Int)) i0.size) ((i0.extract (ad (en:Int)) i0.size).size:Int) (0:Int) D br i0 i1 F S w0 (qN S w0 (pW JB D (JM.mk gen fs en sz 0 br) p c T (nu (ops++mr 0 sz en (bb i0))))):=by
   intro ops q qc n F G Y hp a6 hn b6;refine w7 (rest:=(i0.extract (ad (en:Int)) i0.size)) (P:=fun t=>wR JB gen p fs.length c (en:Int) D (sz:Int) br JB B a4 q n qc (i0.extract (ad (en:Int)) i0.size) ((i0.extract (ad (en:Int)) i0.size).size:Int) (t:Int) D br i0 i1 F S w0 (qN S w0 (pW JB D (JM.mk gen fs en sz 0 br) p c T (nu (ops++mr 0 sz en (bb i0)))))) (fun V t a3 M=>?_) (fun t a3 M ih=>?_) fun O=>?_
   ·apply CY
    rw[wq e0 b3 V];exact yes (by omega) ⟨by omega,fun _=>vT (m:=JM.mk gen fs en sz 0 br) (k:=0) (fr:=en) _ _ (by omega) a7 (by omega) (by omega) hp a6 hn (by omega) fun ap ac F' a8 a9 a1 a2=>wN (m:=JM.mk gen fs en sz 0 br) (n:=n+1) _ _ a1 a2 (by rw[ae,hn];simp) (by omega),fun h=>absurd h M⟩
   ·apply CY
    refine yes (by omega) ⟨by omega,fun h=>absurd M h,fun _=>?_⟩;rw[kS (by omega),show(t:Int)+1=((t+1:Nat):Int)by omega];exact ih
   ·apply CY
    rw[wu e0 O,aL];exact no (by omega) (wN (m:=JM.mk gen fs en sz 0 br) _ _ hp a6 hn (by omega))
  refine⟨by omega,?_⟩;rintro _ rfl;refine w7 (rest:=(i1.extract (ad (0:Int)) i1.size)) (P:=fun t=>zC JB gen p fs.length c (en:Int) D (sz:Int) br JB B a4 none 0 0 (i1.extract (ad (0:Int)) i1.size) ((i1.extract (ad (0:Int)) i1.size).size:Int) (t:Int) D br i0 i1 T S w0 (qN S w0 (pW JB D (JM.mk gen fs en sz 0 br) p c T (nu (mr 1 sz 0 (bb i1)++mr 0 sz en (bb i0)))))) (fun V t a3 M=>?_) (fun t a3 M ih=>?_) fun O=>?_
  ·apply El
   rw[wq e1 b4 V];refine yes (by omega) ⟨by omega,fun _=>vT (m:=JM.mk gen fs en sz 0 br) (k:=1) (fr:=0) (ops:=[]) (G:=[]) (Y:=[]) _ _ (by omega) a7 (by omega) (by omega) (ah _) nT.oz rfl (by omega) fun ap ac F' a8 a9 a1 a2=>⟨by omega,?_⟩,fun h=>absurd h M⟩;rintro _ rfl;exact a5 _ _ _ _ _ _ _ a1 a2 rfl (by decide)
  ·apply El
   refine yes (by omega) ⟨by omega,fun h=>absurd M h,fun _=>?_⟩;rw[kS (by omega),show(t:Int)+1=((t+1:Nat):Int)by omega];exact ih
  ·apply El
   rw[wu e1 O];refine no (by omega) ⟨by omega,?_⟩;rintro _ rfl;exact a5 [] none 0 0 T [] [] (ah _) nT.oz rfl (by omega)
theorem PQ {gen:Int}{fs:List dF}{en sz:Nat}{br:Bool}{i0 i1:BA}(a8:sz≤2097152)(c3:i0.size≤2097152)(c4:i1.size≤2097152)(b5:en≤i1.size){W:aj}(b7:Mem (jH JB D ((JM.mk gen fs en sz 1 br).js p c)::T) S w0 W):
  aE TP 46 ⟨[pt JB 0,.agg #[.string i0,.string i1]]⟩ W (qN S w0 (pW JB D (JM.mk gen fs en sz 1 br) p c T (px gen 1 en sz (bb i0) (bb i1)))):=by
 have b9:Mem ((JB,.cells #[.int .i64 gen,.slice p fs.length c,.int .i64 (en:Int),.pointer (SO D),.int .i64 (sz:Int),.int .i64 (1:Int),.bool br] 86)::T) S w0 W:=b7;have b0:(bb i0).length=i0.size:=lB i0;have c2:(bb i1).length=i1.size:=lB i1;have e1:bb (i1.extract (ad (en:Int)) i1.size)=(bb i1).drop en:=by rw[ai];exact xX i1 en
 have b4:(i1.extract (ad (en:Int)) i1.size).size=(bb i1).length-en:=by rw[ai];exact AF b5
 have e0:bb (i0.extract (ad (0:Int)) i0.size)=(bb i0).drop 0:=xX i0 0;have b3:(i0.extract (ad (0:Int)) i0.size).size=(bb i0).length-0:=AF (bx _);rw[px,if_neg (by decide)];have key:∀B M:Nat,(0≤(0:Int)∧(0:Int)≤(i0.size:Int)∧(i0.size:Int)≤i0.size)∧∀a5:BA,a5=(i0.extract (ad (0:Int)) i0.size)→xe JB gen p fs.length c (en:Int) D (sz:Int) br JB B M none 0 0 a5 (a5.size:Int) (0:Int) D br i0 i1 T S w0 (qN S w0 (pW JB D (JM.mk gen fs en sz 1 br) p c T (nu (mr 0 sz 0 (bb i0)++mr 1 sz en (bb i1))))):=by
  intro B M;have a6:∀(ops:List lC) (q:OA) (qc n:Nat) (F G Y:aX),F.Perm (G++(Y++T))→nT JB D ops q qc G→ops.length=n→n≤5→
    vI JB gen p fs.length c (en:Int) D (sz:Int) br JB B M q n qc (i1.extract (ad (en:Int)) i1.size) ((i1.extract (ad (en:Int)) i1.size).size:Int) (0:Int) D br i0 i1 F S w0 (qN S w0 (pW JB D (JM.mk gen fs en sz 1 br) p c T (nu (ops++mr 1 sz en (bb i1))))):=by
   intro ops q qc n F G Y hp a7 hn c5;refine w7 (rest:=(i1.extract (ad (en:Int)) i1.size)) (P:=fun t=>vI JB gen p fs.length c (en:Int) D (sz:Int) br JB B M q n qc (i1.extract (ad (en:Int)) i1.size) ((i1.extract (ad (en:Int)) i1.size).size:Int) (t:Int) D br i0 i1 F S w0 (qN S w0 (pW JB D (JM.mk gen fs en sz 1 br) p c T (nu (ops++mr 1 sz en (bb i1)))))) (fun a1 t a4 O=>?_) (fun t a4 O ih=>?_) fun V=>?_
   ·apply Ef
    rw[wq e1 b4 a1];exact yes (by omega) ⟨by omega,fun _=>vT (m:=JM.mk gen fs en sz 1 br) (k:=1) (fr:=en) _ _ (by omega) a8 (by omega) (by omega) hp a7 hn (by omega) fun ap ac F' a9 b1 a2 a3=>wN (m:=JM.mk gen fs en sz 1 br) (n:=n+1) _ _ a2 a3 (by rw[ae,hn];simp) (by omega),fun h=>absurd h O⟩
   ·apply Ef
    refine yes (by omega) ⟨by omega,fun h=>absurd O h,fun _=>?_⟩;rw[kS (by omega),show(t:Int)+1=((t+1:Nat):Int)by omega];exact ih
   ·apply Ef
    rw[wu e1 V,aL];exact no (by omega) (wN (m:=JM.mk gen fs en sz 1 br) _ _ hp a7 hn (by omega))
  refine⟨by omega,?_⟩;rintro _ rfl;refine w7 (rest:=(i0.extract (ad (0:Int)) i0.size)) (P:=fun t=>xe JB gen p fs.length c (en:Int) D (sz:Int) br JB B M none 0 0 (i0.extract (ad (0:Int)) i0.size) ((i0.extract (ad (0:Int)) i0.size).size:Int) (t:Int) D br i0 i1 T S w0 (qN S w0 (pW JB D (JM.mk gen fs en sz 1 br) p c T (nu (mr 0 sz 0 (bb i0)++mr 1 sz en (bb i1)))))) (fun a1 t a4 O=>?_) (fun t a4 O ih=>?_) fun V=>?_
  ·apply Ez
   rw[wq e0 b3 a1];refine yes (by omega) ⟨by omega,fun _=>vT (m:=JM.mk gen fs en sz 1 br) (k:=0) (fr:=0) (ops:=[]) (G:=[]) (Y:=[]) _ _ (by omega) a8 (by omega) (by omega) (ah _) nT.oz rfl (by omega) fun ap ac F' a9 b1 a2 a3=>⟨by omega,?_⟩,fun h=>absurd h O⟩;rintro _ rfl;exact a6 _ _ _ _ _ _ _ a2 a3 rfl (by decide)
  ·apply Ez
   refine yes (by omega) ⟨by omega,fun h=>absurd O h,fun _=>?_⟩;rw[kS (by omega),show(t:Int)+1=((t+1:Nat):Int)by omega];exact ih
  ·apply Ez
   rw[wu e0 V];refine no (by omega) ⟨by omega,?_⟩;rintro _ rfl;exact a6 [] none 0 0 T [] [] (ah _) nT.oz rfl (by omega)
 exact U6 JB i0 i1 gen p fs.length c (en:Int) D (sz:Int) br T b9 fun B M B2=>⟨fun b6=>key B M,fun b6=>key B M⟩
end cln
abbrev vF (B a:Nat):aX:=[(B,.cells #[IV 0,.slice none 0 0,IV 0] 84),(a,.cells #[.bool false] 4)]
abbrev F9 (B b c:Nat)(f a:Int)(e:Nat)(g:BA)(d:Nat):aX:=[(B,.cells #[IV 0,.slice none 0 0,IV 0] 84),(b,.cells #[.bool false] 4),(c,.cells #[IV f,.slice none 0 0,IV a] 84),(e,.cells #[.string g] 9),(d,.cells #[IV a] 3)]
abbrev oQ (a:dF)(g:OA)(f:Nat)(e:OA)(d:Nat)(c:OA)(b:Nat):Array aa:=⟨a.cells g f e d c b⟩
abbrev kAkq:=(#[IV 0,.slice none 0 0,IV 0]:Array aa)
abbrev kBbq (x0):=((x0,.cells #[.bool false] 4):Nat×Obj)
abbrev kCyq:=(.tuple #[.agg kAkq,.bool false]:aa)
abbrev kDtq (x0 x1 x2 x3 x4):=(.tuple #[.agg #[IV x0,.slice x1 x2 x3,IV x4],.bool true]:aa)
abbrev kElq (x0):=((x0,.cells #[.bool true] 4):Nat×Obj)
theorem Y7 (f:BA)(hm:Mem [] S w0 W)
 (H:
 ∀B c:Nat,
 (0≤(0:Int)∧(0:Int)<f.size)∧
 Br ((k8 f (0:Int))=(0:Int))
 (Fin R [(B,.cells kAkq 84),(kElq c)] S w0 (.tuple #[.agg kAkq,.bool true]))
 (eA TP 82 ⟨[.string f,IV 0,.func (.func 83) #[] #[]]⟩ (vF B c) S w0 (fun v L'=>∃e p z,v=(.tuple #[IV e,IV p,.bool z])∧L'=(vF B c)∧
 Bb (z)
 (Br (e<1)
 (Fin R (vF B c) S w0 kCyq)
 (∀h:Nat,
 eA TP 84 ⟨[.string f,IV p]⟩ [(B,.cells kAkq 84),(kBbq c),(h,.cells #[IV e,.slice none 0 0,IV p] 84)] S w0 (fun v L'=>∃(j:Nat) (q:Nat),v=(.func (.func 120) #[] #[PP q,PP j])∧L'=(F9 B c h e p j f q)∧
 ∀(d m:Nat) (n:Array aa),mF 73 [(0,.string f),(2,PP B),(3,PP c),(7,PP h)] n→
 eA TP 120 ⟨.func (.yield m) #[] #[]::[PP q,PP j]⟩ [(B,.cells kAkq 84),(kBbq c),(h,.cells #[IV e,.slice none 0 0,IV p] 84),(kAtq j f),(q,.cells #[IV p] 3),(d,.deferred (some [])),(m,ma .ready none 45 n (sub (Eng.body bj) [1,1,1,1,1,0,1,0]) d)] S w0 (fun v L'=>(∃(hp:OA) (l:Nat) (k:Nat) (g:Int) (o:aX),L'=((B,.cells kAkq 84)::(kBbq c)::(kAnq h e hp l k g)::(kAtq j f)::(d,.deferred (some []))::(m,ma .ready none 45 n (sub (Eng.body bj) [1,1,1,1,1,0,1,0]) d)::o)∧
 Br (g<(f.size:Int))
 ((0≤g∧g<f.size)∧
 Bn ((k8 f g)=(0:Int))
 (Fin R ((B,.cells kAkq 84)::(kBbq c)::(kAnq h e hp l k g)::(kAtq j f)::(d,.deferred none)::(m,ma .exhausted none 45 n (sub (Eng.body bj) [1,1,1,1,1,0,1,0]) d)::o) S w0 kCyq)
 (Fin R ((kAnq B e hp l k g)::(kElq c)::(kAnq h e hp l k g)::(kAtq j f)::(d,.deferred none)::(m,ma .exhausted none 45 n (sub (Eng.body bj) [1,1,1,1,1,0,1,0]) d)::o) S w0 (kDtq e hp l k g)))
 (Fin R ((kAnq B e hp l k g)::(kElq c)::(kAnq h e hp l k g)::(kAtq j f)::(d,.deferred none)::(m,ma .exhausted none 45 n (sub (Eng.body bj) [1,1,1,1,1,0,1,0]) d)::o) S w0 (kDtq e hp l k g)))∨
 (∃(y:OA) (x:Nat) (w:Nat) (t:Int) (s:aX),L'=((B,.cells kAkq 84)::(kBbq c)::(kAnq h e y x w t)::(kAtq j f)::(d,.deferred (some []))::(m,ma .done (some .ret) 45 n (sub (Eng.body bj) [1,1,1,1,1,0,1,0]) d)::s)∧
 Fin R ((B,.cells kAkq 84)::(kBbq c)::(kAnq h e y x w t)::(kAtq j f)::(d,.deferred none)::(m,ma .exhausted (some .ret) 45 n (sub (Eng.body bj) [1,1,1,1,1,0,1,0]) d)::s) S w0 kCyq)))))
 (Fin R (vF B c) S w0 kCyq)))):
 aE TP 45 ⟨[.string f]⟩ W R:=by
 refine kO.cs 73 ey hm (.ru 2 (.nH (.cells kAkq 84) H fun B H=>(.nH (.cells #[.bool false] 4) H fun c H=>(.ru 5 (.sg (s:=f) (kd:=.i64) (i:=(0:Int)) (by kernel_rfl) H.1 ?_)))))
 replace H:=H.2
 refine .ru 2 (.sP 14 H (fun H=>?_) fun H=>?_)
 ·refine .ru 4 (.st 0 0 (.st 1 0 (.ru 1 (.CJ ey (by kernel_rfl) (n6.qW (a:=2) (b:=3) (T:=84) (U:=4) (u:=.agg kAkq) (v:=.bool true) 0 0 1 0 (by kernel_rfl) (by kernel_rfl)) H))))
 ·refine .ru 5 (.cl H ?_)
  rintro _ _ ⟨e,p,z,rfl,rfl,H⟩;refine .ru 12 (.sB 22 H (fun H=>?_) fun H=>?_)
  ·refine .ru 6 (.sP 27 H (fun H=>?_) fun H=>?_)
   ·refine .nm (KC bj 61) [(0,.string f),(2,PP B),(3,PP c),(4,IV e),(5,IV p),(27,.bool true)] (vF B c) (.ru 4 (.st 0 0 (.st 1 0 (.ru 1 (.CJ ey (by kernel_rfl) (n6.qW (a:=2) (b:=3) (T:=84) (U:=4) (u:=.agg kAkq) (v:=.bool false) 0 0 1 0 (by kernel_rfl) (by kernel_rfl)) H)))))
   ·refine .nm (KC bj 61) [(0,.string f),(2,PP B),(3,PP c),(4,IV e),(5,IV p),(27,.bool false)] (vF B c) (.ru 7 (.nH (.cells kAkq 84) H fun h H=>(.st 2 0 (.ru 6 (.cl H ?_)))))
    rintro _ _ ⟨j,q,rfl,rfl,H⟩;refine .ru 2 (.nm (KC bj 506) [(0,.string f),(2,PP B),(3,PP c),(7,PP h),(34,.func (.func 120) #[] #[PP q,PP j])] (F9 B c h e p j f q) (.rangeFunc (rf:=sub (Eng.body bj) [1,1,1,1,1,0,1,0]) (k':=[.inBlock 0,.code (sub (Eng.body bj) [1,1,1,1,1,1])]) (L1:=(F9 B c h e p j f q)) 120 [PP q,PP j] (e':=[(0,.string f),(2,PP B),(3,PP c),(7,PP h)]) (by kernel_rfl) (fun W m=>by kernel_rfl) (fun d m n A=>?_)));refine eA.mono (H d m n A) ?_;rintro _ _ (⟨hp,l,k,g,o,rfl,H⟩|⟨y,x,w,t,s,rfl,H⟩)
    ·skip
     refine⟨5,.ready,none,rfl,by decide,?_⟩;refine .nm [.inBlock 0,.code (sub (Eng.body bj) [1,1,1,1,1,1])] [(0,.string f),(2,PP B),(3,PP c),(7,PP h)] ((B,.cells kAkq 84)::(kBbq c)::(kAnq h e hp l k g)::(kAtq j f)::(d,.deferred (some []))::(m,ma .exhausted none 45 n (sub (Eng.body bj) [1,1,1,1,1,0,1,0]) d)::o) (.ru 5 (.ld 2 2 (.ru 4 (.sP 64 H (fun H=>?_) fun H=>?_))))
     ·refine .ru 2 (.ld 2 2 (.sg (s:=f) (kd:=.i64) (i:=g) (by kernel_rfl) H.1 ?_))
      replace H:=H.2
      refine .ru 3 (.sN 70 H (fun H=>?_) fun H=>?_)
      ·refine .ru 4 (.st 0 0 (.st 1 0 (.nm (KR bj 2036 []) [(2,PP B),(3,PP c)] ((B,.cells kAkq 84)::(kBbq c)::(kAnq h e hp l k g)::(kAtq j f)::(d,.deferred (some []))::(m,ma .exhausted none 45 n (sub (Eng.body bj) [1,1,1,1,1,0,1,0]) d)::o) (.ru 1 (.AT 4 (D:=d) (v:=kCyq) (L1:=((B,.cells kAkq 84)::(kBbq c)::(kAnq h e hp l k g)::(kAtq j f)::(d,.deferred (some []))::(m,ma .exhausted none 45 n (sub (Eng.body bj) [1,1,1,1,1,0,1,0]) d)::o)) ey (by kernel_rfl) (n6.qW (a:=2) (b:=3) (T:=84) (U:=4) (u:=.agg kAkq) (v:=.bool false) 0 0 1 0 (by kernel_rfl) (by kernel_rfl)) H)))))
      ·refine .ru 4 (.ld 2 0 (.st 0 0 (.nm (KR bj 510 [2]) [(2,PP B),(3,PP c)] ((kAnq B e hp l k g)::(kBbq c)::(kAnq h e hp l k g)::(kAtq j f)::(d,.deferred (some []))::(m,ma .exhausted none 45 n (sub (Eng.body bj) [1,1,1,1,1,0,1,0]) d)::o) (.st 1 0 (.ru 1 (.AT 4 (D:=d) (v:=(kDtq e hp l k g)) (L1:=((kAnq B e hp l k g)::(kElq c)::(kAnq h e hp l k g)::(kAtq j f)::(d,.deferred (some []))::(m,ma .exhausted none 45 n (sub (Eng.body bj) [1,1,1,1,1,0,1,0]) d)::o)) ey (by kernel_rfl) (n6.qW (a:=2) (b:=3) (T:=84) (U:=4) (u:=.agg #[IV e,.slice hp l k,IV g]) (v:=.bool true) 0 0 1 0 (by kernel_rfl) (by kernel_rfl)) H))))))
     ·refine .ru 11 (.ld 2 0 (.st 0 0 (.st 1 0 (.ru 1 (.AT 4 (D:=d) (v:=(kDtq e hp l k g)) (L1:=((kAnq B e hp l k g)::(kElq c)::(kAnq h e hp l k g)::(kAtq j f)::(d,.deferred (some []))::(m,ma .exhausted none 45 n (sub (Eng.body bj) [1,1,1,1,1,0,1,0]) d)::o)) ey (by kernel_rfl) (n6.qW (a:=2) (b:=3) (T:=84) (U:=4) (u:=.agg #[IV e,.slice hp l k,IV g]) (v:=.bool true) 0 0 1 0 (by kernel_rfl) (by kernel_rfl)) H)))))
    ·skip
     refine⟨5,.done,(some .ret),rfl,by decide,?_⟩;refine .nm [.code .ret,.inBlock 0,.code (sub (Eng.body bj) [1,1,1,1,1,1])] [(2,PP B),(3,PP c)] ((B,.cells kAkq 84)::(kBbq c)::(kAnq h e y x w t)::(kAtq j f)::(d,.deferred (some []))::(m,ma .exhausted (some .ret) 45 n (sub (Eng.body bj) [1,1,1,1,1,0,1,0]) d)::s) (.AT 4 (D:=d) (v:=kCyq) (L1:=((B,.cells kAkq 84)::(kBbq c)::(kAnq h e y x w t)::(kAtq j f)::(d,.deferred (some []))::(m,ma .exhausted (some .ret) 45 n (sub (Eng.body bj) [1,1,1,1,1,0,1,0]) d)::s)) ey (by kernel_rfl) (n6.qW (a:=2) (b:=3) (T:=84) (U:=4) (u:=.agg kAkq) (v:=.bool false) 0 0 1 0 (by kernel_rfl) (by kernel_rfl)) H)
  ·refine .ru 10 (.st 0 0 (.nm (KR bj 244 [2]) [(2,PP B),(3,PP c)] (vF B c) (.st 1 0 (.ru 1 (.CJ ey (by kernel_rfl) (n6.qW (a:=2) (b:=3) (T:=84) (U:=4) (u:=.agg kAkq) (v:=.bool false) 0 0 1 0 (by kernel_rfl) (by kernel_rfl)) H)))))
theorem WO (s:BA)(B h b u:Nat)(w:Int)(hp:OA)(q t:Nat)(z:Int)(N:aX)(M:BA)(C:Int)(a e:Nat)(g:Array aa){K:aa→aX→Prop}(V:mF 73 [(0,.string s),(2,PP B),(3,PP h),(7,PP b)] g)
 (H:
 eA TP 85 ⟨[.string M]⟩ ((B,.cells kAkq 84)::(kBbq h)::(kAnq b w hp q t z)::(kAtq u s)::(a,.deferred (some []))::(e,ma .busy none 45 g (sub (Eng.body bj) [1,1,1,1,1,0,1,0]) a)::N) S w0 (fun v L'=>∃(d:dF) (o:OA) (m:Nat) (l:OA) (k:Nat) (j:OA) (i:Nat),∃F A,v=(.tuple #[.agg (oQ d o m l k j i),IV F])∧L'=((B,.cells kAkq 84)::(kBbq h)::(kAnq b w hp q t z)::(kAtq u s)::(a,.deferred (some []))::(e,ma .busy none 45 g (sub (Eng.body bj) [1,1,1,1,1,0,1,0]) a)::A)∧
 ∀y:Nat,
 Bn (F=0)
 (K (.bool false) ((y,.cells (oQ d o m l k j i) 38)::(B,.cells kAkq 84)::(kBbq h)::(kAnq b w hp q t z)::(kAtq u s)::(a,.deferred (some []))::(e,ma .done (some .ret) 45 g (sub (Eng.body bj) [1,1,1,1,1,0,1,0]) a)::A))
 (∃(Q:Int),(lV TP 53 ⟨[PP b]⟩ ((y,.cells (oQ d o m l k j i) 38)::(B,.cells kAkq 84)::(kBbq h)::(kAnq b w hp q t z)::(kAtq u s)::(a,.deferred (some []))::(e,ma .busy none 45 g (sub (Eng.body bj) [1,1,1,1,1,0,1,0]) a)::A) S w0 (IV Q))∧
 Bn (d.n=Q)
 (K (.bool false) ((y,.cells (oQ d o m l k j i) 38)::(B,.cells kAkq 84)::(kBbq h)::(kAnq b w hp q t z)::(kAtq u s)::(a,.deferred (some []))::(e,ma .done (some .ret) 45 g (sub (Eng.body bj) [1,1,1,1,1,0,1,0]) a)::A))
 (∀D:Nat,
 mM TP 23 22 22 (.slice hp q t) (1) (d.cells o m l k j i) ((D,.cells (oQ d o m l k j i) 38)::(y,.cells (oQ d o m l k j i) 38)::(B,.cells kAkq 84)::(kBbq h)::(kAnq b w hp q t z)::(kAtq u s)::(a,.deferred (some []))::(e,ma .busy none 45 g (sub (Eng.body bj) [1,1,1,1,1,0,1,0]) a)::A) S w0 (fun v L'=>∃(ap:OA) (E:Nat),∃G,v=(.slice ap (q+1) E)∧L'=((y,.cells (oQ d o m l k j i) 38)::(B,.cells kAkq 84)::(kBbq h)::(kAnq b w hp q t z)::(kAtq u s)::(a,.deferred (some []))::(e,ma .busy none 45 g (sub (Eng.body bj) [1,1,1,1,1,0,1,0]) a)::G)∧
 K (.bool true) ((y,.cells (oQ d o m l k j i) 38)::(B,.cells kAkq 84)::(kBbq h)::(b,.cells #[IV w,.slice ap (q+1) E,IV C] 84)::(kAtq u s)::(a,.deferred (some []))::(e,ma .ready none 45 g (sub (Eng.body bj) [1,1,1,1,1,0,1,0]) a)::G)))))):
 oD TP e ⟨[.string M,IV C]⟩ ((B,.cells kAkq 84)::(kBbq h)::(kAnq b w hp q t z)::(kAtq u s)::(a,.deferred (some []))::(e,ma .ready none 45 g (sub (Eng.body bj) [1,1,1,1,1,0,1,0]) a)::N) S w0 K:=by
 refine oD.of (f:=45) (nt:=73) (l:=e) (D:=a) (t:=g) (rf:=sub (Eng.body bj) [1,1,1,1,1,0,1,0]) (e1:=[(36,IV C),(35,.string M),(0,.string s),(2,PP B),(3,PP h),(7,PP b)]) (k1:=[.code (sub (Eng.body bj) [1,1,1,1,1,0,1,0,0]),.beginRound,.code (sub (Eng.body bj) [1,1,1,1,1,0,1,0,1])]) 5 V (by kernel_rfl) (by kernel_rfl) ?_;refine .ru 7 (.begin 5 (l:=e) (D:=a) (f':=45) (t:=g) (rf:=sub (Eng.body bj) [1,1,1,1,1,0,1,0]) (k':=[.code (sub (Eng.body bj) [1,1,1,1,1,0,1,0,1])]) (by kernel_rfl) (.nm [.code (sub (Eng.body bj) [1,1,1,1,1,0,1,0,1])] [(2,PP B),(3,PP h),(7,PP b),(8,.string M),(9,IV C)] ((B,.cells kAkq 84)::(kBbq h)::(kAnq b w hp q t z)::(kAtq u s)::(a,.deferred (some []))::(e,ma .busy none 45 g (sub (Eng.body bj) [1,1,1,1,1,0,1,0]) a)::N) (.ru 4 (.cl H ?_))));rintro _ _ ⟨d,o,m,l,k,j,i,F,A,rfl,rfl,H⟩;refine .ru 3 (.nH (.cells kAjq 38) H fun y H=>(.front (.store 0 0 (T:=38) (v:=.agg (oQ d o m l k j i)) (by kernel_rfl) (.ru 4 (.nm [.code (sub (Eng.body bj) [1,1,1,1,1,0,1,0,1,0,1,0,0]),.code (sub (Eng.body bj) [1,1,1,1,1,0,1,0,1,0,1,0,1]),.code (sub (Eng.body bj) [1,1,1,1,1,0,1,0,1,0,1,1]),.inBlock 1] [(2,PP B),(3,PP h),(7,PP b),(9,IV C),(10,PP y),(11,IV F)] ((y,.cells (oQ d o m l k j i) 38)::(B,.cells kAkq 84)::(kBbq h)::(kAnq b w hp q t z)::(kAtq u s)::(a,.deferred (some []))::(e,ma .busy none 45 g (sub (Eng.body bj) [1,1,1,1,1,0,1,0]) a)::A) (.dr 8 (.pu (.pu (.pu (.DY 44 (p:=F=0) (by kernel_rfl) (fun O=>?_) (fun O=>?_)))))))))))
 ·replace H:=H.1 O
  refine .sk (.sk (.sk (.sk (.pu (.dn (.ru 5 (.store 1 0 (T:=84) (v:=.agg kAkq) (by kernel_rfl) (.store 2 0 (T:=4) (v:=.bool false) (by kernel_rfl) (.ru 1 (.I9 6 (l:=e) (D:=a) (f':=45) (t:=g) (rf:=sub (Eng.body bj) [1,1,1,1,1,0,1,0]) (st:=.busy) (L1:=((y,.cells (oQ d o m l k j i) 38)::(B,.cells kAkq 84)::(kBbq h)::(kAnq b w hp q t z)::(kAtq u s)::(a,.deferred (some []))::(e,ma .busy none 45 g (sub (Eng.body bj) [1,1,1,1,1,0,1,0]) a)::A)) (c:=.ret) (by kernel_rfl) ?_))))))))));exact H
 ·replace H:=H.2 O
  refine .pu (.ld 0 0 ?_);obtain⟨Q,X,H⟩:=H;refine .cl X (.pu (.pu (.dn (.ru 1 (.sN 49 H (fun H=>?_) fun H=>?_)))))
  ·refine .ru 4 (.store 1 0 (T:=84) (v:=.agg kAkq) (by kernel_rfl) (.store 2 0 (T:=4) (v:=.bool false) (by kernel_rfl) (.ru 1 (.I9 6 (l:=e) (D:=a) (f':=45) (t:=g) (rf:=sub (Eng.body bj) [1,1,1,1,1,0,1,0]) (st:=.busy) (L1:=((y,.cells (oQ d o m l k j i) 38)::(B,.cells kAkq 84)::(kBbq h)::(kAnq b w hp q t z)::(kAtq u s)::(a,.deferred (some []))::(e,ma .busy none 45 g (sub (Eng.body bj) [1,1,1,1,1,0,1,0]) a)::A)) (c:=.ret) (by kernel_rfl) ?_))))
   exact H
  ·refine .ru 5 (.ld 3 1 (.ld 0 0 (.nw (fun B=>.slice (SO B) 1 1) (.cells (oQ d o m l k j i) 38) fun D=>?_)))
   replace H:=H D
   refine .front (.nm [.inRegion (m7 [.code (sub (Eng.body bj) [1,1,1,1,1,0,1,0,1,0,1,1,0])]) [4,5,6],.code (sub (Eng.body bj) [1,1,1,1,1,0,1,0,1,0,1,1,1]),.inBlock 1] [(2,PP B),(3,PP h),(7,PP b),(9,IV C),(52,.slice hp q t),(54,.slice (SO D) 1 1)] ((D,.cells (oQ d o m l k j i) 38)::(y,.cells (oQ d o m l k j i) 38)::(B,.cells kAkq 84)::(kBbq h)::(kAnq b w hp q t z)::(kAtq u s)::(a,.deferred (some []))::(e,ma .busy none 45 g (sub (Eng.body bj) [1,1,1,1,1,0,1,0]) a)::A) (.vy (sz:=23) (T:=22) (U:=22) (s:=.slice hp q t) (x:=.slice (SO D) 1 1) (1) (d.cells o m l k j i) (by kernel_rfl) (yf (E':=38) (t:=38) (fz:=(0,0)) (c:=(d.cells o m l k j i)) (by simp) (by kernel_rfl) (by simp) (by simp[ic])) H ?_));rintro _ _ ⟨ap,E,G,rfl,rfl,H⟩;refine .ru 1 (.store 3 1 (T:=22) (v:=.slice ap (q+1) E) (by kernel_rfl) (.ru 4 (.store 3 2 (T:=3) (v:=IV C) (by kernel_rfl) (.ru 2 (.endRound 6 (l:=e) (D:=a) (f':=45) (t:=g) (rf:=sub (Eng.body bj) [1,1,1,1,1,0,1,0]) (st:=.busy) (L1:=((y,.cells (oQ d o m l k j i) 38)::(B,.cells kAkq 84)::(kBbq h)::(b,.cells #[IV w,.slice ap (q+1) E,IV C] 84)::(kAtq u s)::(a,.deferred (some []))::(e,ma .busy none 45 g (sub (Eng.body bj) [1,1,1,1,1,0,1,0]) a)::G)) (by kernel_rfl) ?_)))));exact H
end Go.Eng
