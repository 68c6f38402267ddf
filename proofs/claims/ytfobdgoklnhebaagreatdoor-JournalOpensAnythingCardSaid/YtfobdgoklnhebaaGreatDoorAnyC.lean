/- A part. -/
import Derived.Test.YtfobdgoklnhebaaGreatDoorChecked
import Derived.RangeFuncNested
import Derived.RangeFuncBound
import Derived.Shelf.RegionOpen
import Derived.OwnWalkIn
import Derived.LoopNIn
import Derived.LoopIn
import Derived.Lib.Hide
import Derived.Test.YtfobdgoklnhebaaGreatDoorAnyB
set_option linter.unusedVariables false
set_option linter.unusedSimpArgs false
set_option maxRecDepth 100000
open Array renaming toList_inj→bR,getElem?_modify→dz,replicate_succ→fU,replicate_zero→fV
open Bool renaming false_and→aF,true_and→aH,and_eq_true→av,and_false→bz,false_eq_true→dV
open Go renaming Program→aB,Calls→aE,Value→aa,World→aj,Ending→bJ
open Go.Instr renaming sliceAt→iM
open Go.IntKind renaming i64→ab,u64→bs,u8→cr,u32→fN
open Go.KeepsOthers renaming setCell→eJ
open Go.Lib renaming hid→ku
open Go.Obj renaming cells→bu
open Go.Oper renaming semAt_some→kB
open Go.Proofs.Tryz renaming func172→bf,prog→bm,func165→dH,f172→dd,func150→fZ,func119→fi,f128→fo,f119→gQ,f171→gR,func109→ga,f165→gj,func60→gw,func124→iQ,func141→iR,func164→iS,func128→iT,func55→jq,func93→jr
open Go.Result renaming andThen_ok→bw
open Go.RowKit renaming Below→ej
open Go.RowKit.Below renaming heap_alloc→ee,refl→fI,heap_setCell→jF
open Go.Value renaming bool→dq,int→ef
open Go.World renaming alloc_heap_new→dC,cell?→eV,frozen?→iK,size_alloc→jV,setCell→kI
open Int renaming toNat→ad,toNat_natCast→ai,toNat_of_nonneg→dM
open List renaming replicate→aA,drop_eq_getElem_cons→aG,length_cons→aI,take_of_length_le→aK,append_nil→aL,length_eq_zero_iff→aQ,nil_append→aT,drop_zero→aU,cons_append→aY,length_drop→aZ,length_append→ae,mem_cons_of_mem→ag,mem_append_right→ak,append_assoc→an,length_take→ao,getElem?_eq_getElem→ar,mem_cons_self→au,perm_append_comm→aw,drop_of_length_le→ax,mem_append_left→ay,not_mem_nil→bG,getElem_mem→bH,foldl_cons→bS,mem_cons→bT,mem_map→bV,flatMap_cons→bq,length_nil→bt,map_append→cE,flatMap_nil→cF,mem_singleton→cK,drop_drop→cV,nodup_append→cm,mem_append→cn,take_append_drop→dK,mem_map_of_mem→da,map_cons→dk,size_toArray→ec,getElem_take→fO,map_nil→fh,mem_of_mem_take→ft,push_toArray→gG,take_add_one→gH,take_left→gN,append_toArray→gk,flatMap_append→jG
open List.Perm renaming refl→ah
open Nat renaming le_refl→aD,zero_add→az,le_trans→bC,mul_le_mul_right→bI,eq_zero_or_pos→bX,zero_le→bx,pow_succ→cY,mod_eq_of_lt→dB,div_lt_iff_lt_mul→eT,add_assoc→ei,mul_one→ez,reduceAdd→iI,reduceSub→iJ,mul_lt_mul_of_pos_right→im,pow_le_pow_right→jE,pow_pos→jK
open Option renaming map_some→bL,isSome_none→jn
open Option.some renaming injEq→al
open Prod.mk renaming injEq→af
open UInt8 renaming ofNat→bg
namespace Go.Eng
open Go Go.RowKit Go.Proofs
variable {P:Program}{R:Ending→World→Prop}{S:List Nat}{w0 W:World}{lk:Lk}{tp bp ap:OA}{tc bc ac:Nat}{K K':Value→aX→Prop}{args:Array Value}{g:FuncId}
noncomputable abbrev TP:aB:=bm
noncomputable abbrev VP (S:List Nat)(w0:aj)(R:bJ→aj→Prop)(t:VC ⟨TP,S,w0,R⟩):Prop:=t.pr
abbrev sZ:aa:=.string ⟨#[]⟩
abbrev zV1aa:Array aa:= #[.int .u8 0,.int .u8 0,.int .u8 0,.int .u8 0,.int .u8 0,.int .u8 0,.int .u8 0,.int .u8 0,.int .u8 0,.int .u8 0]
abbrev kCrq (x0 x1 x2):=(.tuple #[IV x0,IV x1,IV x2]:aa)
abbrev kDlq:=(.tuple #[sZ,IV 0,IV 10]:aa)
theorem OD (c:BA)(e:Int)(hm:Mem [] [] w0 W)(H:VP [] w0 R (.cl 10 83 [.string c,IV e] []<|.x3 fun a b d=>.rt (kCrq a b d) []<|.I 14 18 (d=0) (.re 8 (.tuple #[sZ,IV 0,IV d]) [])<|.P 8 22 (a<0) (.re 19 kDlq [])<|.P 4 26 (65536<a) (.re 15 kDlq [])<|.P 8 33 ((ab.wrap ((c.size:Int)-b))<a) (.re 7 kDlq [])<|.r 9<|.ss c b (ab.wrap (b+a))<|.ls 4 4 (c.extract (ad b) (ad (ab.wrap (b+a)))) fun f=>.li 1 5 (ab.wrap (b+a)) fun g=>.re 2 (.tuple #[.string f,IV g,IV 0]) [])):aE TP 122 ⟨[.string c,IV e]⟩ W R:=VC.cs Tryz.func122 hm _ H
noncomputable def AH (b:BA)(a d c:Int):Cut:=⟨TP,[],83,62,(KC Tryz.f83 244),[(0,.string b),(1,IV a),(7,.int .u64 d),(8,IV c)],[]⟩
abbrev kBpq:=(.tuple #[IV 0,IV 0,IV 10]:aa)
abbrev kEdq (x0 x1):=(.tuple #[IV x0,IV x1,IV 0]:aa)
theorem MY (f:BA)(b h a:Int)(H:VP [] w0 R (.P 6 20 (a<63) (.P 12 26 (b=(f.size:Int)) (.re 7 kBpq [])<|.r 6<|.ix f b<|.r 1<|.oY (kd:=.u8) 9 (k8 f b) fun d=>.li 6 1 (ab.wrap (b+1)) fun c=>.r 8<|.sl .u64 .i64 (bs.wrap (d.tmod 128)) a<|.r 2<|.oY (kd:=.u64) 7 (M3 .u64 h (bs.wrap ((bs.wrap (d.tmod 128))*2^(min (ad a) 64)))) fun g=>.P 7 40 (128≤d) (.li 6 8 (ab.wrap (a+7)) fun i=>.ct 2 [] (AH f c g i))<|.li 8 10 (ab.wrap (bs.wrap (g.tdiv 2))) fun e=>.P 8 46 ((g.tmod 2)=1) (.li 6 10 (ab.wrap ((ab.wrap (0-e))-1)) fun n1=>.P 7 52 (d=0) (.P 4 56 (0<a) (.re 11 kBpq [])<|.P 4 59 (n1<(-4611686018427387903:Int)) (.re 7 kBpq [])<|.re 10 (kEdq n1 c) [])<|.P 8 59 (n1<(-4611686018427387903:Int)) (.re 7 kBpq [])<|.re 10 (kEdq n1 c) [])<|.P 8 52 (d=0) (.P 4 56 (0<a) (.re 11 kBpq [])<|.P 4 59 (e<(-4611686018427387903:Int)) (.re 7 kBpq [])<|.re 10 (kEdq e c) [])<|.P 8 59 (e<(-4611686018427387903:Int)) (.re 7 kBpq [])<|.re 10 (kEdq e c) [])<|.re 8 kBpq [])):AH f b h a w0 R:=VC.go Tryz.func83 _ H
abbrev kEoq:=(.tuple #[IV 0,IV 0,IV 2]:aa)
theorem Pm (b:BA)(a:Int)(hm:Mem [] [] w0 W)(H:VP [] w0 R (.P 12 13 (a<0) (.re 13 kEoq [])<|.P 6 18 ((b.size:Int)<a) (.re 7 kEoq [])<|.ct 13 [] (AH b a 0 0))):aE TP 83 ⟨[.string b,IV a]⟩ W R:=VC.cs Tryz.func83 hm _ H
abbrev kBcq (x0 x1):=(.tuple #[.string x0,IV x1]:aa)
abbrev kCjq (x0):=(.tuple #[.string x0,IV 0]:aa)
theorem Qk (a:BA)(hm:Mem [] [] w0 W)(H:VP [] w0 R (.P 12 8 (65536<(a.size:Int)) (.re 6 (.tuple #[sZ,IV 10]) [])<|.cl 6 48 [IV (a.size:Int)] []<|.x2 fun b c=>.rt (kBcq b c) []<|.I 12 16 (c=0) (.re 7 (.tuple #[sZ,IV c]) [])<|.r 6<|.cc b a<|.ls 1 2 (b++a) fun d=>.re 2 (kCjq d) [])):aE TP 91 ⟨[.string a]⟩ W R:=VC.cs Tryz.func91 hm _ H
theorem Vn (c:BA)(e:Int)(hm:Mem [] [] w0 W)(H:VP [] w0 R (.cl 10 155 [.string c,IV e] []<|.x3 fun a b d=>.rt (kCrq a b d) []<|.I 14 18 (d=0) (.re 8 (.tuple #[sZ,IV 0,IV d]) [])<|.P 8 22 (a<0) (.re 19 kDlq [])<|.P 4 26 (65536<a) (.re 15 kDlq [])<|.P 8 33 ((ab.wrap ((c.size:Int)-b))<a) (.re 7 kDlq [])<|.r 9<|.ss c b (ab.wrap (b+a))<|.ls 4 4 (c.extract (ad b) (ad (ab.wrap (b+a)))) fun f=>.li 1 5 (ab.wrap (b+a)) fun g=>.re 2 (.tuple #[.string f,IV g,IV 0]) [])):aE TP 156 ⟨[.string c,IV e]⟩ W R:=VC.cs Tryz.func156 hm _ H
noncomputable def Ca (c:BA)(a d b:Int):Cut:=⟨TP,[],155,80,(KC Tryz.f155 244),[(0,.string c),(1,IV a),(7,.int .u64 d),(8,IV b)],[]⟩
theorem GX (c:BA)(a k b:Int)(H:VP [] w0 R (.P 6 23 (b<9) (.P 8 30 ((ab.wrap (a+b))<(c.size:Int)) (.r 10<|.ix c (ab.wrap (a+b))<|.r 2<|.oY (kd:=.u64) 9 (bs.wrap (k8 c (ab.wrap (a+b)))) fun d=>.r 8<|.sl .u64 .i64 (d.tmod 128) (ab.wrap (7*b))<|.r 2<|.oY (kd:=.u64) 7 (bs.wrap (k+(bs.wrap ((d.tmod 128)*2^(min (ad (ab.wrap (7*b))) 64))))) fun f=>.P 7 47 (128≤d) (.li 6 8 (ab.wrap (b+1)) fun l=>.ct 2 [] (Ca c a f l))<|.li 8 10 (ab.wrap (bs.wrap (f.tdiv 2))) fun e=>.P 8 53 ((f.tmod 2)=1) (.li 6 10 (ab.wrap ((ab.wrap (0-e))-1)) fun n1=>.cl 4 55 [IV n1] []<|.x2 fun g h=>.rt (kBcq g h) []<|.I 12 64 (h=0) (.re 18 kBpq [])<|.r 7<|.ss c a (ab.wrap ((ab.wrap (a+b))+1))<|.sN 3 74 g (c.extract (ad a) (ad (ab.wrap ((ab.wrap (a+b))+1)))) (.re 7 kBpq [])<|.li 11 5 (ab.wrap ((ab.wrap (a+b))+1)) fun m=>.re 2 (kEdq n1 m) [])<|.cl 5 55 [IV e] []<|.x2 fun i j=>.rt (kBcq i j) []<|.I 12 64 (j=0) (.re 18 kBpq [])<|.r 7<|.ss c a (ab.wrap ((ab.wrap (a+b))+1))<|.sN 3 74 i (c.extract (ad a) (ad (ab.wrap ((ab.wrap (a+b))+1)))) (.re 7 kBpq [])<|.li 11 5 (ab.wrap ((ab.wrap (a+b))+1)) fun n=>.re 2 (kEdq e n) [])<|.re 8 kBpq [])<|.re 16 kBpq [])):Ca c a k b w0 R:=VC.go Tryz.func155 _ H
theorem ZB (b:BA)(a:Int)(hm:Mem [] [] w0 W)(H:VP [] w0 R (.P 12 15 (a<0) (.re 13 kEoq [])<|.P 6 20 ((b.size:Int)<a) (.re 7 kEoq [])<|.ct 13 [] (Ca b a 0 0))):aE TP 155 ⟨[.string b,IV a]⟩ W R:=VC.cs Tryz.func155 hm _ H
theorem PU (a:BA)(hm:Mem [] [] w0 W)(H:VP [] w0 R (.P 12 8 (65536<(a.size:Int)) (.re 6 (.tuple #[sZ,IV 10]) [])<|.cl 6 55 [IV (a.size:Int)] []<|.x2 fun b c=>.rt (kBcq b c) []<|.r 10<|.cc b a<|.ls 1 2 (b++a) fun d=>.re 2 (kCjq d) [])):aE TP 58 ⟨[.string a]⟩ W R:=VC.cs Tryz.func58 hm _ H
theorem Qu (a:Int)(hm:Mem [] [] w0 W)(H:VP [] w0 R (.P 10 4 (a<0) (.r 9<|.oY (kd:=.u64) 2 (bs.wrap ((bs.wrap ((bs.wrap (ab.wrap (0-a)))*2))-1)) fun b=>.re 1 (.int .u64 b) [])<|.r 8<|.oY (kd:=.u64) 2 (bs.wrap ((bs.wrap a)*2)) fun c=>.re 1 (.int .u64 c) [])):aE TP 92 ⟨[IV a]⟩ W R:=VC.cs Tryz.func92 hm _ H
theorem SY (a:Int)(hm:Mem [] [] w0 W)(H:VP [] w0 R (.P 11 10 (a<(-4611686018427387903:Int)) (.re 10 (.tuple #[sZ,IV 10]) [])<|.P 4 13 (4611686018427387903<a) (.re 6 (.tuple #[sZ,IV 10]) [])<|.r 8<|.oY (kd:=.u64) 4 (bs.wrap (2*(bs.wrap a))) fun i=>.P 7 18 (a<0) (.r 8<|.oY (kd:=.u64) 4 (bs.wrap ((bs.wrap (2*(bs.wrap (ab.wrap (0-a)))))-1)) fun j=>.np 3 (.cells zV1aa 142) fun B=>.np 3 (.cells #[IV 0] 3) fun d=>.hp [(B,.cells zV1aa 142),(d,.cells #[IV 0] 3)] fun b=>.ru [201]<|.cl 5 87 [.int .u64 j] b<|.ex fun g=>.rt (g) b<|.ff)<|.np 4 (.cells zV1aa 142) fun e=>.np 3 (.cells #[IV 0] 3) fun f=>.hp [(e,.cells zV1aa 142),(f,.cells #[IV 0] 3)] fun c=>.ru [201]<|.cl 5 87 [.int .u64 i] c<|.ex fun h=>.rt (h) c<|.ff)):aE TP 48 ⟨[IV a]⟩ W R:=VC.cs Tryz.func48 hm _ H
end Go.Eng
namespace Wire
def mv:Nat→Nat→List Nat
 |0,z=>[z%256]
 |f+1,z=>if z<128 then [z]else(z%128+128)::mv f (z/128)
def mL (f z:Nat):List Int:=(mv f z).map Int.ofNat
def og (n:Int):Nat:=if n<0 then(-n).toNat*2-1 else n.toNat*2
def nJ (z:Nat):Int:=if z%2=1 then-((z/2:Nat):Int)-1 else((z/2:Nat):Int)
def nY:Int:=4611686018427387903
def lU (n:Int):Prop:= -nY≤n∧n≤nY
instance (n:Int):Decidable (lU n):=inferInstanceAs (Decidable (_∧_))
def enc (n:Int):List UInt8:=(mv 9 (og n)).map bg
def oq:Nat→Nat→Nat→List UInt8→Option (Int×Nat)
 |0,_,_,_=>none
 |_+1,_,_,[]=>none
 |g+1,i,z,b::r=>
  if 128≤b.toNat then(oq g (i+1) (z+b.toNat%128*128^i) r).map fun p=>(p.1,p.2+1)
  else if(b.toNat=0∧0<i)∨nJ (z+b.toNat%128*128^i)< -nY then none
  else some (nJ (z+b.toNat%128*128^i),1)
def ml (l:List UInt8):Option (Int×Nat):=oq 9 0 0 l
theorem MU {n:Int}(h:lU n):og n<9223372036854775807:=by
 unfold lU nY at h;unfold og;split<;>omega
theorem Mz (n:Int):nJ (og n)=n:=by
 unfold nJ og;split<;>split<;>omega
theorem Rq (z:Nat):og (nJ z)=z:=by
 unfold nJ;split
 ·unfold og;rw[if_pos (by omega)];omega
 ·unfold og;rw[if_neg (by omega)];omega
theorem EW:∀(f z:Nat),(mv f z).length≤f+1
 |0,z=>by simp[mv]
 |f+1,z=>by
  unfold mv;split
  ·simp
  ·have:=EW f (z/128);simp;omega
theorem Mo:∀(g i z y:Nat) (r:List UInt8),y<128^(g+1)→(0<i→0<y)→-nY≤nJ (z+y*128^i)→
  oq (g+1) i z ((mv g y).map bg++r)=some (nJ (z+y*128^i),(mv g y).length)
 |0,i,z,y,r,hy,hi,hm=>by
  have a3:y<128:=by simpa using hy
  have M:(bg (y%256)).toNat=y:=by simp;omega
  simp only[mv,dk,fh,aY,aT,oq,M];rw[if_neg (by omega)];have O:y%128=y:=dB a3;rw[O,if_neg (by intro h;rcases h with h|h;exact absurd (hi h.2) (by omega);omega)];rfl
 | g +1,i,z,y,r,hy,hi,hm=>by
  unfold mv;split
  ·next h=>
   have M:(bg y).toNat=y:=by simp;omega
   simp only[dk,fh,aY,aT,oq,M];rw[if_neg (by omega)];have O:y%128=y:=dB h;rw[O,if_neg (by intro h;rcases h with h|h;exact absurd (hi h.2) (by omega);omega)];rfl
  ·next h=>
   have M:(bg (y%128+128)).toNat=y%128+128:=by simp;omega
   simp only[dk,aY];have V:z+y*128^i=(z+y%128*128^i)+y/128*128^(i+1):=by
    have a1:y=y%128+y/128*128:=by omega
    have a4:y*128^i=y%128*128^i+y/128*128^(i+1):=by
     rw[cY];have a2:y*128^i=(y%128+y/128*128)*128^i:=by rw[←a1]
     rw[a2,Nat.add_mul,Nat.mul_assoc,Nat.mul_comm 128 (128^i)]
    omega
   have ih:=Mo g (i+1) (z+y%128*128^i) (y/128) r (by rw[eT (by omega)];rw[cY]at hy;exact hy) (fun _=>by omega) (by rw[←V];exact hm)
   conv=>lhs;unfold oq
   simp only[M];rw[if_pos (by omega)];have O:(y%128+128)%128=y%128:=by omega
   rw[O,ih,←V];simp
theorem v8 {n : Int} (h :lU n)(r:List UInt8):ml (enc n++r)=some (n,(enc n).length):=by
  have M:=MU h

  have key:∀(f z:Nat),z<128^(f+1)→mv (f+1) z=mv f z:=by
    intro f;induction f with
    |zero=>intro z M;simp at M;simp[mv,M];omega
    | succ f ih=>
      intro z M;have:mv (f+1+1) z=if z<128 then [z]else(z%128+128)::mv (f+1) (z/128):=rfl
      rw[this];have O:mv (f+1) z=if z<128 then [z]else(z%128+128)::mv f (z/128):=rfl
      rw[O];split
      · rfl
      · rw[ih (z/128) (by rw[eT (by omega)];rw[cY]at M;exact M)]
  unfold ml enc;rw [key 8 (og n) (by
                        have:(128:Nat)^(8+1)=9223372036854775808:=by decide
                        omega)]
  have:=Mo 8 0 0 (og n) r (by
                                       have:(128:Nat)^(8+1)=9223372036854775808:=by decide
                                       omega) (by omega) (by simp[Mz];exact h.1)
  simpa[Mz]using this
theorem Nv:∀(g i z:Nat) (l:List UInt8) (n:Int) (k:Nat),oq (g+1) i z l=some (n,k)→
  ∃y,n=nJ (z+y*128^i)∧y<128^(g+1)∧l.take k=(mv g y).map bg∧k=(mv g y).length∧k≤l.length∧(0<i→0<y)∧-nY≤n
 |0,i,z,[],n,k,h=>by simp[oq]at h
 | 0,i,z,b::r,n,k,h=>by
  simp only[oq]at h;split at h
  ·simp at h
  ·next hb=>
   split at h
   ·cases h
   ·next hc=>
    simp only[al,af]at h;obtain⟨rfl,rfl⟩:=h;have O:b.toNat<128:=by omega
    have a1:b.toNat%128=b.toNat:=dB O;rw[a1]at hc ⊢;refine⟨b.toNat,rfl,by simpa using O,?_,by simp[mv],by simp,fun hi=>?_,?_⟩
    ·have:b.toNat%256=b.toNat:=by omega
     simp[mv,this]
    ·rcases bX b.toNat with h0|h0
     ·exact absurd (Or.inl ⟨h0,hi⟩) hc
     ·exact h0
    ·rcases Int.lt_or_le (nJ (z+b.toNat*128^i)) (-nY)with h0|h0
     ·exact absurd (Or.inr h0) hc
     ·exact h0
 |g+1,i,z,[],n,k,h=>by simp[oq]at h
 | g +1,i,z,b::r,n,k,h=>by
  unfold oq at h;split at h
  ·next hb=>
   rw[Option.map_eq_some_iff]at h;obtain⟨⟨n',k'⟩,V,M⟩:=h;simp only[af]at M;obtain⟨rfl,rfl⟩:=M;obtain⟨y,hn,a9,a5,a7,a8,a4,hm⟩:=Nv g (i+1) _ r n' k' V;have b1:=a4 (by omega);have a6:b.toNat<256:=b.toNat_lt;refine⟨b.toNat%128+y*128,?_,?_,?_,?_,?_,fun _=>by omega,hm⟩
   ·rw[hn]
    congr 1;rw[Nat.add_mul,Nat.mul_assoc,cY,Nat.mul_comm (128^i) 128];omega
   ·rw[cY]
    omega
   ·unfold mv
    rw[if_neg (by omega)];have V:(b.toNat%128+y*128)%128=b.toNat%128:=by omega
    have M:(b.toNat%128+y*128)/128=y:=by omega
    rw[V,M];have a3:b.toNat%128+128=b.toNat:=by omega
    rw[a3];simp[a5]
   ·unfold mv
    rw[if_neg (by omega)];have M:(b.toNat%128+y*128)/128=y:=by omega
    rw[M];simp;omega
   ·simp;omega
  ·next hb=>
   split at h
   ·cases h
   ·next hc=>
    simp only[al,af]at h;obtain⟨rfl,rfl⟩:=h;have O:b.toNat<128:=by omega
    have a1:b.toNat%128=b.toNat:=dB O;rw[a1]at hc ⊢;have a2:mv (g+1) b.toNat=[b.toNat]:=by unfold mv;rw[if_pos O]
    refine⟨b.toNat,rfl,?_,?_,by rw[a2];rfl,by simp,fun hi=>?_,?_⟩
    ·have:(128:Nat)≤128^(g+1+1):=by
      rw[cY];exact Nat.le_mul_of_pos_left 128 (jK (by omega))
     omega
    ·rw[a2];simp
    ·rcases bX b.toNat with h0|h0
     ·exact absurd (Or.inl ⟨h0,hi⟩) hc
     ·exact h0
    ·rcases Int.lt_or_le (nJ (z+b.toNat*128^i)) (-nY)with h0|h0
     ·exact absurd (Or.inr h0) hc
     ·exact h0
theorem Xe (f z:Nat):z<128^(f+1)→mv (f+1) z=mv f z:=by
 induction f generalizing z with
 |zero=>intro M;simp at M;simp[mv,M];omega
 |succ f ih=>
  intro M;have O:mv (f+1+1) z=if z<128 then [z]else(z%128+128)::mv (f+1) (z/128):=rfl
  have V:mv (f+1) z=if z<128 then [z]else(z%128+128)::mv f (z/128):=rfl
  rw[O,V];split
  ·rfl
  ·rw[ih (z/128) (by rw[eT (by omega)];rw[cY]at M;exact M)]
theorem pk {l:List UInt8}{n:Int}{k:Nat}(h:ml l=some (n,k)):lU n∧k≤l.length∧l.take k=enc n∧k=(enc n).length:=by
 obtain⟨y,hn,a2,a1,O,V,_,hm⟩:=Nv 8 0 0 l n k h;have hp:(128:Nat)^(8+1)=9223372036854775808:=by decide
 have a3:og n=y:=by rw[hn];simp[Rq]
 have M:mv 9 (og n)=mv 8 y:=by rw[a3];exact Xe 8 y a2
 refine⟨⟨hm,?_⟩,V,by rw[a1,enc,M],by rw[O,enc,M];simp⟩;have:n=nJ y:=by rw[hn];simp
 rw[this];unfold nJ nY;split<;>omega
theorem lx (n:Int):(enc n).length≤10:=by unfold enc;simp;exact EW 9 _
theorem UM {l:List UInt8}{n:Int}(hn:lU n){r:List UInt8}(h:l=enc n++r):ml l=some (n,(enc n).length):=by rw[h];exact v8 hn r
theorem zK {l:List UInt8}{n:Int}{k:Nat}(h:ml l=some (n,k)):l=enc n++l.drop k:=by
 obtain⟨_,_,M,_⟩:=pk h;rw[←M,dK]
def rdStr (l:List UInt8):Option (List UInt8×Nat):=
 match ml l with
 |none=>none
 |some (n,k)=>if 0≤n∧n≤65536∧n≤((l.length-k:Nat):Int)then some ((l.drop k).take n.toNat,k+n.toNat)else none
def lL (t:List UInt8):List UInt8:=enc t.length++t
theorem Fp {n:Nat}(h:n≤65536):lU n:=by unfold lU nY;omega
theorem I0 {t:List UInt8}(h:t.length≤65536)(r:List UInt8):rdStr (lL t++r)=some (t,(lL t).length):=by
 unfold rdStr lL;rw[an,v8 (Fp h)];simp only;rw[if_pos]
 ·simp
 ·simp;omega
theorem zt {l:List UInt8}{t:List UInt8}{k:Nat}(h:rdStr l=some (t,k)):t.length≤65536∧k≤l.length∧l.take k=lL t∧k=(lL t).length:=by
 unfold rdStr at h;split at h
 ·cases h
 ·next n j hj=>
  split at h
  ·next hc=>
   simp only[al,af]at h;obtain⟨rfl,rfl⟩:=h;obtain⟨_,a1,O,V⟩:=pk hj;have M:((l.drop j).take n.toNat).length=n.toNat:=by simp;omega
   have hn:((n.toNat:Nat):Int)=n:=dM hc.1;refine⟨by rw[M];omega,by omega,?_,?_⟩
   ·unfold lL
    rw[M,hn,←O,List.take_add]
   ·unfold lL
    rw[ae,M,hn];omega
  ·cases h
theorem Ix {l:List UInt8}{t:List UInt8}{k:Nat}(h:rdStr l=some (t,k)):l=lL t++l.drop k:=by
 obtain⟨_,_,M,_⟩:=zt h;rw[←M,dK]
end Wire
namespace Go.Eng
open Go Go.RowKit Go.Proofs Wire
abbrev bb (s:BA):List UInt8:=s.data.toList
theorem lB (s:BA):(bb s).length=s.size:=rfl
def rh:Option (Int×Nat)→Nat→aa
 |none,_=>.tuple #[.int .i64 0,.int .i64 0,.int .i64 10]
 |some (n,k),a=>.tuple #[.int .i64 n,.int .i64 ((a+k:Nat):Int),.int .i64 0]
theorem Oo (o:Option (Int×Nat))(a:Nat):rh (o.map fun p=>(p.1,p.2+1)) a=rh o (a+1):=by
 cases o with
 |none=>rfl
 |some p=>simp[rh];omega
def oH (s:BA)(a:Int):aa:=
 if a<0∨(s.size:Int)<a then .tuple #[.int .i64 0,.int .i64 0,.int .i64 2]else rh (ml ((bb s).drop a.toNat)) a.toNat
theorem A7 (i:Nat):(2:Nat)^(7*i)=128^i:=by rw[Nat.pow_mul]
theorem Iv {s:BA}(b7:s.size<4611686018427387904){w0:aj}{R:bJ→aj→Prop}:∀(g i z a:Nat),g+i=9→a≤s.size→z<128^i→
  Fin R [] [] w0 (rh (oq g i z ((bb s).drop a)) a)→AH s (a:Int) (z:Int) ((7*i:Nat):Int) w0 R
 |0,i,z,a,hg,ha,hz,H=>by
  apply MY;refine⟨fun h=>absurd h (by omega),fun _=>?_⟩;simpa[oq,rh]using H
 | g +1,i,z,a,hg,ha,hz,H=>by
  apply MY;refine⟨fun _=>⟨fun h=>?_,fun h=>?_⟩,fun h=>absurd (by omega) h⟩
  ·have b3:(bb s).drop a=[]:=ax (by rw[lB];omega)
   rw[b3]at H;simpa[oq,rh]using H
  ·have a5:a<(bb s).length:=by rw[lB];omega
   have b5:(bb s).drop a=(bb s)[a]::(bb s).drop (a+1):=aG a5;rw[b5]at H;obtain⟨B,a3⟩:∃B:UInt8,B=(bb s)[a]:=⟨_,rfl⟩;rw[←a3]at H;have c5:=B.toNat_lt;refine⟨by omega,?_⟩;rintro b a4 _ rfl;rw[uM a5,←a3]at a4;refine⟨by omega,?_⟩;rintro z1 a6;have a8:b.tmod 128=((B.toNat%128:Nat):Int):=by rw[a4];exact su _ 128
   have hp:(128:Nat)^i*128≤9223372036854775808:=by
    have:(128:Nat)^i≤128^8:=jE (by decide) (by omega);have c4:(128:Nat)^8*128=9223372036854775808:=by decide
    omega
   have hm:B.toNat%128*128^i<9223372036854775808:=by
    have M:B.toNat%128<128:=Nat.mod_lt _ (by decide);have V:B.toNat%128*128^i<128*128^i:=im M (jK (by decide));omega
   have b9:z+B.toNat%128*128^i<128^(i+1):=by
    have M:B.toNat%128≤127:=by omega
    have V:B.toNat%128*128^i≤127*128^i:=bI _ M;rw[cY];omega
   have a1:z1=((z+B.toNat%128*128^i:Nat):Int):=by
    rw[a6,a8,oZ (x:=((B.toNat%128:Nat):Int)) (by omega)];have e1:min (ad ((7*i:Nat):Int)) 64=7*i:=by omega
    have a9:((B.toNat%128:Nat):Int)*2^(7*i)=((B.toNat%128*2^(7*i):Nat):Int):=by simp
    rw[e1,a9,A7,oZ (by omega),Xx (by omega) (by omega),←A7,X0 (by rw[A7];exact hz)]
   clear a6;have a2:ab.wrap ((a:Int)+1)=((a+1:Nat):Int):=by rw[kS (by omega)];simp
   have es:ab.wrap (((7*i:Nat):Int)+7)=((7*(i+1):Nat):Int):=by rw[kS (by omega)];omega
   refine⟨fun hc=>?_,fun hc=>?_⟩
   ·rintro _ rfl
    rw[a2,es,a1];refine Iv b7 g (i+1) _ (a+1) (by omega) (by omega) b9 ?_;rw[←Oo];have:128≤B.toNat:=by omega
    simpa[oq,this]using H
   ·have b6:¬128≤B.toNat:=by omega
    simp only[oq,b6,if_false]at H;obtain⟨Z,hZ⟩:∃Z,Z=z+B.toNat%128*128^i:=⟨_,rfl⟩;have c6:Z<9223372036854775808:=by
     have:(128:Nat)^(i+1)=128^i*128:=cY ..;omega
    rw[←hZ]at H a1;subst a1;have et:((Z:Int).tdiv 2)=((Z/2:Nat):Int):=zj Z 2;have b1:((Z:Int).tmod 2)=((Z%2:Nat):Int):=su Z 2;rw[a2,et,b1,oZ (by omega),kS (by omega)];have c3:Z%2=1→nJ Z= -((Z/2:Nat):Int)-1:=fun h=>by simp[nJ,h]
    have c2:¬Z%2=1→nJ Z=((Z/2:Nat):Int):=fun h=>by simp[nJ,h]
    have hi:(0:Int)<((7*i:Nat):Int)↔0<i:=by omega
    have b4:b=0↔B.toNat=0:=by omega
    rintro n rfl
    try dsimp only
    rw[hi,b4];have a7:∀m:Int,nJ Z=m→(B.toNat=0→(0<i→Fin R [] [] w0 (.tuple #[.int .i64 0,.int .i64 0,.int .i64 10]))∧(¬0<i→(m< -4611686018427387903→Fin R [] [] w0 (.tuple #[.int .i64 0,.int .i64 0,.int .i64 10]))∧(¬m< -4611686018427387903→Fin R [] [] w0 (.tuple #[.int .i64 m,.int .i64 ((a+1:Nat):Int),.int .i64 0]))))∧
      (¬B.toNat=0→(m< -4611686018427387903→Fin R [] [] w0 (.tuple #[.int .i64 0,.int .i64 0,.int .i64 10]))∧(¬m< -4611686018427387903→Fin R [] [] w0 (.tuple #[.int .i64 m,.int .i64 ((a+1:Nat):Int),.int .i64 0]))):=by
     intro m hm;rw[hm]at H;unfold nY at H;refine⟨fun M=>⟨fun V=>?_,fun V=>⟨fun O=>?_,fun O=>?_⟩⟩,fun M=>⟨fun O=>?_,fun O=>?_⟩⟩
     ·rw[if_pos (.inl ⟨M,V⟩)]at H;exact H
     ·rw[if_pos (.inr O)]at H;exact H
     ·rw[if_neg (by omega)]at H;exact H
     ·rw[if_pos (.inr O)]at H;exact H
     ·rw[if_neg (by omega)]at H;exact H
    refine⟨fun h=>?_,fun h=>?_⟩
    ·rintro n1 rfl
     have e1:ab.wrap (ab.wrap (0-((Z/2:Nat):Int))-1)= -((Z/2:Nat):Int)-1:=by
      rw[kS (x:=0-((Z/2:Nat):Int)) (by omega),kS (by omega)];omega
     rw[e1];exact a7 _ (c3 (by omega))
    ·exact a7 _ (c2 (by omega))
theorem xh (s:BA)(a:Int)(a1:s.size<4611686018427387904):l9 TP 83 ⟨[.string s,.int .i64 a]⟩ (oH s a):=by
 refine fun W=>Pm s a (Mem.start [] W) ?_
 have M:∀v,v=oH s a→Fin (fun e O=>e=.returned (oH s a)∧ej W.heap.size W O) [] [] W v:=fun v a2 O hm=>⟨by rw[a2],hm.kept.below⟩
 refine⟨fun h=>M _ ?_,fun h=>⟨fun V=>M _ ?_,fun V=>?_⟩⟩
 ·simp[oH,h]
 ·simp[oH,V]
 ·obtain⟨n,rfl⟩:∃n:Nat,a=n:=⟨a.toNat,by omega⟩
  refine Iv a1 9 0 0 n rfl (by omega) (by simp) (M _ ?_);rw[oH,if_neg (by omega)];rfl
variable {P:Program}{R:Ending→World→Prop}{S:List Nat}{w0 W:World}{lk:Lk}{tp bp ap:OA}{tc bc ac:Nat}{K K':Value→aX→Prop}{args:Array Value}{g:FuncId}
noncomputable def HS (a:Int):Cut:=⟨TP,[],55,31,(KC Tryz.f55 248),[(4,.int .u64 a),(5,.slice none 0 0)],[]⟩
noncomputable def Bh (a:Nat)(d:Int)(c b:Nat)(cs:List aa):Cut:=⟨TP,[],55,31,(KC Tryz.f55 248),[(4,.int .u64 d),(5,.slice (SO a) c b)],[(a,.cells ⟨cs⟩ 5)]⟩
theorem Wq (a:Int)(H:VP [] w0 R (.P 6 15 (128≤a) (.r 10<|.ns false 1 (.cells #[.int .u8 (cr.wrap (bs.wrap ((a.tmod 128)+128)))] 5) fun B=>.aN false 0 B 0 1 1 47 5 1 1 [.int .u8 (cr.wrap (bs.wrap ((a.tmod 128)+128)))] fun(f g:Nat) (i:List aa)=>.r 6<|.oY (kd:=.u64) 4 (bs.wrap (a.tdiv 128)) fun k=>.ct 3 [1] (Bh f k 1 g (([.int .u8 (cr.wrap (bs.wrap ((a.tmod 128)+128)))]:List aa)++i)))<|.r 7<|.ns false 1 (.cells #[.int .u8 (cr.wrap a)] 5) fun b=>.aN false 0 b 0 1 1 47 5 1 1 [.int .u8 (cr.wrap a)] fun(c h:Nat) (e:List aa)=>.ex fun(d:List UInt8)=>.tG 1 c 5 0 1 h (([.int .u8 (cr.wrap a)]:List aa)++e) d<|.ls 1 2 (⟨d.toArray⟩) fun j=>.re 2 (kCjq j) [(b,.cells #[.int .u8 (cr.wrap a)] 5),(c,.cells ⟨(([.int .u8 (cr.wrap a)]:List aa)++e)⟩ 5)])):HS a w0 R:=VC.go jq _ H
theorem QX (c:Nat)(a:Int)(b d:Nat)(cs:List aa)(H:VP [] w0 R (.P 6 15 (128≤a) (.r 10<|.ns false 1 (.cells #[.int .u8 (cr.wrap (bs.wrap ((a.tmod 128)+128)))] 5) fun i=>.aO false 0 c b d cs 1 i 0 1 1 47 5 1 1 [.int .u8 (cr.wrap (bs.wrap ((a.tmod 128)+128)))] fun(j k:Nat) (m:List aa)=>.r 6<|.oY (kd:=.u64) 4 (bs.wrap (a.tdiv 128)) fun o=>.ct 3 [1] (Bh j o (b+1) k ((cs).take (b*1)++([.int .u8 (cr.wrap (bs.wrap ((a.tmod 128)+128)))]:List aa)++m)))<|.r 7<|.ns false 1 (.cells #[.int .u8 (cr.wrap a)] 5) fun e=>.aO false 0 c b d cs 1 e 0 1 1 47 5 1 1 [.int .u8 (cr.wrap a)] fun(f l:Nat) (h:List aa)=>.ex fun(g:List UInt8)=>.tG 1 f 5 0 (b+1) l ((cs).take (b*1)++([.int .u8 (cr.wrap a)]:List aa)++h) g<|.ls 1 2 (⟨g.toArray⟩) fun n=>.re 2 (kCjq n) [(e,.cells #[.int .u8 (cr.wrap a)] 5),(f,.cells ⟨((cs).take (b*1)++([.int .u8 (cr.wrap a)]:List aa)++h)⟩ 5)])):Bh c a b d cs w0 R:=VC.go jq _ H
theorem Kv (a:Int)(hm:Mem [] [] w0 W)(H:VP [] w0 R (.P 11 8 (a<(-4611686018427387903:Int)) (.re 10 (.tuple #[sZ,IV 10]) [])<|.P 4 11 (4611686018427387903<a) (.re 6 (.tuple #[sZ,IV 10]) [])<|.cl 5 92 [IV a] []<|.ex fun b=>.rt (.int .u64 b) []<|.ct 9 [] (HS b))):aE TP 55 ⟨[IV a]⟩ W R:=VC.cs jq hm _ H
def yk (c:BA)(b a:Int)(w0:aj)(R:bJ→aj→Prop):Prop:=
 kO TP 86 34 (KC Tryz.f86 116) [(0,.string c),(3,.int .u32 b),(4,IV a)] [] [] w0 (lN R)
theorem Nj (e:BA)(h d:Int)
 (H:
 Br (d<(e.size:Int))
 ((0≤d∧d<e.size)∧
 ∀c:Int,c=(qL .u32 h (fN.wrap (k8 e d)))→
 (0≤(c.tmod (16:Int))∧(c.tmod (16:Int))<16)∧
 ∃(j:List aa) (f:Int),lG w0 0=some j∧j[(ad (c.tmod (16:Int)))]?=some (.int .u32 f)∧
 ∀a:Int,a=(qL .u32 (c.fdiv (2^4)) f)→
 (0≤(a.tmod (16:Int))∧(a.tmod (16:Int))<16)∧
 ∃(k:List aa) (g:Int),lG w0 0=some k∧k[(ad (a.tmod (16:Int)))]?=some (.int .u32 g)∧
 ∀i:Int,i=(qL .u32 (a.fdiv (2^4)) g)→
 ∀p:Int,p=(ab.wrap (d+(1:Int)))→
 yk e i p w0 R)
 (∀q:Int,q=(ab.wrap (CO .u32 h))→
 Fin R [] [] w0 (IV q))):
 yk e h d w0 R:=by
 unfold yk;refine .ru 8 (.sP 8 H (fun H=>?_) fun H=>?_)
 ·refine .ru 9 (.sg (s:=e) (kd:=.i64) (i:=d) (by kernel_rfl) H.1 ?_)
  replace H:=H.2
  refine .ru 3 (.letI 3 (kd:=.u32) (n:=(qL .u32 h (fN.wrap (k8 e d)))) (by kernel_rfl) (fun c t=>?_))
  replace H:=H c t
  refine .ru 7 (.JP (E:=184) (n:=16) (b:=0) (o:=0) (sz:=1) (o':=(ad (c.tmod (16:Int)))) (kd:=.u32) (i:=(c.tmod (16:Int))) (by kernel_rfl) H.1 (by omega) ?_)
  replace H:=H.2
  obtain⟨j,f,l,m,H⟩:=H;refine .pV (b:=0) (off:=(ad (c.tmod (16:Int)))) (T:=184) (v:=.int .u32 f) (by kernel_rfl) bG l (o4 m (by kernel_rfl)) (.ru 2 (.letI 3 (kd:=.u32) (n:=(qL .u32 (c.fdiv (2^4)) f)) (by kernel_rfl) (fun a u=>?_)))
  replace H:=H a u
  refine .ru 6 (.JP (E:=184) (n:=16) (b:=0) (o:=0) (sz:=1) (o':=(ad (a.tmod (16:Int)))) (kd:=.u32) (i:=(a.tmod (16:Int))) (by kernel_rfl) H.1 (by omega) ?_)
  replace H:=H.2
  refine .nm (KR Tryz.f86 3731 [5,6,7]) [(0,.string e),(4,IV d),(25,.int .u32 (a.fdiv (2^4))),(28,.pointer (some ⟨0,(ad (a.tmod (16:Int))),none⟩))] [] ?_;obtain⟨k,g,l,m,H⟩:=H;refine .pV (b:=0) (off:=(ad (a.tmod (16:Int)))) (T:=184) (v:=.int .u32 g) (by kernel_rfl) bG l (o4 m (by kernel_rfl)) (.ru 2 (.letI 3 (kd:=.u32) (n:=(qL .u32 (a.fdiv (2^4)) g)) (by kernel_rfl) (fun i w=>?_)))
  replace H:=H i w
  refine .ru 6 (.lI 4 H fun p H=>(.ru 2 (.ct [] H)))
 ·refine .ru 8 (.lI 2 H fun q H=>(.ru 1 (.rt Tryz.func86 H)))
theorem Rs (a:BA)(hm:Mem [] [] w0 W)
 (H:
 yk a (4294967295:Int) (0:Int) w0 R):
 aE TP 86 ⟨[.string a]⟩ W R:=by
 refine kO.cs 34 Tryz.func86 hm (.ru 15 (.ct [] H))
noncomputable def Aq (b:BA)(r a:Int):Cut:=⟨TP,[],93,34,(KC Tryz.f93 116),[(0,.string b),(3,.int .u32 r),(4,IV a)],[]⟩
noncomputable def xJ (d:BA)(c a b:Int):Cut:=⟨TP,[],93,34,(KC Tryz.f93 14924),[(0,.string d),(3,.int .u32 c),(4,IV a),(5,IV b)],[]⟩
theorem Mw (b:BA)(r a:Int)(H:VP [] w0 R (.P 8 10 (a<(b.size:Int)) (.r 9<|.ix b a<|.r 3<|.oY (kd:=.u32) 3 (qL .u32 r (fN.wrap (k8 b a))) fun c=>.ct 7 [] (xJ b c a 0))<|.li 8 2 (ab.wrap (CO .u32 r)) fun d=>.re 1 (IV d) [])):Aq b r a w0 R:=VC.go jr _ H
theorem Ja (d:BA)(c a b:Int)(H:VP [] w0 R (.P 6 20 (b<8) (.r 16<|.oY (kd:=.u32) 3 (fN.wrap (c.tdiv 2)) fun e=>.P 5 28 ((c.tmod 2)=1) (.r 5<|.oY (kd:=.u32) 3 (qL .u32 e 2197175160) fun i=>.li 6 5 (ab.wrap (b+1)) fun g=>.ct 2 [] (xJ d i a g))<|.li 7 5 (ab.wrap (b+1)) fun h=>.ct 2 [] (xJ d e a h))<|.li 7 4 (ab.wrap (a+1)) fun f=>.ct 2 [] (Aq d c f))):xJ d c a b w0 R:=VC.go jr _ H
theorem WV (a:BA)(hm:Mem [] [] w0 W)(H:VP [] w0 R (.ct 15 [] (Aq a 4294967295 0))):aE TP 93 ⟨[.string a]⟩ W R:=VC.cs jr hm _ H
end Go.Eng
namespace Go.Proofs
section
open Go.RowKit Go.Shelf
attribute [local go_sem] kB
open _root_.Wire
set_option maxRecDepth 100000 in
set_option maxHeartbeats 2000000 in
theorem Tryz.TX (F:Fence)(n:Nat)(h25:F.fn 124)(hro:F.round=none)(hn:1≤n)(l Bz n₀:Nat)(z:Nat)(hz:z<9223372036854775808)(J Jx:List Int→aj→Prop)
  (hY:∀pre x W,J pre W→pre.length<(mL 9 z).length→YieldAt F (n-1) bm l #[.int .u8 x] W fun e W'=>
   (e=.returned (.bool true)∧J (pre++[x]) W'∧ej n₀ W W')∨(e=.returned (.bool false)∧Jx (pre++[x]) W'))
  (W:aj)(hBz:W.cell? ⟨Bz,0,none⟩=some (.int .u64 z))(h0:J [] W):
  CallsIn F n bm 124 #[.func (.yield l) #[] #[],.pointer (some ⟨Bz,0,none⟩)] W fun e W'=>(∃v,e=.returned v)∧
   ((∃ys,ys=mL 9 z∧J ys W')∨(∃pre,pre<+:mL 9 z∧Jx pre W')):=by
 refine callsIn_of_wp iQ rfl h25 ?_ hro;simp only[Tryz.ntmps124,ec,aI,bt,iI,iJ,fU,fV,gG,gk,aT,aY]
 gi_wp2
 gi_loopw [3] (fun p wr=>∃(pre:List Int) (f r:Nat),p=.int .u64 r∧mL 9 z=pre++mL f r∧r<128^(f+1)∧r<9223372036854775808∧J pre wr)
  (fun p wr=>(intOf p).toNat)
 case atStart=>
  exact⟨[],9,z,rfl,rfl,by omega,hz,h0⟩
 case round=>
  obtain⟨pre,f,r,rfl,hx,hr,hr2,hJs⟩:=hrel
  by_cases h:r<128
  ·have hl:mL f r=[(r:Int)]:=by cases f<;>simp[mL,mv,h];omega
   have hlen:pre.length<(mL 9 z).length:=by rw[hx,hl];simp
   obtain⟨fn,tmps,assign,body,hy,hR⟩:=hY pre r wr hJs hlen;have HX:Hid (mL 9 z=pre++mL f r):=hx;have HL:Hid (mL f r=[(r:Int)]):=hl;clear hx hl hr hlen hY
   gi_wp2
   refine hR.mono ?_;rintro e W3 (⟨rfl,hJ3,_⟩|⟨rfl,hJx3⟩)
   ·gi_wp2
    go_end0
    exact⟨⟨_,rfl⟩,.inl ⟨_,rfl,by rw[HX.out,HL.out];exact hJ3⟩⟩
   ·gi_wp2
    go_end0
    exact⟨⟨_,rfl⟩,.inr ⟨_,by rw[HX.out,HL.out];exact List.prefix_rfl,hJx3⟩⟩
  ·obtain⟨f,rfl⟩:∃g,f=g+1:=by
    cases f with
    |zero=>simp at hr;omega
    |succ g=>exact⟨g,rfl⟩
   have hl:mL (f+1) r=((r:Int)%128+128)::mL f (r/128):=by simp[mL,mv,h]
   have hlen:pre.length<(mL 9 z).length:=by rw[hx,hl];simp
   obtain⟨fn,tmps,assign,body,hy,hR⟩:=hY pre ((r:Int)%128+128) wr hJs hlen;have HX:Hid (mL 9 z=(pre++[((r:Int)%128+128)])++mL f (r/128)):=by show _=_;rw[hx,hl];simp
   have HR:Hid (r/128<128^(f+1)):=by show _<_;rw[eT (by omega)];rw[cY]at hr;exact hr
   clear hx hl hr hlen hY
   gi_wp2
   ·refine hR.mono ?_
    rintro e W3 (⟨rfl,hJ3,_⟩|⟨rfl,hJx3⟩)
    ·gi_wp2
     go_roundw
     case rel=>exact⟨_,f,r/128,by go_num,HX.out,HR.out,by omega,hJ3⟩
     case measure=>simp[intOf];omega
    ·gi_wp2
     refine bodyPost_ret (results_none rfl _ _ _) rfl ?_;exact⟨⟨_,rfl⟩,.inr ⟨_,by rw[HX.out];exact List.prefix_append _ _,hJx3⟩⟩
end
section
open Go.RowKit Go.Shelf
attribute [local go_sem] kB
open _root_.Wire
theorem Tryz.NC (F:Fence)(n:Nat)(a2:F.fn 124)(a6:F.round=none)(hn:1≤n)(M O z:Nat)(a7:z<9223372036854775808)(w:aj)(a3:M<w.heap.size)
  (hc:w.cell? ⟨M,0,none⟩=some (.int .u64 z)):
  SeqStopsK F n bm 124 #[.pointer (some ⟨M,0,none⟩)] (fun x:Int=> #[ef .u8 x]) (ej O) (fun a8=>a8=mL 9 z) (fun pre=>pre<+:mL 9 z) (mL 9 z).length w:=fun l J V W a4 _ _ a5 a1=>
 Tryz.TX F n a2 a6 hn l M O z a7 J V a5 W ((a4.cell (p:=⟨M,0,none⟩) a3).trans hc) a1
theorem Tryz.MI (F:Fence)(n:Nat)(M:F.fn 87)(O:F.round=none)(z:Int)(w:aj):
  CallsIn F n bm 87 #[.int .u64 z] w fun e w'=>e=.returned (.func (.func 124) #[] #[.pointer (some ⟨w.heap.size,0,none⟩)])∧w'=w.alloc (.cells #[.int .u64 z] 141):=by
 refine callsIn_of_wp Tryz.func87 rfl M ?_ O;simp only[Tryz.ntmps87,ec,aI,bt,iI,iJ,fU,fV,gG,gk,aT,aY]
 gi_wp2
 go_ret
 exact⟨rfl,rfl⟩
def rR (xs:List Int):Array aa:=⟨(xs.map (ef .u8))++aA (10-xs.length) (.int .u8 0)⟩
theorem Au {A B:aj}{k:Nat}{c:Array aa}{t:TypeId}{fz:Nat×Nat}{row:Option Nat}(h:A.heap[k]?=some (.cells c t fz))(O:A.grownBy B row)(a1:∀r,row=some r→∃o:Obj,A.heap[r]?=some o∧o.isCells=false):B.heap[k]?=some (.cells c t fz):=by
 have V:k<A.heap.size:=(Array.getElem?_eq_some_iff.1 h).1;rw[O.block k V (fun e=>by
  obtain⟨o,M,hc⟩:=a1 k e.symm;rw[h]at M;cases M;cases hc)]
 exact h
theorem He (z:Nat):(mL 9 z).length≤10:=by have:=EW 9 z;simpa[mL]using this
theorem L5 {W:aj}{b:Nat}{pre:List Int}(M:W.heap[b]?=some (.cells (rR pre) 142))(O:W.heap[b+1]?=some (.cells #[.int .i64 pre.length] 3))(V:pre.length<10):
  W.cell? ⟨b,pre.length,none⟩=some (.int .u8 0)∧W.frozen? ⟨b,pre.length,none⟩=false∧W.cell? ⟨b+1,0,none⟩=some (.int .i64 pre.length)∧W.frozen? ⟨b+1,0,none⟩=false:=by
 refine⟨?_,?_,?_,?_⟩
 ·simp only[eV,M,rR]
  simp;rw[List.getElem?_append_right (by simp)];simp[List.getElem?_replicate];omega
 ·simp[iK,M]
 ·simp[eV,O]
 ·simp[iK,O]
theorem Ny {W:aj}{b:Nat}{pre:List Int}{y v:Int}(O:W.heap[b]?=some (.cells (rR pre) 142))(V:pre.length<10):
  ((W.setCell ⟨b,pre.length,none⟩ (.int .u8 y)).setCell ⟨b+1,0,none⟩ (.int .i64 v)).heap[b]?=some (.cells (rR (pre++[y])) 142):=by
 rw[jF _ _ _ _ (by simp)];simp only[kI,dz,if_pos,O,bL];congr 2;apply bR.1;simp only[rR,jn,dV,if_false,Array.toList_setIfInBounds];have M:10-pre.length=(10-(pre++[y]).length)+1:=by simp;omega
 rw[M,List.replicate_succ];rw[List.set_append_right _ _ (by simp)];simp
theorem Je {W:aj}{b:Nat}{o:Nat}{y:Int}{pre:List Int}(M:W.heap[b+1]?=some (.cells #[.int .i64 pre.length] 3)):
  ((W.setCell ⟨b,o,none⟩ (.int .u8 y)).setCell ⟨b+1,0,none⟩ (.int .i64 ((pre.length:Int)+1))).heap[b+1]?=some (.cells #[.int .i64 (pre++[y]).length] 3):=by
 have:(W.setCell ⟨b,o,none⟩ (.int .u8 y)).heap[b+1]?=some (.cells #[.int .i64 pre.length] 3):=by rw[jF _ _ _ _ (by simp)];exact M
 simp only[kI,dz,if_pos]at this ⊢;rw[this];simp
theorem Lo {P:aB}{W:aj}{b:Nat}{M:List Int}(V:W.heap[b]?=some (.cells (rR M) 142))(_:M.length≤10):
  (loadCells ⟨b,0,none⟩ M.length).run P W=.ok (M.map (ef .u8)).toArray W:=by
 have:=run_loadCells_list (P:=P) (w:=W) ⟨b,0,none⟩ (M.map (ef .u8)) (fun j v O=>by
  have a1:(⟨b,0,none⟩:Addr).add j=⟨b,j,none⟩:=by unfold Addr.add;split<;>simp_all
  rw[a1];simp only[eV,V,rR];have a2:j<(M.map (ef .u8)).length:=(List.getElem?_eq_some_iff.1 O).1;simp only[jn,dV,if_false];rw[show(⟨M.map (ef .u8)++aA (10-M.length) (.int .u8 0)⟩:Array aa)[j]?=(M.map (ef .u8)++aA (10-M.length) (.int .u8 0))[j]? by simp];rw[List.getElem?_append_left a2];exact O)
 simpa using this
theorem HU (f z:Nat):(mL f z).foldl (fun r n=>r.push (bg n.toNat)) ByteArray.empty=⟨((mv f z).map bg).toArray⟩:=by
 have key:∀(l:List Nat) (r:ByteArray),(l.map Int.ofNat).foldl (fun r n=>r.push (bg n.toNat)) r=⟨(r.data.toList++l.map bg).toArray⟩:=by
  intro l;induction l with
  |nil=>intro r;simp
  |cons b l ih=>
   intro r;simp only[dk,bS];rw[ih];congr 1;simp
 unfold mL;rw[key];rfl
theorem N2 (W:aj)(b m:Nat)(h:m≤10):(iM 142 (.pointer (some ⟨b,0,none⟩)) none (some (.int .i64 (m:Int))) none).run bm W=.ok (.slice (some ⟨b,0,none⟩) m 10) W:=by
 have M:(Instr.sliceBound (.int .i64 (m:Int)) 10 .sliceAlen).run bm W=.ok m W:=by
  have:=run_sliceBound (P:=bm) W .i64 (m:Int) 10 .sliceAlen (by omega) (by omega);simpa using this
 simp only[iM,Sem.run_bind,run_underlying (P:=bm) (t:=142) (d:=.array 10 5) (by kernel_rfl),bw,Instr.sureAddr,Instr.sliceBounds,Sem.run_pure];have O:(sizeOf 5).run bm W=.ok 1 W:=by kernel_rfl
 simp only[dV,if_false,M,bw,O];rfl
theorem Jg (W:aj)(b m:Nat)(s:ByteArray)(h:(Conv.bytesToString (.slice (some ⟨b,0,none⟩) m 10)).run bm W=.ok (.string s) W):(convert 47 9 (.slice (some ⟨b,0,none⟩) m 10)).run bm W=.ok (.string s) W:=by
 simp only[convert,Sem.run_bind,run_underlying (P:=bm) (t:=47) (d:=.slice 5) (by kernel_rfl),run_underlying (P:=bm) (t:=9) (d:=.string) (by kernel_rfl),run_underlying (P:=bm) (t:=5) (d:=.int .u8) (by kernel_rfl),bw,h]
set_option maxRecDepth 100000 in
set_option maxHeartbeats 2000000 in
theorem Tryz.YH (F:Fence)(n:Nat)(h12:F.fn 48)(h23:F.fn 87)(h25:F.fn 124)(hro:F.round=none)(hn:3≤n)(x:Int)(hx0: -4611686018427387903≤x)(hx1:x≤4611686018427387903)(w:aj):
  CallsIn F n bm 48 #[.int .i64 x] w fun e W'=>e=.returned (.tuple #[.string (⟨((mv 9 (og x)).map bg).toArray⟩),.int .i64 0])∧ej w.heap.size w W':=by
 have h1:1≤n:=by omega
 obtain⟨z,hzd⟩:∃z:Nat,z=og x:=⟨_,rfl⟩;have hz:z<9223372036854775808:=by rw[hzd];unfold og;split<;>omega
 rw[←hzd];refine callsIn_of_wp_marks Tryz.func48 rfl h12 ?_ hro;simp only[Tryz.ntmps48,ec,aI,bt,iI,iJ,fU,fV,gG,gk,aT,aY]
 by_cases hneg:x<0
 ·gi_wp2_with (gi_at_call 87;refine(Tryz.MI F (n-1) h23 hro _ _).mono ?_;rintro e w' ⟨rfl,rfl⟩)
  have hzi:2* -x-1=(z:Int):=by rw[hzd];unfold og;rw[if_pos hneg];omega
  have hlen:(mL 9 z).length≤10:=He z;obtain⟨w1,hw1⟩:∃w1,(((w.alloc (.cells #[.int .u8 0,.int .u8 0,.int .u8 0,.int .u8 0,.int .u8 0,.int .u8 0,.int .u8 0,.int .u8 0,.int .u8 0,.int .u8 0] 142)).alloc (.cells #[.int .i64 0] 3)).alloc (.cells #[.int .u64 (2* -x-1)] 141))=w1:=⟨_,rfl⟩;have hB0:ej w.heap.size w w1:=by rw[←hw1];exact(((fI _ w).alloc (aD _) _).alloc (by simp) _).alloc (by simp;omega) _
  have hs1:w1.heap.size=w.heap.size+3:=by rw[←hw1];simp
  have ha:w1.heap[w.heap.size]?=some (.cells (rR []) 142):=by rw[←hw1];exact(ee _ _ _ (by simp;omega)).trans ((ee _ _ _ (by simp)).trans (dC w _))
  have hb:w1.heap[w.heap.size+1]?=some (.cells #[.int .i64 0] 3):=by rw[←hw1];exact(ee _ _ _ (by simp)).trans (by have:=dC (w.alloc (.cells #[.int .u8 0,.int .u8 0,.int .u8 0,.int .u8 0,.int .u8 0,.int .u8 0,.int .u8 0,.int .u8 0,.int .u8 0,.int .u8 0] 142)) (.cells #[.int .i64 0] 3);simpa using this)
  have hc:w1.cell? ⟨w.heap.size+1+1,0,none⟩=some (.int .u64 z):=by
   have:=dC ((w.alloc (.cells #[.int .u8 0,.int .u8 0,.int .u8 0,.int .u8 0,.int .u8 0,.int .u8 0,.int .u8 0,.int .u8 0,.int .u8 0,.int .u8 0] 142)).alloc (.cells #[.int .i64 0] 3)) (.cells #[.int .u64 (2* -x-1)] 141);simp only[jV]at this;rw[hw1]at this;simp[eV,this,hzi]
  rw[hw1];clear hw1 hzi hzd;refine wpIn_rangeFunc_ownF hro h1 (gf:=124) (lb:= #[.pointer (some ⟨w.heap.size+1+1,0,none⟩)]) rfl h25 (enters_of iQ (by kernel_rfl) rfl)
   (Tryz.NC F (n-1) h25 hro (by omega) (w.heap.size+1+1) w.heap.size z hz w1 (by omega) hc) belowK_t (belowK_b (by omega)) (fI _ _) (fun _=>rfl)
   (fun pre W=>(pre.length≤10∧W.heap[w.heap.size]?=some (.cells (rR pre) 142)∧W.heap[w.heap.size+1]?=some (.cells #[.int .i64 pre.length] 3))∧ej w.heap.size w W)
   (fun _ _ _=>False)
   (OwnFrom.and (Own.from (fun s A B row hs hg hr=>⟨hs.1,Au hs.2.1 hg hr,Au hs.2.2 hg hr⟩) _) (ownFrom_below (aD _) (by omega)))
   (fun _ _ _ _ _ hs _ _=>hs)
   ⟨⟨by simp,ha,hb⟩,hB0⟩
   (fun y=>{tmps:= #[.int .i64 x,undef,.string ⟨#[]⟩,.int .i64 0,.int .u64 (2* -x-1),.pointer (some ⟨w.heap.size,0,none⟩),.pointer (some ⟨w.heap.size+1,0,none⟩),.int .u8 y,.int .i64 x,.bool (decide (x< -4611686018427387903)),.bool (decide (x< -4611686018427387903)),.int .i64 x,.bool (decide (4611686018427387903<x)),.bool (decide (x< -4611686018427387903)||decide (4611686018427387903<x)),.int .i64 x,.int .u64 (bs.wrap x),.int .u64 (bs.wrap (2*bs.wrap x)),.int .i64 x,.bool true,.int .i64 x,.int .i64 (-x),.int .u64 (-x),.int .u64 (2* -x),.int .u64 (2* -x-1),.int .u64 (2* -x-1),.func (.func 124) #[] #[.pointer (some ⟨w.heap.size+1+1,0,none⟩)],.int .u8 y,undef,undef,undef,undef,undef,undef,undef,undef],defers:=[]}) ?assign ?body ?done ?stop
  case assign=>
   intro l y W K hK
   gi_wp2
   exact hK
  case body=>
   rintro l pre y W ⟨⟨hp,hA,hC⟩,hB⟩ hlt;have hlt':pre.length<10:=by omega
   obtain⟨hcA,qZ,hcC,hfC⟩:=L5 hA hC hlt';have hi:((pre.length:Int)).toNat=pre.length:=rfl;have HA:=ku hA;have HC:=ku hC;clear hA hC
   gi_wp2
   exact⟨(eJ _ _ _).trans (eJ _ _ _),((fI w.heap.size W).setCell (p:=⟨w.heap.size,pre.length,none⟩) (aD _) _).setCell (p:=⟨w.heap.size+1,0,none⟩) (by simp) _,
    ⟨by simp;omega,Ny HA.out hlt',Je HC.out⟩,(hB.setCell (p:=⟨w.heap.size,pre.length,none⟩) (aD _) _).setCell (p:=⟨w.heap.size+1,0,none⟩) (by simp) _⟩
  case done=>
   rintro D ys W hD rfl ⟨⟨hp,hA,hC⟩,hB⟩ hK;have hcC:W.cell? ⟨w.heap.size+1,0,none⟩=some (.int .i64 (mL 9 z).length):=by simp[eV,hC]
   have hld:=Lo (P:=bm) hA hp;have hst:=run_bytesToString (P:=bm) W ⟨w.heap.size,0,none⟩ (mL 9 z).length 10 (mL 9 z) hld;rw[HU]at hst;have hsl:=N2 W w.heap.size (mL 9 z).length hp;have hcv:=Jg W w.heap.size (mL 9 z).length _ hst;clear hld hst hA hC hp hlen
   gi_wp2
   refine⟨by simp,.inl ⟨_,_,rfl,run_takeDeferred hK,?_⟩⟩;exact⟨_,results_tmp2 rfl _ _ _,rfl,hB.trans (belowK_b (w:=w) (aD _) W D _ _ (by omega) hK rfl rfl)⟩
  case stop=>
   rintro D c pre W _ _ h _;exact h.elim
 ·gi_wp2_with (gi_at_call 87;refine(Tryz.MI F (n-1) h23 hro _ _).mono ?_;rintro e w' ⟨rfl,rfl⟩)
  have hzi:2*x=(z:Int):=by rw[hzd];unfold og;rw[if_neg (by omega)];omega
  have hlen:(mL 9 z).length≤10:=He z;obtain⟨w1,hw1⟩:∃w1,(((w.alloc (.cells #[.int .u8 0,.int .u8 0,.int .u8 0,.int .u8 0,.int .u8 0,.int .u8 0,.int .u8 0,.int .u8 0,.int .u8 0,.int .u8 0] 142)).alloc (.cells #[.int .i64 0] 3)).alloc (.cells #[.int .u64 (2*x)] 141))=w1:=⟨_,rfl⟩;have hB0:ej w.heap.size w w1:=by rw[←hw1];exact(((fI _ w).alloc (aD _) _).alloc (by simp) _).alloc (by simp;omega) _
  have hs1:w1.heap.size=w.heap.size+3:=by rw[←hw1];simp
  have ha:w1.heap[w.heap.size]?=some (.cells (rR []) 142):=by rw[←hw1];exact(ee _ _ _ (by simp;omega)).trans ((ee _ _ _ (by simp)).trans (dC w _))
  have hb:w1.heap[w.heap.size+1]?=some (.cells #[.int .i64 0] 3):=by rw[←hw1];exact(ee _ _ _ (by simp)).trans (by have:=dC (w.alloc (.cells #[.int .u8 0,.int .u8 0,.int .u8 0,.int .u8 0,.int .u8 0,.int .u8 0,.int .u8 0,.int .u8 0,.int .u8 0,.int .u8 0] 142)) (.cells #[.int .i64 0] 3);simpa using this)
  have hc:w1.cell? ⟨w.heap.size+1+1,0,none⟩=some (.int .u64 z):=by
   have:=dC ((w.alloc (.cells #[.int .u8 0,.int .u8 0,.int .u8 0,.int .u8 0,.int .u8 0,.int .u8 0,.int .u8 0,.int .u8 0,.int .u8 0,.int .u8 0] 142)).alloc (.cells #[.int .i64 0] 3)) (.cells #[.int .u64 (2*x)] 141);simp only[jV]at this;rw[hw1]at this;simp[eV,this,hzi]
  rw[hw1];clear hw1 hzi hzd;refine wpIn_rangeFunc_ownF hro h1 (gf:=124) (lb:= #[.pointer (some ⟨w.heap.size+1+1,0,none⟩)]) rfl h25 (enters_of iQ (by kernel_rfl) rfl)
   (Tryz.NC F (n-1) h25 hro (by omega) (w.heap.size+1+1) w.heap.size z hz w1 (by omega) hc) belowK_t (belowK_b (by omega)) (fI _ _) (fun _=>rfl)
   (fun pre W=>(pre.length≤10∧W.heap[w.heap.size]?=some (.cells (rR pre) 142)∧W.heap[w.heap.size+1]?=some (.cells #[.int .i64 pre.length] 3))∧ej w.heap.size w W)
   (fun _ _ _=>False)
   (OwnFrom.and (Own.from (fun s A B row hs hg hr=>⟨hs.1,Au hs.2.1 hg hr,Au hs.2.2 hg hr⟩) _) (ownFrom_below (aD _) (by omega)))
   (fun _ _ _ _ _ hs _ _=>hs)
   ⟨⟨by simp,ha,hb⟩,hB0⟩
   (fun y=>{tmps:= #[.int .i64 x,undef,.string ⟨#[]⟩,.int .i64 0,.int .u64 (2*x),.pointer (some ⟨w.heap.size,0,none⟩),.pointer (some ⟨w.heap.size+1,0,none⟩),.int .u8 y,.int .i64 x,.bool (decide (x< -4611686018427387903)),.bool (decide (x< -4611686018427387903)),.int .i64 x,.bool (decide (4611686018427387903<x)),.bool (decide (x< -4611686018427387903)||decide (4611686018427387903<x)),.int .i64 x,.int .u64 x,.int .u64 (2*x),.int .i64 x,.bool false,undef,undef,undef,undef,undef,.int .u64 (2*x),.func (.func 124) #[] #[.pointer (some ⟨w.heap.size+1+1,0,none⟩)],.int .u8 y,undef,undef,undef,undef,undef,undef,undef,undef],defers:=[]}) ?assign ?body ?done ?stop
  case assign=>
   intro l y W K hK
   gi_wp2
   exact hK
  case body=>
   rintro l pre y W ⟨⟨hp,hA,hC⟩,hB⟩ hlt;have hlt':pre.length<10:=by omega
   obtain⟨hcA,qZ,hcC,hfC⟩:=L5 hA hC hlt';have hi:((pre.length:Int)).toNat=pre.length:=rfl;have HA:=ku hA;have HC:=ku hC;clear hA hC
   gi_wp2
   exact⟨(eJ _ _ _).trans (eJ _ _ _),((fI w.heap.size W).setCell (p:=⟨w.heap.size,pre.length,none⟩) (aD _) _).setCell (p:=⟨w.heap.size+1,0,none⟩) (by simp) _,
    ⟨by simp;omega,Ny HA.out hlt',Je HC.out⟩,(hB.setCell (p:=⟨w.heap.size,pre.length,none⟩) (aD _) _).setCell (p:=⟨w.heap.size+1,0,none⟩) (by simp) _⟩
  case done=>
   rintro D ys W hD rfl ⟨⟨hp,hA,hC⟩,hB⟩ hK;have hcC:W.cell? ⟨w.heap.size+1,0,none⟩=some (.int .i64 (mL 9 z).length):=by simp[eV,hC]
   have hld:=Lo (P:=bm) hA hp;have hst:=run_bytesToString (P:=bm) W ⟨w.heap.size,0,none⟩ (mL 9 z).length 10 (mL 9 z) hld;rw[HU]at hst;have hsl:=N2 W w.heap.size (mL 9 z).length hp;have hcv:=Jg W w.heap.size (mL 9 z).length _ hst;clear hld hst hA hC hp hlen
   gi_wp2
   refine⟨by simp,.inl ⟨_,_,rfl,run_takeDeferred hK,?_⟩⟩;exact⟨_,results_tmp2 rfl _ _ _,rfl,hB.trans (belowK_b (w:=w) (aD _) W D _ _ (by omega) hK rfl rfl)⟩
  case stop=>
   rintro D c pre W _ _ h _;exact h.elim
end
end Go.Proofs
namespace Go.Eng
open Go Go.RowKit Go.Proofs Wire
theorem lf {v u:aa}{W:aj}{L:aX}(h:v=u):Fin (fun e M=>e=.returned u∧ej W.heap.size W M) L [] W v:=fun _ hm=>⟨by rw[h],hm.kept.below⟩
def qv (c:Int):Nat:=if c<0 then(-(c+1)).toNat else c.toNat
def i64 (c:Int):Prop:= -9223372036854775808≤c∧c≤9223372036854775807
def od (n:Int):BA:=⟨(enc n).toArray⟩
theorem ta (n:Int):bb (od n)=enc n:=by simp[bb,od]
theorem vz (n:Int):(od n).size=(enc n).length:=by rw[←lB,ta]
def sT (n:Int):aa:=if lU n then .tuple #[.string (od n),.int .i64 0]else .tuple #[.string ⟨#[]⟩,.int .i64 10]
theorem R9 (n:Int)(h:lU n):l9 TP 92 ⟨[.int .i64 n]⟩ (.int .u64 (og n:Int)):=by
 unfold lU nY at h;refine fun W=>Qu n (Mem.start [] W) ⟨fun hn=>?_,fun hn=>?_⟩
 ·rintro t rfl
  refine lf ?_;rw[kS (by omega),oZ (x:=0-n) (by omega),oZ (x:=(0-n)*2) (by omega),oZ (by omega),og,if_pos hn];congr 1;omega
 ·rintro t rfl
  refine lf ?_;rw[oZ (x:=n) (by omega),oZ (by omega),og,if_neg hn];congr 1;omega
def sA (f z:Nat):List UInt8:=(mv f z).map bg
theorem BX (f z:Nat):mv (f+1) z=if z<128 then [z]else(z%128+128)::mv f (z/128):=rfl
theorem zy (a b:List UInt8):kU (a++b)=kU a++kU b:=by simp[kU]
theorem Ed (a:List UInt8):(kU a).length=a.length:=by simp[kU]
theorem JV {w0:aj}{n:Int}:∀(f z:Nat) (B:Nat) (l:Nat) (cap:Nat) (cs:List aa) (pre:List UInt8),z<128^(f+1)→pre.length=l→l≤cap→cs.length=cap*1→f+l≤9→
  cs.take l=kU pre→enc n=pre++sA f z→z<9223372036854775808→
  Bh B (z:Int) l cap cs w0 (fun e a3=>e=.returned (.tuple #[.string (od n),.int .i64 0])∧ej w0.heap.size w0 a3)
 | f,z,B,l,cap,cs,pre,hz,hl,hlc,hcl,hfl,ht,he,hzb=>by
  apply QX;have a1:(kU pre).length=l:=by rw[Ed,hl]
  have a6:((z:Int).tmod 128)=((z%128:Nat):Int):=su z 128;have a5:((z:Int).tdiv 128)=((z/128:Nat):Int):=zj z 128;refine⟨fun h a9=>⟨⟨hlc,hcl⟩,⟨by omega,by omega⟩,fun B6 a4 b3 V M z3 a2=>?_⟩,fun h B7=>⟨⟨hlc,hcl⟩,⟨by omega,by omega⟩,fun B8 b1 b4 V M=>?_⟩⟩
  ·rw[a5,oZ (by omega)]at a2
   subst a2;rw[a6]at M ⊢;have O:cr.wrap (bs.wrap (((z%128:Nat):Int)+128))=((z%128+128:Nat):Int):=by
    rw[oZ (by omega),AI (by omega)];simp
   rw[O]at M ⊢;rw[ez]at M ⊢
   match f,hz,hfl,he with
   |0,hz,_,_=>simp at hz;omega
   | f+1,hz,hfl,he=>
    have a8:¬z<128:=by omega
    have hU:(bg (z%128+128)).toNat=z%128+128:=by simp;omega
    refine JV f (z/128) B6 (l+1) a4 _ (pre++[bg (z%128+128)]) (by rw[cY]at hz;omega) (by simp[hl]) V M (by omega) ?_ ?_ (by omega)
    ·rw[ht,zy]
     have:(kU pre++[ef .u8 ((z%128+128:Nat):Int)]).length=l+1:=by simp[a1]
     rw[←this,gN];simp only[kU,dk,fh,hU]
    ·rw[he,sA,BX,if_neg a8,sA];simp
  ·have hU:(bg z).toNat=z:=by simp;omega
   have O:cr.wrap (z:Int)=((z:Nat):Int):=AI (by omega);rw[O]at M ⊢;rw[ez]at M ⊢;have a7:sA f z=[bg z]:=by
    match f with
    |0=>show [bg (z%256)]=_;rw[dB (by omega)]
    |f+1=>rw[sA,BX,if_pos (by omega)];rfl
   refine⟨pre++[bg z],⟨?_,by simp[hl]⟩,?_⟩
   ·rw[aU,ht]
    have:(kU pre++[ef .u8 ((z:Nat):Int)]).length=l+1:=by simp[a1]
    rw[←this,gN,zy];simp only[kU,dk,fh,hU]
   ·rintro t rfl
    refine lf ?_;rw[od,he,a7]
theorem xn (n:Int):l9 TP 55 ⟨[.int .i64 n]⟩ (sT n):=by
 by_cases h:lU n
 ·have M:=h
  unfold lU nY at M;refine fun W=>Kv n (Mem.start [] W) ⟨fun hn=>by omega,fun hn=>⟨fun hm=>by omega,fun hm=>?_⟩⟩
  refine eA.pure (R9 n h) ⟨_,rfl,rfl,?_⟩;have a8:=MU h;obtain⟨z,a4⟩:∃z,z=og n:=⟨_,rfl⟩;rw[←a4]at a8 ⊢;have a2:enc n=sA 9 z:=by rw[enc,a4,sA]
  rw[sT,if_pos h];have a7:((z:Int).tmod 128)=((z%128:Nat):Int):=su z 128;have a6:((z:Int).tdiv 128)=((z/128:Nat):Int):=zj z 128;apply Wq;refine⟨fun hc B a5 cap r a1 O z1 a3=>?_,fun hc B3 a9 cap r a1 O=>?_⟩
  ·rw[a6,oZ (by omega)]at a3
   subst a3;have V:cr.wrap (bs.wrap ((z:Int).tmod 128+128))=((z%128+128:Nat):Int):=by
    rw[a7,oZ (by omega),AI (by omega)];simp
   rw[V]at O ⊢;have hU:(bg (z%128+128)).toNat=z%128+128:=by simp;omega
   refine JV 8 (z/128) a5 1 cap _ [bg (z%128+128)] (by omega) rfl a1 O (by omega) ?_ ?_ (by omega)
   ·simp only[kU,dk,fh,hU];rfl
   ·rw[a2,sA,BX,if_neg (by omega),sA];rfl
  ·have hU:(bg z).toNat=z:=by simp;omega
   have V:cr.wrap (z:Int)=((z:Nat):Int):=AI (by omega);rw[V];refine⟨[bg z],⟨?_,rfl⟩,?_⟩
   ·simp only[kU,dk,fh,hU];rfl
   ·rintro t rfl
    refine lf ?_;rw[od,a2,sA,BX,if_pos (by omega)];rfl
 ·have M:=h
  unfold lU nY at M;rw[sT,if_neg h];exact fun W=>Kv n (Mem.start [] W) ⟨fun hn=>lf rfl,fun hn=>⟨fun hm=>lf rfl,fun hm=>by omega⟩⟩
theorem tD {a b:BA}(h:bb a=bb b):a=b:=by
 apply ByteArray.ext;exact bR.1 h
theorem w3 (a b:BA):bb (a++b)=bb a++bb b:=by simp[bb]
theorem tA (s:BA)(a b:Nat):bb (s.extract a b)=((bb s).drop a).take (b-a):=by
 simp[bb,List.extract_eq_take_drop]
theorem mA (l:List UInt8):bb ⟨l.toArray⟩=l:=by simp[bb]
theorem Ys:bb ⟨#[]⟩=[]:=rfl
theorem ze (n:Int):l9 TP 48 ⟨[.int .i64 n]⟩ (sT n):=by
 by_cases h:lU n
 ·have M:=h
  unfold lU nY at M;intro W;refine((callsIn_wide.1 (Tryz.YH Fence.wide 3 trivial trivial trivial rfl (aD _) n M.1 M.2 W))).mono fun e V O=>⟨?_,O.2⟩
  rw[sT,if_pos h,O.1];rfl
 ·have M:=h
  unfold lU nY at M;rw[sT,if_neg h];exact fun W=>SY n (Mem.start [] W) ⟨fun hn=>lf rfl,fun hn=>⟨fun hm=>lf rfl,fun hm=>by omega⟩⟩
theorem A3 {n:Int}(h:lU n):sT n=.tuple #[.string (od n),.int .i64 0]:=if_pos h
theorem Xa {n:Int}(h:¬lU n):sT n=.tuple #[.string ⟨#[]⟩,.int .i64 10]:=if_neg h
def s5 (s:BA):BA:=od s.size++s
theorem zm (s:BA):bb (s5 s)=lL (bb s):=by rw[s5,w3,ta,lL,lB]
def uJ (s:BA):aa:=if s.size≤65536 then .tuple #[.string (s5 s),.int .i64 0]else .tuple #[.string ⟨#[]⟩,.int .i64 10]
theorem LF (s:BA):l9 TP 91 ⟨[.string s]⟩ (uJ s):=by
 refine fun W=>Qk s (Mem.start [] W) ⟨fun h=>?_,fun h=>?_⟩
 ·rw[uJ,if_neg (by omega)];exact lf rfl
 ·have M:s.size≤65536:=by omega
  rw[uJ,if_pos M];refine eA.pure (ze s.size) ?_;rw[A3 (Fp M)];refine⟨_,_,rfl,rfl,fun h=>absurd rfl h,fun _=>⟨?_,?_⟩⟩
  ·have:=lx s.size;rw[←vz]at this;omega
  ·rintro t rfl;exact lf rfl
theorem E7 (s:BA):l9 TP 58 ⟨[.string s]⟩ (uJ s):=by
 refine fun W=>PU s (Mem.start [] W) ⟨fun h=>?_,fun h=>?_⟩
 ·rw[uJ,if_neg (by omega)];exact lf rfl
 ·have M:s.size≤65536:=by omega
  rw[uJ,if_pos M];refine eA.pure (xn s.size) ?_;rw[A3 (Fp M)];refine⟨_,_,rfl,rfl,?_,?_⟩
  ·have:=lx s.size;rw[←vz]at this;omega
  ·rintro t rfl;exact lf rfl
theorem H9 {s : BA} (d0:s.size<4611686018427387904){w0:aj}{a:Nat}(c7:a≤s.size):∀(g i z:Nat),g+i=9→z<128^i→a+i≤s.size→
    ml ((bb s).drop a)=(oq g i z ((bb s).drop (a+i))).map (fun p=>(p.1,p.2+i))→
    Ca s (a:Int) (z:Int) (i:Int) w0 (fun e O=>e=.returned (rh (ml ((bb s).drop a)) a)∧ej w0.heap.size w0 O)
  | 0,i,z,hg,hz,hi,H=>by
    apply GX;refine⟨fun h=>absurd h (by omega),fun _=>?_⟩;rw[H];exact lf rfl
  | g + 1, i, z, hg,hz,hi,H=>by
    apply GX;have c3:ab.wrap ((a:Int)+(i:Int))=((a+i:Nat):Int):=by rw[kS (by omega)];simp
    have c4:ab.wrap (((a+i:Nat):Int)+1)=((a+i+1:Nat):Int):=by rw[kS (by omega)];simp
    rw[c3,c4];refine⟨fun _=>⟨fun h=>⟨by omega,?_⟩,fun h=>?_⟩,fun h=>absurd (by omega) h⟩
    · have a9 : a + i<(bb s).length:=by rw[lB];omega
      have c8:(bb s).drop (a+i)=(bb s)[a+i]::(bb s).drop (a+i+1):=aG a9;rw[c8]at H;obtain⟨B,a6⟩:∃B:UInt8,B=(bb s)[a+i]:=⟨_,rfl⟩;rw[←a6]at H;have d6:=B.toNat_lt;rintro b a7;rw[uM a9,←a6,oZ (by omega)]at a7;have b9:ab.wrap (7*(i:Int))=((7*i:Nat):Int):=by rw[kS (by omega)];simp
      rw[b9];refine⟨by omega,?_⟩;rintro z1 b1;have b5:b.tmod 128=((B.toNat%128:Nat):Int):=by rw[a7];exact su _ 128
      have hp:(128:Nat)^i*128≤9223372036854775808:=by
        have:(128:Nat)^i≤128^8:=jE (by decide) (by omega);have d5:(128:Nat)^8*128=9223372036854775808:=by decide
        omega
      have hm:B.toNat%128*128^i<9223372036854775808:=by
        have M:B.toNat%128<128:=Nat.mod_lt _ (by decide);have a2:B.toNat%128*128^i<128*128^i:=im M (jK (by decide));omega
      have d1:z+B.toNat%128*128^i<128^(i+1):=by
        have M:B.toNat%128≤127:=by omega
        have a2:B.toNat%128*128^i≤127*128^i:=bI _ M;rw[cY];omega
      have a4:z1=((z+B.toNat%128*128^i:Nat):Int):=by
        rw[b1,b5];have e1:min (ad ((7*i:Nat):Int)) 64=7*i:=by omega
        have b6:((B.toNat%128:Nat):Int)*2^(7*i)=((B.toNat%128*2^(7*i):Nat):Int):=by simp
        have b7:(z:Int)+((B.toNat%128*128^i:Nat):Int)=((z+B.toNat%128*128^i:Nat):Int):=by omega
        rw[e1,b6,A7,oZ (x:=((B.toNat%128*128^i:Nat):Int)) (by omega),b7,oZ (by omega)]
      clear b1;have es:ab.wrap ((i:Int)+1)=((i+1:Nat):Int):=by rw[kS (by omega)];omega
      refine⟨fun hc=>?_,fun hc=>?_⟩
      · rintro _ rfl
        rw[es,a4];refine H9 d0 c7 g (i+1) _ (by omega) d1 (by omega) ?_;have:128≤B.toNat:=by omega
        rw[H,oq,if_pos this];rw[show a+(i+1)=a+i+1 by omega];cases oq g (i+1) (z+B.toNat%128*128^i) ((bb s).drop (a+i+1))with
        |none=>rfl
        |some p=>simp;omega
      · have c9 : ¬ 128≤B.toNat:=by omega
        simp only[oq,c9,if_false]at H;obtain⟨Z,hZ⟩:∃Z,Z=z+B.toNat%128*128^i:=⟨_,rfl⟩;have d7:Z<9223372036854775808:=by
          have:(128:Nat)^(i+1)=128^i*128:=cY ..;omega
        rw[←hZ]at H a4;subst a4;have et:((Z:Int).tdiv 2)=((Z/2:Nat):Int):=zj Z 2;have c2:((Z:Int).tmod 2)=((Z%2:Nat):Int):=su Z 2;rw[et,c2,oZ (by omega),kS (by omega)];have d3:Z%2=1→nJ Z= -((Z/2:Nat):Int)-1:=fun h=>by simp[nJ,h]
        have d2:¬Z%2=1→nJ Z=((Z/2:Nat):Int):=fun h=>by simp[nJ,h]

        have a8:bb (s.extract a (a+i+1))=((bb s).drop a).take (i+1):=by rw[tA];congr 1;omega
        have yes:∀m:Int,nJ Z=m→lU m→od m=s.extract a (a+i+1)→ml ((bb s).drop a)=some (m,i+1):=by
          intro m _ V a1;have M:((bb s).drop a).take (i+1)=enc m:=by rw[←a8,←a1,ta]
          have a2:(bb s).drop a=enc m++((bb s).drop a).drop (i+1):=by rw[←M,dK]
          rw[UM V a2,←M,ao,aZ,lB];congr 2;omega
        have no:∀m:Int,nJ Z=m→ml ((bb s).drop a)≠none→lU m∧od m=s.extract a (a+i+1):=by
          intro m hm a3;rw[H]at a3;split at a3
          · exact absurd rfl a3
          · next hc2=>
            rw[if_neg hc2,hm]at H;simp only[bL]at H;obtain⟨M,a2,c6,d4⟩:=pk H;refine⟨M,tD ?_⟩;rw[ta,a8,←c6,show 1+i=i+1 by omega]
        have b3 : ∀ m:Int,nJ Z=m→eA TP 55 ⟨[.int .i64 m]⟩ [] [] w0 (fun v L'=>∃(r1:BA) (a5:Int),v=(.tuple #[.string r1,.int .i64 a5])∧L'=[]∧
                ((¬ (a5=(0:Int)))→
                  Fin (fun e O=>e=.returned (rh (ml ((bb s).drop a)) a)∧ej w0.heap.size w0 O) [] [] w0 (.tuple #[.int .i64 (0:Int),.int .i64 (0:Int),.int .i64 (10:Int)]))∧
                 ((a5=(0:Int))→
                  (0≤(a:Int)∧(a:Int)≤((a+i+1:Nat):Int)∧((a+i+1:Nat):Int)≤s.size)∧
                  ((¬r1=(s.extract (ad a) (ad ((a+i+1:Nat):Int))))→
                    Fin (fun e O=>e=.returned (rh (ml ((bb s).drop a)) a)∧ej w0.heap.size w0 O) [] [] w0 (.tuple #[.int .i64 (0:Int),.int .i64 (0:Int),.int .i64 (10:Int)]))∧
                   ((r1=(s.extract (ad a) (ad ((a+i+1:Nat):Int))))→
                    ∀b4:Int,b4=((a+i+1:Nat):Int)→
                    Fin (fun e O=>e=.returned (rh (ml ((bb s).drop a)) a)∧ej w0.heap.size w0 O) [] [] w0 (.tuple #[.int .i64 m,.int .i64 b4,.int .i64 (0:Int)])))):=by
          intro m hm;refine eA.pure (xn m) ?_;rw[ai,ai]
          by_cases V:lU m
          · rw[A3 V]
            refine⟨_,_,rfl,rfl,fun h=>absurd rfl h,fun _=>⟨by omega,fun a1=>?_,fun a1=>?_⟩⟩
            · have:ml ((bb s).drop a)=none:=by
                cases hr:ml ((bb s).drop a)with
                |none=>rfl
                |some p=>exact absurd (no m hm (by rw[hr];simp)).2 a1
              rw[this];exact lf rfl
            · rintro t rfl
              rw[yes m hm V a1];exact lf (by simp only[rh];congr 4)
          · rw[Xa V]
            refine⟨_,_,rfl,rfl,fun _=>?_,fun h=>absurd h (by decide)⟩;have:ml ((bb s).drop a)=none:=by
              cases hr:ml ((bb s).drop a)with
              |none=>rfl
              |some p=>exact absurd (no m hm (by rw[hr];simp)).1 V
            rw[this];exact lf rfl
        rintro n rfl;refine⟨fun h=>?_,fun h=>?_⟩
        · rintro n1 rfl
          have e1:ab.wrap (ab.wrap (0-((Z/2:Nat):Int))-1)= -((Z/2:Nat):Int)-1:=by
            rw[kS (x:=0-((Z/2:Nat):Int)) (by omega),kS (by omega)];omega
          rw[e1];exact b3 _ (d3 (by omega))
        · exact b3 _ (d2 (by omega))
    · have c5:(bb s).drop (a+i)=[]:=ax (by rw[lB];omega)
      rw[c5]at H;rw[H];exact lf rfl
theorem wS (s:BA)(a:Int)(O:s.size<4611686018427387904):l9 TP 155 ⟨[.string s,.int .i64 a]⟩ (oH s a):=by
 refine fun W=>ZB s a (Mem.start [] W) ?_
 refine⟨fun h=>lf ?_,fun h=>⟨fun M=>lf ?_,fun M=>?_⟩⟩
 ·simp[oH,h]
 ·simp[oH,M]
 ·obtain⟨n,rfl⟩:∃n:Nat,a=n:=⟨a.toNat,by omega⟩
  rw[oH,if_neg (by omega),ai];refine H9 O (by omega) 9 0 0 rfl (by simp) (by omega) ?_;rw[ml,Nat.add_zero];cases oq 9 0 0 ((bb s).drop n)<;>rfl
def LZ:Option (List UInt8×Nat)→Nat→aa
 |none,_=>.tuple #[.string ⟨#[]⟩,.int .i64 0,.int .i64 10]
 |some (t,k),a=>.tuple #[.string ⟨t.toArray⟩,.int .i64 ((a+k:Nat):Int),.int .i64 0]
def qe (s:BA)(a:Int):aa:=
 if a<0∨(s.size:Int)<a then .tuple #[.string ⟨#[]⟩,.int .i64 0,.int .i64 2]else LZ (rdStr ((bb s).drop a.toNat)) a.toNat
theorem LA {P : aB}{g:FuncId}{s:BA}{a:Int}(b5:s.size<4611686018427387904){w0:aj}(a9:l9 P g ⟨[.string s,.int .i64 a]⟩ (oH s a)):
      eA P g ⟨[.string s,.int .i64 a]⟩ [] [] w0 (fun v L'=>∃(r1:Int) (M:Int) (V:Int),v=(.tuple #[.int .i64 r1,.int .i64 M,.int .i64 V])∧L'=[]∧
        ((¬ (V =(0:Int)))→
          Fin (fun e O=>e=.returned (qe s a)∧ej w0.heap.size w0 O) [] [] w0 (.tuple #[.string (⟨#[]⟩),.int .i64 (0:Int),.int .i64 V]))∧
         ((V = (0:Int))→
          ((r1 <(0:Int))→
            Fin (fun e O=>e=.returned (qe s a)∧ej w0.heap.size w0 O) [] [] w0 (.tuple #[.string (⟨#[]⟩),.int .i64 (0:Int),.int .i64 (10:Int)]))∧
           ((¬ (r1<(0:Int)))→
            (((65536:Int)<r1)→
              Fin (fun e O=>e=.returned (qe s a)∧ej w0.heap.size w0 O) [] [] w0 (.tuple #[.string (⟨#[]⟩),.int .i64 (0:Int),.int .i64 (10:Int)]))∧
             ((¬((65536:Int)<r1))→
              (((ab.wrap ((s.size:Int)-M))<r1)→
                Fin (fun e O=>e=.returned (qe s a)∧ej w0.heap.size w0 O) [] [] w0 (.tuple #[.string (⟨#[]⟩),.int .i64 (0:Int),.int .i64 (10:Int)]))∧
               ((¬((ab.wrap ((s.size:Int)-M))<r1))→
                (0≤M∧M≤(ab.wrap (M+r1))∧(ab.wrap (M+r1))≤s.size)∧
                ∀a3:BA,a3=(s.extract (ad M) (ad (ab.wrap (M+r1))))→
                ∀a1:Int,a1=(ab.wrap (M+r1))→
                Fin (fun e O=>e=.returned (qe s a)∧ej w0.heap.size w0 O) [] [] w0 (.tuple #[.string a3,.int .i64 a1,.int .i64 (0:Int)])))))):=by
  refine eA.pure a9 ?_;unfold oH qe
  by_cases h:a<0∨(s.size:Int)<a
  · rw[if_pos h,if_pos h]
    exact⟨_,_,_,rfl,rfl,fun _=>lf rfl,fun h=>absurd h (by decide)⟩
  rw[if_neg h,if_neg h];obtain⟨n,rfl⟩:∃n:Nat,a=n:=⟨a.toNat,by omega⟩;rw[ai];unfold rdStr;cases hr:ml ((bb s).drop n)with
  |none=>exact⟨_,_,_,rfl,rfl,fun _=>lf rfl,fun h=>absurd h (by decide)⟩
  | some p=>
    obtain⟨m,k⟩:=p;obtain⟨hm,a2,-,-⟩:=pk hr;have b4:=a2;rw[aZ,lB]at a2;have b3:=hm;unfold lU nY at b3;refine⟨_,_,_,rfl,rfl,fun h=>absurd rfl h,fun _=>?_⟩;have e1:ab.wrap ((s.size:Int)-((n+k:Nat):Int))=((s.size-(n+k):Nat):Int):=by rw[kS (by omega)];omega
    rw[e1];have b1:((((bb s).drop n).length-k:Nat):Int)=((s.size-(n+k):Nat):Int):=by rw[aZ,lB];omega
    simp only[b1];refine⟨fun a6=>?_,fun a6=>⟨fun a7=>?_,fun a7=>⟨fun a8=>?_,fun a8=>?_⟩⟩⟩
    · rw[if_neg (by omega)];exact lf rfl
    · rw[if_neg (by omega)];exact lf rfl
    · rw[if_neg (by omega)];exact lf rfl
    · obtain⟨q,rfl⟩:∃q:Nat,m=q:=⟨m.toNat,by omega⟩
      have a4:ab.wrap (((n+k:Nat):Int)+(q:Int))=((n+k+q:Nat):Int):=by rw[kS (by omega)];omega
      rw[a4];refine⟨by omega,?_⟩;rintro t rfl a1 rfl;rw[if_pos (by omega)];refine lf ?_;simp only[LZ,ai];have a5:s.extract (n+k) (n+k+q)=⟨(List.take q (List.drop k (List.drop n (bb s)))).toArray⟩:=by
        apply tD;rw[tA,mA,cV];congr 1;omega
      rw[a5,ei]
theorem EP (s:BA)(a:Int)(M:s.size<4611686018427387904):l9 TP 122 ⟨[.string s,.int .i64 a]⟩ (qe s a):=
 fun W=>OD s a (Mem.start [] W) (LA M (xh s a M))
theorem Es (s:BA)(a:Int)(M:s.size<4611686018427387904):l9 TP 156 ⟨[.string s,.int .i64 a]⟩ (qe s a):=
 fun W=>Vn s a (Mem.start [] W) (LA M (wS s a M))
def scan (s:BA)(p:Int→Bool)(i:Nat):Bool:=((bb s).drop i).all fun c=>p (c.toNat:Int)
def se (b:Int):Bool:=decide (32≤b∧b≤126)
def rO (b:Int):Bool:=decide ((97≤b∧b≤122)∨(48≤b∧b≤57)∨b=45)
def pO (s:BA):Bool:=decide (s.size≤300)&&scan s se 0
def mK (s:BA):Bool:=decide (1≤s.size∧s.size≤20)&&scan s rO 0
def mP (s:BA):Bool:=decide (s.size≠0)&&pO s
def qU:Int→List Int→Bool
 |_,[]=>true
 |last,x::r=>decide (last<x∧x≤64)&&qU x r
def mi.ok (l:mi):Bool:=decide (0≤l.unt∧l.unt≤1000000000∧0≤l.appr∧l.appr≤5∧0≤l.den∧l.den≤15)&&qU 0 l.after
def kT.qm (b:kT):Bool:=decide (b.story=0∧b.ref=0)
def kT.kindOk (b:kT):Bool:=
 if b.kind=1 then mP b.text&&b.qm
 else if b.kind=2 then mP b.text&&b.qm
 else if b.kind=3 then pO b.text&&decide (1≤b.story∧b.story≤64∧1≤b.ref∧b.ref≤1000)
 else if b.kind=4 then mP b.text&&b.qm
 else if b.kind=5 then mK b.text&&b.qm
 else false
def kT.ok (b:kT):Bool:=decide (1≤b.id∧b.id≤1000)&&(b.lab.ok&&b.kindOk)
def uu:List kT→List kT→Bool
 |_,[]=>true
 |seen,b::r=>b.ok&&(seen.all (fun e=>decide (e.id≠b.id))&&uu (seen++[b]) r)
def m9 (l:List kT):Bool:=decide (l.length≤24)&&uu [] l
theorem Hp {s:BA}{p:Int→Bool}{i:Nat}(h:i<s.size):scan s p i=(p (k8 s i)&&scan s p (i+1)):=by
 have M:i<(bb s).length:=h;unfold scan;rw[aG M,List.all_cons,uM M]
theorem uj {s:BA}{p:Int→Bool}{i:Nat}(h:s.size≤i):scan s p i=true:=by
 unfold scan;rw[ax (by rw[lB];exact h)];rfl
theorem ua {s:BA}{p:Int→Bool}{i:Nat}(h:i<s.size)(hp:p (k8 s i)=true):scan s p i=scan s p (i+1):=by rw[Hp h,hp,aH]
theorem sq {s:BA}{p:Int→Bool}{i:Nat}(h:i<s.size)(hp:p (k8 s i)=false):scan s p i=false:=by rw[Hp h,hp,aF]
theorem XN {s:BA}{p q:Int→Bool}(h:∀b,p b=true→q b=true){i:Nat}(M:scan s p i=true):scan s q i=true:=by
 unfold scan at*;rw[List.all_eq_true]at*;exact fun x O=>h _ (M x O)
theorem Sy {s:BA}(h:mK s=true):pO s=true:=by
 simp only[mK,pO,av,decide_eq_true_eq]at*;refine⟨by omega,XN (fun b M=>?_) h.2⟩;simp only[rO,se,decide_eq_true_eq]at*;omega
def lX (lk:Lk)(p:OA)(l:List Int):Prop:=
 0<l.length→∃(b o:Nat) (c:List aa),p=some ⟨b,o,none⟩∧lk b c∧∀i (h:i<l.length),c[o+i]?=some (.int .i64 l[i])
abbrev mi.cells (l:mi)(p:OA)(c:Nat):List aa:=[.int .i64 l.unt,.slice p l.after.length c,.int .i64 l.appr,.int .i64 l.den]
abbrev kT.cells (b:kT)(p:OA)(c:Nat):List aa:=[.int .i64 b.id,.int .i64 b.kind,.string b.text,.int .i64 b.story,.int .i64 b.ref,.int .i64 b.lab.unt,.slice p b.lab.after.length c,.int .i64 b.lab.appr,.int .i64 b.lab.den]
def kT.Fits (b:kT):Prop:=b.text.size≤9223372036854775807∧b.lab.after.length≤9223372036854775807
def r9 (lk:Lk)(cs:List aa)(b:kT):Prop:=∃p c,cs=b.cells p c∧lX lk p b.lab.after∧b.Fits
def mY (lk:Lk)(p:OA)(l:List kT):Prop:=
 0<l.length→∃(b o:Nat) (c:List aa),p=some ⟨b,o,none⟩∧lk b c∧∀i (h:i<l.length),o+i*9+9≤c.length∧r9 lk ((c.drop (o+i*9)).take 9) l[i]
def nh (lk:Lk)(p:OA)(l:List BA):Prop:=
 0<l.length→∃(b o:Nat) (c:List aa),p=some ⟨b,o,none⟩∧lk b c∧∀i (h:i<l.length),c[o+i]?=some (.string l[i])
theorem lX.mono {lk M:Lk}{p:OA}{l:List Int}(h:lX lk p l)(a2:∀b c,lk b c→M b c):lX M p l:=by
 intro hp;obtain⟨b,o,c,O,V,a1⟩:=h hp;exact⟨b,o,c,O,a2 b c V,a1⟩
theorem r9.mono {lk M:Lk}{cs:List aa}{b:kT}(h:r9 lk cs b)(a2:∀b c,lk b c→M b c):r9 M cs b:=by
 obtain⟨p,c,O,V,a1⟩:=h;exact⟨p,c,O,V.mono a2,a1⟩
theorem mY.mono {lk V:Lk}{p:OA}{l:List kT}(h:mY lk p l)(O:∀b c,lk b c→V b c):mY V p l:=by
 intro hp;obtain⟨b,o,c,a1,a2,M⟩:=h hp;exact⟨b,o,c,a1,O b c a2,fun i hi=>⟨(M i hi).1,(M i hi).2.mono O⟩⟩
theorem nh.mono {lk M:Lk}{p:OA}{l:List BA}(h:nh lk p l)(a2:∀b c,lk b c→M b c):nh M p l:=by
 intro hp;obtain⟨b,o,c,O,V,a1⟩:=h hp;exact⟨b,o,c,O,a2 b c V,a1⟩
theorem lX.get {lk:Lk}{p:OA}{l:List Int}(h:lX lk p l){i:Nat}(hi:i<l.length):∃(b o:Nat) (c:List aa),p=some ⟨b,o,none⟩∧lk b c∧c[o+i]?=some (.int .i64 l[i]):=by
 obtain⟨b,o,c,M,O,V⟩:=h (by omega);exact⟨b,o,c,M,O,V i hi⟩
theorem mY.get {lk:Lk}{p:OA}{l:List kT}(h:mY lk p l){i:Nat}(hi:i<l.length):
  ∃(b o:Nat) (c:List aa),p=some ⟨b,o,none⟩∧lk b c∧o+i*9+9≤c.length∧r9 lk ((c.drop (o+i*9)).take 9) l[i]:=by
 obtain⟨b,o,c,O,V,M⟩:=h (by omega);exact⟨b,o,c,O,V,(M i hi).1,(M i hi).2⟩
theorem nh.get {lk:Lk}{p:OA}{l:List BA}(h:nh lk p l){i:Nat}(hi:i<l.length):∃(b o:Nat) (c:List aa),p=some ⟨b,o,none⟩∧lk b c∧c[o+i]?=some (.string l[i]):=by
 obtain⟨b,o,c,M,O,V⟩:=h (by omega);exact⟨b,o,c,M,O,V i hi⟩
abbrev PW (P:aB)(g:FuncId)(args:Array aa)(W:aj)(v:aa):Prop:=aE P g args W fun e W'=>e=.returned v∧ej W.heap.size W W'
theorem eA.pw {P:aB}{L:aX}{S:List Nat}{w0:aj}{g:FuncId}{args:Array aa}{v:aa}{K:aa→aX→Prop}(h:∀W,Mem L S w0 W→PW P g args W v)(M:K v L):eA P g args L S w0 K:=
 fun W hm=>(h W hm).mono fun e W' ⟨he,hb⟩=>⟨v,L,he,hm.after hb,M⟩
theorem kQ {v u:aa}{W:aj}{L:aX}(h:v=u):Fin (fun e M=>e=.returned u∧ej W.heap.size W M) L [] W v:=fun _ hm=>⟨by rw[h],hm.kept.below⟩
theorem lK {w0 W:aj}{L:aX}(hm:Mem L [] w0 W):∀b c,kY w0 b c→kY W b c:=fun b c h=>sh hm.kept (by simp) h
def E4 (L:aX)(w0:aj):Lk:=fun b c=>(∃t fz,(b,bu ⟨c⟩ t fz)∈L)∨kY w0 b c
theorem X8 {w0:aj}{L:aX}:∀b c,kY w0 b c→E4 L w0 b c:=fun _ _ h=>.inr h
variable {P:Program}{R:Ending→World→Prop}{S:List Nat}{w0 W:World}{lk:Lk}{tp bp ap:OA}{tc bc ac:Nat}{K K':Value→aX→Prop}{args:Array Value}{g:FuncId}
noncomputable def AB (b:BA)(a:Int):Cut:=⟨TP,[],186,23,(KC Tryz.f186 116),[(0,.string b),(3,IV a)],[]⟩
theorem Lj (b:BA)(a:Int)(H:VP [] w0 R (.P 8 10 (a<(b.size:Int)) (.r 8<|.ix b a<|.P 2 17 ((k8 b a)<32) (.re 11 (.bool false) [])<|.r 2<|.ix b a<|.P 3 22 (126<(k8 b a)) (.re 5 (.bool false) [])<|.li 7 3 (ab.wrap (a+1)) fun c=>.ct 2 [] (AB b c))<|.re 6 (.bool true) [])):AB b a w0 R:=VC.go Tryz.func186 _ H
theorem PI (a:BA)(hm:Mem [] [] w0 W)(H:VP [] w0 R (.P 11 6 (300<(a.size:Int)) (.re 5 (.bool false) [])<|.ct 9 [] (AB a 0))):aE TP 186 ⟨[.string a]⟩ W R:=VC.cs Tryz.func186 hm _ H
noncomputable def BB (b:BA)(a:Int):Cut:=⟨TP,[],180,23,(KC Tryz.f180 52),[(0,.string b),(3,IV a)],[]⟩
theorem GU (a:BA)(b:Int)(H:VP [] w0 R (.P 8 7 (b<(a.size:Int)) (.r 8<|.ix a b<|.P 2 14 ((k8 a b)<32) (.re 11 (.bool false) [])<|.r 2<|.ix a b<|.P 3 19 (126<(k8 a b)) (.re 5 (.bool false) [])<|.li 7 3 (ab.wrap (b+1)) fun c=>.ct 2 [] (BB a c))<|.re 9 (.bool (decide ((a.size:Int)≤300))) [])):BB a b w0 R:=VC.go Tryz.func180 _ H
theorem QC (a:BA)(hm:Mem [] [] w0 W)(H:VP [] w0 R (.ct 11 [] (BB a 0))):aE TP 180 ⟨[.string a]⟩ W R:=VC.cs Tryz.func180 hm _ H
noncomputable def qX (b:BA)(a:Int):Cut:=⟨TP,[],193,52,(KC Tryz.f193 116),[(0,.string b),(3,IV a)],[]⟩
theorem M0 (b:BA)(a:Int)(H:VP [] w0 R (.P 8 17 (a<(b.size:Int)) (.r 8<|.ix b a<|.P 2 24 (97≤(k8 b a)) (.r 2<|.ix b a<|.r 8<|.ix b a<|.P 2 34 (48≤(k8 b a)) (.r 2<|.ix b a<|.I 9 42 ((k8 b a)≤122) (.I 4 46 ((k8 b a)≤57) (.r 2<|.ix b a<|.I 3 51 ((k8 b a)=45) (.re 5 (.bool false) [])<|.li 7 3 (ab.wrap (a+1)) fun c=>.ct 2 [] (qX b c))<|.li 13 3 (ab.wrap (a+1)) fun d=>.ct 2 [] (qX b d))<|.li 17 3 (ab.wrap (a+1)) fun e=>.ct 2 [] (qX b e))<|.I 12 42 ((k8 b a)≤122) (.r 6<|.ix b a<|.I 3 51 ((k8 b a)=45) (.re 5 (.bool false) [])<|.li 7 3 (ab.wrap (a+1)) fun f=>.ct 2 [] (qX b f))<|.li 17 3 (ab.wrap (a+1)) fun g=>.ct 2 [] (qX b g))<|.r 11<|.ix b a<|.P 2 34 (48≤(k8 b a)) (.r 2<|.ix b a<|.I 13 46 ((k8 b a)≤57) (.r 2<|.ix b a<|.I 3 51 ((k8 b a)=45) (.re 5 (.bool false) [])<|.li 7 3 (ab.wrap (a+1)) fun h=>.ct 2 [] (qX b h))<|.li 13 3 (ab.wrap (a+1)) fun i=>.ct 2 [] (qX b i))<|.r 18<|.ix b a<|.I 3 51 ((k8 b a)=45) (.re 5 (.bool false) [])<|.li 7 3 (ab.wrap (a+1)) fun j=>.ct 2 [] (qX b j))<|.re 6 (.bool true) [])):qX b a w0 R:=VC.go Tryz.func193 _ H
theorem OL (a:BA)(hm:Mem [] [] w0 W)(H:VP [] w0 R (.P 11 9 ((a.size:Int)<1) (.re 10 (.bool false) [])<|.P 5 13 (20<(a.size:Int)) (.re 5 (.bool false) [])<|.ct 9 [] (qX a 0))):aE TP 193 ⟨[.string a]⟩ W R:=VC.cs Tryz.func193 hm _ H
noncomputable def r7 (b:BA)(a:Int):Cut:=⟨TP,[],161,43,(KC Tryz.f161 52),[(0,.string b),(3,IV a)],[]⟩
theorem Nt (a:BA)(b:Int)(H:VP [] w0 R (.P 8 9 (b<(a.size:Int)) (.r 8<|.ix a b<|.r 1<|.oY (kd:=.u8) 4 (k8 a b) fun c=>.P 6 17 (97≤c) (.P 4 21 (c≤122) (.li 25 3 (ab.wrap (b+1)) fun d=>.ct 2 [] (r7 a d))<|.P 3 24 (48≤c) (.P 5 29 (c≤57) (.li 17 3 (ab.wrap (b+1)) fun e=>.ct 2 [] (r7 a e))<|.I 10 34 (c=45) (.re 5 (.bool false) [])<|.li 7 3 (ab.wrap (b+1)) fun f=>.ct 2 [] (r7 a f))<|.I 15 34 (c=45) (.re 5 (.bool false) [])<|.li 7 3 (ab.wrap (b+1)) fun g=>.ct 2 [] (r7 a g))<|.P 7 24 (48≤c) (.P 5 29 (c≤57) (.li 17 3 (ab.wrap (b+1)) fun h=>.ct 2 [] (r7 a h))<|.I 10 34 (c=45) (.re 5 (.bool false) [])<|.li 7 3 (ab.wrap (b+1)) fun i=>.ct 2 [] (r7 a i))<|.I 15 34 (c=45) (.re 5 (.bool false) [])<|.li 7 3 (ab.wrap (b+1)) fun j=>.ct 2 [] (r7 a j))<|.P 8 38 (1≤(a.size:Int)) (.re 6 (.bool (decide ((a.size:Int)≤20))) [])<|.re 6 (.bool false) [])):r7 a b w0 R:=VC.go Tryz.func161 _ H
theorem PT (a:BA)(hm:Mem [] [] w0 W)(H:VP [] w0 R (.ct 11 [] (r7 a 0))):aE TP 161 ⟨[.string a]⟩ W R:=VC.cs Tryz.func161 hm _ H
theorem U2 (a:BA)(hm:Mem [] [] w0 W)(H:VP [] w0 R (.sN 9 5 a (⟨#[]⟩:BA) (.cl 1 186 [.string a] []<|.ex fun b=>.rt (.bool b) []<|.re 3 (.bool b) [])<|.re 5 (.bool false) [])):aE TP 185 ⟨[.string a]⟩ W R:=VC.cs Tryz.func185 hm _ H
noncomputable def zO (c:OA)(b a:Nat)(f:OA)(e d:Nat)(g h:Int):Cut:=⟨TP,[],149,26,(KC Tryz.f149 116),[(0,.slice c b a),(1,.slice f e d),(12,IV g),(13,IV h)],[]⟩
theorem Ms (m:OA)(g f:Nat)(n:OA)(i h:Nat)(j a:Int)(H:VP [] w0 R (.P 5 14 (a<j) (.r 10<|.dr 9<|.qu [2]<|.x2 fun d b=>.sp m d b [0,16]<|.iL d b g f 1 a (b+(ad a))<|.x2 fun o k=>.lW d (b+(ad a)) 3 o (IV k)<|.qu [2]<|.x2 fun e c=>.sp n e c [1,20]<|.iL e c i h 1 a (c+(ad a))<|.x2 fun p l=>.lW e (c+(ad a)) 3 p (IV l)<|.qu [1]<|.dn<|.I 1 24 (k=l) (.re 5 (.bool false) [])<|.ct 8 [] (zO (some ⟨d,b,none⟩) g f (some ⟨e,c,none⟩) i h j (ab.wrap (a+1))))<|.re 6 (.bool true) [])):zO m g f n i h j a w0 R:=VC.go Tryz.func149 _ H
theorem Xj (d:OA)(a c:Nat)(f:OA)(b e:Nat)(hm:Mem [] [] w0 W)(H:VP [] w0 R (.I 13 10 ((a:Int)=(b:Int)) (.re 5 (.bool false) [])<|.ct 11 [] (zO d a c f b e (a:Int) 0))):aE TP 149 ⟨[.slice d a c,.slice f b e]⟩ W R:=VC.cs Tryz.func149 hm _ H
noncomputable def Ax (a:Int)(d:OA)(c b:Nat)(e f:Int):Cut:=⟨TP,[],101,34,(KC Tryz.f101 244),[(3,IV a),(19,.slice d c b),(20,IV e),(21,IV f)],[]⟩
abbrev kEfq:=(.cells #[IV 0,IV 0,IV 0] 205:Obj)
theorem Le (c:Int)(k:OA)(g f:Nat)(h b:Int)(H:VP [] w0 R (.P 5 22 (b<h) (.r 6<|.x2 fun e d=>.sp k e d [19]<|.iL e d g f 1 b (d+(ad b))<|.x2 fun m a=>.lW e (d+(ad b)) 3 m (IV a)<|.r 9<|.ns false 1 (.cells #[IV a,IV (ab.wrap (c+1)),IV 64] 205) fun i=>.il 0 Tryz.func142 [.slice (SO i) 1 1]<|.ru [25,200]<|.np 0 kEfq fun l=>.hp [(i,.cells #[IV a,IV (ab.wrap (c+1)),IV 64] 205),(l,.cells #[IV a,IV (ab.wrap (c+1)),IV 64] 205)] fun j=>.ru [201,4,201,1,201]<|.P 2 16 (a<(ab.wrap (c+1))) (.rk 12<|.re 7 (.bool false) j)<|.ru [1,201,1,201]<|.P 3 22 (64<a) (.rk 5<|.re 7 (.bool false) j)<|.rk 19<|.ct 14 [] (Ax a (some ⟨e,d,none⟩) g f h (ab.wrap (b+1))))<|.re 6 (.bool true) [])):Ax c k g f h b w0 R:=VC.go Tryz.func101 _ H
abbrev kAuq (x0 x1 x2 x3 x4 x5):=(#[IV x0,.slice x1 x2 x3,IV x4,IV x5]:Array aa)
abbrev kCpq (x0 x1 x2 x3 x4 x5 x6):=((x0,.cells (kAuq x1 x2 x3 x4 x5 x6) 36):Nat×Obj)
abbrev kCzq (x0 x1 x2):=(#[IV x0,IV 0,IV 1000000000,IV x1,IV 0,IV 5,IV x2,IV 0,IV 15]:Array aa)
abbrev kEtq (x0 x1):=((x0,.cells #[IV x1,IV 0,IV 1000000000] 205):Nat×Obj)
theorem Xq (a:Int)(d:OA)(b c:Nat)(ba bd:Int)(hm:Mem [] [] w0 W)(H:VP [] w0 R (.np 2 (.cells (kAuq a d b c ba bd) 36) fun B=>.ru [6,200,2,200,2,200]<|.r 1<|.ns false 3 (.cells (kCzq a ba bd) 205) fun e=>.il 0 Tryz.func142 [.slice (SO e) 3 3]<|.ru [25,201]<|.np 0 kEfq fun f=>.hp [(kCpq B a d b c ba bd),(e,.cells (kCzq a ba bd) 205),(kEtq f a)] fun h=>.ru [202,4,202,1,202]<|.P 2 16 (a<0) (.rk 12<|.re 7 (.bool false) h)<|.ru [1,202,1,202]<|.P 3 22 (1000000000<a) (.rk 5<|.re 7 (.bool false) h)<|.ru [20,201]<|.np 0 kEfq fun g=>.hp [(kCpq B a d b c ba bd),(e,.cells (kCzq a ba bd) 205),(kEtq f a),(g,.cells #[IV ba,IV 0,IV 5] 205)] fun i=>.ru [203,4,203,1,203]<|.P 2 16 (ba<0) (.rk 12<|.re 7 (.bool false) i)<|.ru [1,203,1,203]<|.P 3 22 (5<ba) (.rk 5<|.re 7 (.bool false) i)<|.ru [20,201]<|.np 0 kEfq fun k=>.hp [(kCpq B a d b c ba bd),(e,.cells (kCzq a ba bd) 205),(kEtq f a),(g,.cells #[IV ba,IV 0,IV 5] 205),(k,.cells #[IV bd,IV 0,IV 15] 205)] fun j=>.ru [204,4,204,1,204]<|.P 2 16 (bd<0) (.rk 12<|.re 7 (.bool false) j)<|.ru [1,204,1,204]<|.P 3 22 (15<bd) (.rk 5<|.re 7 (.bool false) j)<|.rk 19<|.ru [12,200]<|.ct 5 [] (Ax 0 d b c (b:Int) 0))):aE TP 101 ⟨[.agg (kAuq a d b c ba bd)]⟩ W R:=VC.cs Tryz.func101 hm _ H
def xS (a:Nat)(c b d:Int)(g:OA)(f e:Nat)(h i:Int)(w0:aj)(R:bJ→aj→Prop):Prop:=
 kO TP 165 60 (KC gj 244) [(1,PP a),(3,IV c),(4,IV b)] [(a,.cells #[IV d,.slice g f e,IV h,IV i] 36)] [] w0 (lN R)
abbrev kBfq (x0 x1 x2 x3 x4 x5 x6 x7):=((x0,.cells #[IV x1,.slice (some ⟨x2,x3,none⟩) x4 x5,IV x6,IV x7] 36):Nat×Obj)
theorem My (f:Nat)(x a h:Int)(w:OA)(e g:Nat)(i j:Int)
 (H:
 Br (a<(e:Int))
 (∃d c:Nat,w=some ⟨d,c,none⟩∧
 (0≤a∧a<e)∧
 ∃(q:List aa) (n:Int),lG w0 d=some q∧q[(c+(ad a))]?=some (IV n)∧
 Br (n≤x)
 (Fin R [(kBfq f h d c e g i j)] [] w0 (.bool false))
 ((0≤a∧a<e)∧
 ∃(s:List aa) (p:Int),lG w0 d=some s∧s[(c+(ad a))]?=some (IV p)∧
 Br ((64:Int)<p)
 (Fin R [(kBfq f h d c e g i j)] [] w0 (.bool false))
 ((0≤a∧a<e)∧
 ∃(t:List aa) (m:Int),lG w0 d=some t∧t[(c+(ad a))]?=some (IV m)∧
 ∀u:Int,u=(ab.wrap (a+(1:Int)))→
 xS f m u h (some ⟨d,c,none⟩) e g i j w0 R)))
 (Fin R [(kCpq f h w e g i j)] [] w0 (.bool true))):
 xS f x a h w e g i j w0 R:=by
 unfold xS;refine .ru 5 (.ld 0 1 (.ru 3 (.sP 37 H ?_ ?_)))<;>clear H<;>intro H
 ·refine .ru 8 (.ld 0 1 (.ru 1 ?_))
  obtain⟨d,c,rfl,H⟩:=H;refine .nr (E:=3) (b:=d) (o:=c) (len:=e) (cap:=g) (sz:=1) (o':=(c+(ad a))) (kd:=.i64) (i:=a) (by kernel_rfl) H.1 (by omega) ?_
  replace H:=H.2
  obtain⟨q,n,k,l,H⟩:=H;refine .pV (b:=d) (off:=(c+(ad a))) (T:=3) (v:=IV n) (by kernel_rfl) bG k (o4 l (by kernel_rfl)) (.ru 3 (.sP 47 H ?_ ?_))<;>clear H<;>intro H
  ·refine .nm (KR gj 7824 [8,9,10,11,12,13,14]) [(1,PP f),(4,IV a),(47,.bool true)] [(kBfq f h d c e g i j)] (.ru 13 (.rt dH H))
  ·refine .nm (KR gj 7824 [8,9,10,11,12,13,14]) [(1,PP f),(4,IV a),(47,.bool false)] [(kBfq f h d c e g i j)] (.ru 1 (.ld 0 1 (.ru 1 (.nr (E:=3) (b:=d) (o:=c) (len:=e) (cap:=g) (sz:=1) (o':=(c+(ad a))) (kd:=.i64) (i:=a) (by kernel_rfl) H.1 (by omega) ?_))))
   replace H:=H.2
   obtain⟨s,p,k,l,H⟩:=H;refine .pV (b:=d) (off:=(c+(ad a))) (T:=3) (v:=IV p) (by kernel_rfl) bG k (o4 l (by kernel_rfl)) (.ru 3 (.sP 54 H ?_ ?_))<;>clear H<;>intro H
   ·refine .ru 5 (.rt dH H)
   ·refine .ru 4 (.ld 0 1 (.ru 1 (.nr (E:=3) (b:=d) (o:=c) (len:=e) (cap:=g) (sz:=1) (o':=(c+(ad a))) (kd:=.i64) (i:=a) (by kernel_rfl) H.1 (by omega) ?_)))
    replace H:=H.2
    obtain⟨t,m,k,l,H⟩:=H;refine .pV (b:=d) (off:=(c+(ad a))) (T:=3) (v:=IV m) (by kernel_rfl) bG k (o4 l (by kernel_rfl)) (.nm (KR gj 3913 [5]) [(1,PP f),(4,IV a),(59,IV m)] [(kBfq f h d c e g i j)] (.ru 7 (.lI 4 H fun u H=>(.ru 2 (.ct [0] H)))))
 ·refine .ru 6 (.rt dH H)
theorem Yq (a:Int)(d:OA)(c b:Nat)(ba bd:Int)(hm:Mem [] [] w0 W)
 (H:
 ∀B:Nat,
 Br (a<0)
 (Fin R [(kCpq B a d c b ba bd)] [] w0 (.bool false))
 (Br ((1000000000:Int)<a)
 (Fin R [(kCpq B a d c b ba bd)] [] w0 (.bool false))
 (Br (ba<0)
 (Fin R [(kCpq B a d c b ba bd)] [] w0 (.bool false))
 (Br ((5:Int)<ba)
 (Fin R [(kCpq B a d c b ba bd)] [] w0 (.bool false))
 (Br (bd<0)
 (Fin R [(kCpq B a d c b ba bd)] [] w0 (.bool false))
 (Br ((15:Int)<bd)
 (Fin R [(kCpq B a d c b ba bd)] [] w0 (.bool false))
 (xS B (0:Int) (0:Int) a d c b ba bd w0 R))))))):
 aE TP 165 ⟨[.agg (kAuq a d c b ba bd)]⟩ W R:=by
 refine kO.cs 60 dH hm (.ru 2 (.nH (.cells (kAuq a d c b ba bd) 36) H fun B H=>(.ru 6 (.ld 0 0 (.ru 2 (.sP 8 H (fun H=>?_) fun H=>?_))))))
 ·refine .ru 30 (.rt dH H)
 ·refine .ru 1 (.ld 0 0 (.ru 3 (.sP 13 H (fun H=>?_) fun H=>?_)))
  ·refine .ru 25 (.rt dH H)
  ·refine .ru 1 (.ld 0 2 (.ru 3 (.sP 18 H (fun H=>?_) fun H=>?_)))
   ·refine .nm (KR gj 12 [14,15,16,17,18,19,20,21,22,23,24,25,26,27]) [(1,PP B),(18,.bool true)] [(kCpq B a d c b ba bd)] (.ru 20 (.rt dH H))
   ·refine .nm (KR gj 12 [14,15,16,17,18,19,20,21,22,23,24,25,26,27]) [(1,PP B),(18,.bool false)] [(kCpq B a d c b ba bd)] (.ru 1 (.ld 0 2 (.ru 3 (.sP 23 H (fun H=>?_) fun H=>?_))))
    ·refine .ru 15 (.rt dH H)
    ·refine .ru 1 (.ld 0 3 (.ru 3 (.sP 28 H (fun H=>?_) fun H=>?_)))
     ·refine .ru 10 (.rt dH H)
     ·refine .ru 1 (.ld 0 3 (.ru 3 (.sP 32 H (fun H=>?_) fun H=>?_)))
      ·refine .ru 5 (.rt dH H)
      ·refine .ru 13 (.ct [0] H)
theorem Q7 (g:Int)(f:OA)(e c:Nat)(b d m:Int)(l:OA)(k i:Nat)(h j:Int)(hm:Mem [] [] w0 W)(H:VP [] w0 R (.np 2 (.cells (kAuq g f e c b d) 36) fun B=>.np 0 (.cells (kAuq m l k i h j) 36) fun o=>.hp [(kCpq B g f e c b d),(kCpq o m l k i h j)] fun a=>.ru [5,200,1,201]<|.P 2 10 (g=m) (.ru [1,200,1,201]<|.cl 0 149 [.slice f e c,.slice l k i] a<|.ex fun n=>.rt (.bool n) a<|.B 2 17 n (.ru [1,200,1,201]<|.P 3 24 (b=h) (.ru [1,200,1,201]<|.re 4 (.bool (decide (d=j))) a)<|.re 8 (.bool false) a)<|.re 15 (.bool false) a)<|.re 22 (.bool false) a)):aE TP 108 ⟨[.agg (kAuq g f e c b d),.agg (kAuq m l k i h j)]⟩ W R:=VC.cs Tryz.func108 hm _ H
abbrev wh (a:Nat)(c:Int)(j:OA)(i h:Nat)(k m:Int)(b:Nat)(d:Int)(g:OA)(f e:Nat)(l n:Int):aX:=[(a,.cells #[IV c,.slice j i h,IV k,IV m] 36),(b,.cells #[IV d,.slice g f e,IV l,IV n] 36)]
def xO (a b:Nat)(c d:Int)(k:OA)(j i:Nat)(l n e:Int)(h:OA)(g f:Nat)(m o:Int)(w0:aj)(R:bJ→aj→Prop):Prop:=
 kO TP 119 50 (KC gQ 116) [(2,PP a),(3,PP b),(5,IV c)] (wh a d k j i l n b e h g f m o) [] w0 (lN R)
theorem J2 (c d:Nat)(a i:Int)(w:OA)(e l:Nat)(g m j:Int)(u:OA)(f k:Nat)(h n:Int)
 (H:
 Br (a<(e:Int))
 (∃t q:Nat,w=some ⟨t,q,none⟩∧
 (0≤a∧a<e)∧
 ∃(z:List aa) (x:Int),lG w0 t=some z∧z[(q+(ad a))]?=some (IV x)∧
 ∃s p:Nat,u=some ⟨s,p,none⟩∧
 (0≤a∧a<f)∧
 ∃(A:List aa) (y:Int),lG w0 s=some A∧A[(p+(ad a))]?=some (IV y)∧
 Bn (x=y)
 (Fin R [(kBfq c i t q e l g m),(kBfq d j s p f k h n)] [] w0 (.bool false))
 (∀F:Int,F=(ab.wrap (a+(1:Int)))→
 xO c d F i (some ⟨t,q,none⟩) e l g m j (some ⟨s,p,none⟩) f k h n w0 R))
 (Br (i=j)
 (Br (g=h)
 (Fin R (wh c i w e l g m d j u f k h n) [] w0 (.bool (decide (m=n))))
 (Fin R (wh c i w e l g m d j u f k h n) [] w0 (.bool false)))
 (Fin R (wh c i w e l g m d j u f k h n) [] w0 (.bool false)))):
 xO c d a i w e l g m j u f k h n w0 R:=by
 unfold xO;refine .ru 5 (.ld 0 1 (.ru 3 (.sP 17 H ?_ ?_)))<;>clear H<;>intro H
 ·refine .ru 5 (.nm (KC gQ 1864) [(2,PP c),(3,PP d),(5,IV a)] (wh c i w e l g m d j u f k h n) (.dr 11 (.pu (.ld 0 1 (.pu ?_)))))
  obtain⟨t,q,rfl,H⟩:=H;refine .nr (E:=3) (b:=t) (o:=q) (len:=e) (cap:=l) (sz:=1) (o':=(q+(ad a))) (kd:=.i64) (i:=a) (by kernel_rfl) H.1 (by omega) ?_
  replace H:=H.2
  obtain⟨z,x,C,D,H⟩:=H;refine .pV (b:=t) (off:=(q+(ad a))) (T:=3) (v:=IV x) (by kernel_rfl) bG C (o4 D (by kernel_rfl)) (.pu (.ld 1 1 (.pu ?_)));obtain⟨s,p,rfl,H⟩:=H;refine .nr (E:=3) (b:=s) (o:=p) (len:=f) (cap:=k) (sz:=1) (o':=(p+(ad a))) (kd:=.i64) (i:=a) (by kernel_rfl) H.1 (by omega) ?_
  replace H:=H.2
  obtain⟨A,y,C,D,H⟩:=H;refine .pV (b:=s) (off:=(p+(ad a))) (T:=3) (v:=IV y) (by kernel_rfl) bG C (o4 D (by kernel_rfl)) (.pu (.dn (.ru 1 (.sN 30 H ?_ ?_))))<;>clear H<;>intro H
  ·refine .nm (KC gQ 1865) [(2,PP c),(3,PP d),(5,IV a),(30,.bool true)] [(kBfq c i t q e l g m),(kBfq d j s p f k h n)] (.ru 5 (.rt fi H))
  ·refine .nm (KC gQ 1865) [(2,PP c),(3,PP d),(5,IV a),(30,.bool false)] [(kBfq c i t q e l g m),(kBfq d j s p f k h n)] (.ru 7 (.lI 5 H fun F H=>(.ru 2 (.ct [0,1] H))))
 ·refine .ru 5 (.ld 0 0 (.ru 1 (.ld 1 0 (.ru 2 (.sP 36 H ?_ ?_)))))<;>clear H<;>intro H
  ·refine .ru 1 (.ld 0 2 (.ru 1 (.ld 1 2 (.nm (KR gQ 30 [10,11,12,13,14,15,16,17,18,19]) [(2,PP c),(3,PP d),(36,.bool true),(38,IV g),(40,IV h)] (wh c i w e l g m d j u f k h n) (.ru 3 (.sP 43 H ?_ ?_))))))<;>clear H<;>intro H
   ·refine .ru 1 (.ld 0 3 (.ru 1 (.ld 1 3 (.ru 4 (.rt fi H)))))
   ·refine .ru 8 (.rt fi H)
  ·refine .ru 15 (.rt fi H)
theorem Rn (g:Int)(f:OA)(a d:Nat)(c e l:Int)(k:OA)(b i:Nat)(h j:Int)(hm:Mem [] [] w0 W)
 (H:
 ∀B m:Nat,
 Bn ((a:Int)=(b:Int))
 (Fin R [(kCpq B g f a d c e),(kCpq m l k b i h j)] [] w0 (.bool false))
 (xO B m (0:Int) g f a d c e l k b i h j w0 R)):
 aE TP 119 ⟨[.agg (kAuq g f a d c e),.agg (kAuq l k b i h j)]⟩ W R:=by
 refine kO.cs 50 fi hm (.ru 2 (.nH (.cells (kAuq g f a d c e) 36) H fun B H=>(.nH (.cells (kAuq l k b i h j) 36) H fun m H=>(.ru 6 (.ld 0 1 (.ru 2 (.ld 1 1 (.ru 3 (.sN 12 H (fun H=>?_) fun H=>?_)))))))))
 ·refine .ru 5 (.rt fi H)
 ·refine .ru 9 (.ct [0,1] H)
theorem lD {L:aX}{v u:aa}(h:Fin R L S w0 u)(e:v=u):Fin R L S w0 v:=e▸h
theorem Nc {s:BA}(O:s.size≤9223372036854775807):∀(g i:Nat),g+i=s.size→Fin R [] [] w0 (.bool (scan s se i))→AB s (i:Int) w0 R
 |0,i,hg,H=>by
  apply Lj;exact no (by omega) (lD H (by rw[uj (by omega)]))
 | g+1,i,hg,H=>by
  apply Lj;have hi:i<s.size:=by omega
  refine yes (by omega) ⟨by omega,fun h=>lD H ?_,fun h=>⟨by omega,fun M=>lD H ?_,fun M=>?_⟩⟩
  ·rw[sq hi (decide_eq_false (by omega))]
  ·rw[sq hi (decide_eq_false (by omega))]
  ·rintro _ rfl
   rw[kS (by omega),show(i:Int)+1=((i+1:Nat):Int)by omega];rw[ua hi (decide_eq_true (by omega))]at H;exact Nc O g (i+1) (by omega) H
theorem Jj {s:BA}(O:s.size≤9223372036854775807):∀(g i:Nat),g+i=s.size→Fin R [] [] w0 (.bool (decide (s.size≤300)&&scan s se i))→BB s (i:Int) w0 R
 |0,i,hg,H=>by
  apply GU;refine no (by omega) (lD H ?_);rw[uj (by omega),Bool.and_true];congr 1;simp only[decide_eq_decide];omega
 | g+1,i,hg,H=>by
  apply GU;have hi:i<s.size:=by omega
  refine yes (by omega) ⟨by omega,fun h=>lD H ?_,fun h=>⟨by omega,fun M=>lD H ?_,fun M=>?_⟩⟩
  ·rw[sq hi (decide_eq_false (by omega)),bz]
  ·rw[sq hi (decide_eq_false (by omega)),bz]
  ·rintro _ rfl
   rw[kS (by omega),show(i:Int)+1=((i+1:Nat):Int)by omega];rw[ua hi (decide_eq_true (by omega))]at H;exact Jj O g (i+1) (by omega) H
theorem G7 (s:BA)(M:s.size≤9223372036854775807):l9 TP 186 ⟨[.string s]⟩ (.bool (pO s)):=by
 intro W;refine PI s (Mem.start [] W) ⟨fun h=>lf ?_,fun h=>Nc M s.size 0 (by omega) (lf ?_)⟩
 ·rw[pO,decide_eq_false (by omega),aF]
 ·rw[pO,decide_eq_true (by omega),aH]
theorem Mh (s:BA)(M:s.size≤9223372036854775807):l9 TP 180 ⟨[.string s]⟩ (.bool (pO s)):=fun W=>
 QC s (Mem.start [] W) (Jj M s.size 0 (by omega) (lf rfl))
theorem Mp {s:BA}(M:s.size≤9223372036854775807):∀(g i:Nat),g+i=s.size→Fin R [] [] w0 (.bool (scan s rO i))→qX s (i:Int) w0 R
 |0,i,hg,H=>by
  apply M0;exact no (by omega) (lD H (by rw[uj (by omega)]))
 | g+1,i,hg,H=>by
  apply M0;have hi:i<s.size:=by omega
  have next:rO (k8 s i)=true→∀x:Int,x=ab.wrap ((i:Int)+1)→qX s x w0 R:=by
   rintro hn _ rfl;rw[kS (by omega),show(i:Int)+1=((i+1:Nat):Int)by omega];rw[ua hi hn]at H;exact Mp M g (i+1) (by omega) H
  have stop:rO (k8 s i)=false→Fin R [] [] w0 (.bool false):=fun hn=>lD H (by rw[sq hi hn])
  refine yes (by omega) ?_
  repeat' (first
   |refine And.intro ?_ ?_
   |omega
   |exact stop (decide_eq_false (by omega))
   |exact next (decide_eq_true (by omega))
   |intro _)
theorem JF {s:BA}(O:s.size≤9223372036854775807):∀(g i:Nat),g+i=s.size→Fin R [] [] w0 (.bool (decide (1≤s.size∧s.size≤20)&&scan s rO i))→r7 s (i:Int) w0 R
 | 0,i,hg,H=>by
  apply Nt;refine no (by omega) ⟨fun h=>lD H ?_,fun h=>lD H ?_⟩
  ·rw[uj (by omega),Bool.and_true]
   congr 1;simp only[decide_eq_decide];omega
  ·rw[decide_eq_false (by omega),aF]
 | g+1,i,hg,H=>by
  apply Nt;have hi:i<s.size:=by omega
  have next:rO (k8 s i)=true→∀x:Int,x=ab.wrap ((i:Int)+1)→r7 s x w0 R:=by
   rintro hn _ rfl;rw[kS (by omega),show(i:Int)+1=((i+1:Nat):Int)by omega];rw[ua hi hn]at H;exact JF O g (i+1) (by omega) H
  have stop:rO (k8 s i)=false→Fin R [] [] w0 (.bool false):=fun hn=>lD H (by rw[sq hi hn,bz])
  refine yes (by omega) ⟨by omega,?_⟩;rintro cv M;rw[←M]at next stop
  repeat' (first
   |refine And.intro ?_ ?_
   |omega
   |exact stop (decide_eq_false (by omega))
   |exact next (decide_eq_true (by omega))
   |intro _)
theorem YO (s:BA)(O:s.size≤9223372036854775807):l9 TP 193 ⟨[.string s]⟩ (.bool (mK s)):=by
 intro W;refine OL s (Mem.start [] W) ⟨fun h=>lf ?_,fun h=>⟨fun M=>lf ?_,fun M=>Mp O s.size 0 (by omega) (lf ?_)⟩⟩
 ·rw[mK,decide_eq_false (by omega),aF]
 ·rw[mK,decide_eq_false (by omega),aF]
 ·rw[mK,decide_eq_true (by omega),aH]
theorem ye (s:BA)(M:s.size≤9223372036854775807):l9 TP 161 ⟨[.string s]⟩ (.bool (mK s)):=fun W=>
 PT s (Mem.start [] W) (JF M s.size 0 (by omega) (lf rfl))
theorem Az {s:BA}:s=(⟨#[]⟩:BA)↔s.size=0:=⟨fun h=>by rw[h];rfl,fun h=>tD (by rw[Ys];exact aQ.1 (by rw[lB];exact h))⟩
theorem E3 (s:BA)(O:s.size≤9223372036854775807):l9 TP 185 ⟨[.string s]⟩ (.bool (mP s)):=by
 intro W;refine U2 s (Mem.start [] W) ⟨fun h=>eA.pure (G7 s O) ⟨_,rfl,rfl,lf ?_⟩,fun h=>lf ?_⟩
 ·rw[mP,decide_eq_true (show s.size≠0 from fun M=>h (Az.2 M)),aH]
 ·rw[mP,decide_eq_false (show¬s.size≠0 from fun M=>M (Az.1 h)),aF]
theorem drop_eq {α:Type}{a b:List α}{i:Nat}(M:i<a.length)(O:i<b.length):(a.drop i=b.drop i)=(a[i]=b[i]∧a.drop (i+1)=b.drop (i+1)):=by
 rw[aG M,aG O];simp only[List.cons.injEq]
theorem Mi {w0:aj}{p q:OA}{a4 a5:Nat}{R:bJ→aj→Prop}{a b:List Int}(V:lX (kY w0) p a)(a1:lX (kY w0) q b)(b1:a.length=b.length)(hm:a.length≤9223372036854775807):
  ∀(g i:Nat),g+i=a.length→Fin R [] [] w0 (.bool (decide (a.drop i=b.drop i)))→zO p a.length a4 q b.length a5 (a.length:Int) (i:Int) w0 R
 |0,i,hg,H=>by
  apply Ms;refine no (by omega) (lD H ?_);rw[ax (by omega),ax (by omega)];simp
 | g+1,i,hg,H=>by
  apply Ms;have M:i<a.length:=by omega
  have O:i<b.length:=by omega
  obtain⟨a2,o1,c1,rfl,a6,a7⟩:=V.get M;obtain⟨B2,b3,a3,rfl,a8,a9⟩:=a1.get O;simp only[drop_eq M O]at H;refine yes (by omega) ⟨a2,o1,rfl,by omega,c1,a[i],a6,by simpa using a7,B2,b3,rfl,by omega,a3,b[i],a8,by simpa using a9,fun h=>lD H ?_,fun h=>?_⟩
  ·simp[h]
  ·rw[kS (by omega),show(i:Int)+1=((i+1:Nat):Int)by omega]
   refine Mi V a1 b1 hm g (i+1) (by omega) (lD H ?_);simp[h]
theorem QK {p q:OA}{M O:Nat}{a b:List Int}(V:lX (kY W) p a)(a2:lX (kY W) q b)(hm:a.length≤9223372036854775807):
  PW TP 149 ⟨[.slice p a.length M,.slice q b.length O]⟩ W (.bool (decide (a=b))):=by
 refine Xj p a.length M q b.length O (Mem.start [] W) ⟨fun h=>kQ ?_,fun h=>Mi V a2 (by omega) hm a.length 0 (by omega) (kQ ?_)⟩
 ·rw[decide_eq_false]
  intro a1;subst a1;exact h rfl
 ·simp
theorem Kt {w0:aj}{p:OA}{a1:Nat}{R:bJ→aj→Prop}{a:List Int}(O:lX (kY w0) p a)(hm:a.length≤9223372036854775807)(HR:∀L v,Fin R [] [] w0 v→Fin R L [] w0 v):
  ∀(g i:Nat) (last:Int),0≤last→last≤64→g+i=a.length→Fin R [] [] w0 (.bool (qU last (a.drop i)))→Ax last p a.length a1 (a.length:Int) (i:Int) w0 R
 |0,i,last,_,_,hg,H=>by
  apply Le;refine no (by omega) (lD H ?_);rw[ax (by omega)];rfl
 | g+1,i,last,l0,l1,hg,H=>by
  apply Le;have M:i<a.length:=by omega
  obtain⟨V,o1,c1,rfl,a2,a3⟩:=O.get M;rw[aG M]at H;rw[kS (x:=last+1) (by omega)];refine yes (by omega) ⟨V,o1,rfl,by omega,c1,a[i],a2,by simpa using a3,fun a5 B6=>⟨fun h=>HR _ _ (lD H ?_),fun h=>⟨fun a4=>HR _ _ (lD H ?_),fun a4=>?_⟩⟩⟩
  ·rw[qU,decide_eq_false (by omega),aF]
  ·rw[qU,decide_eq_false (by omega),aF]
  ·rw[kS (by omega),show(i:Int)+1=((i+1:Nat):Int)by omega]
   refine Kt O hm HR g (i+1) a[i] (by omega) (by omega) (by omega) (lD H ?_);rw[qU,decide_eq_true (by omega),aH]
theorem tY {u:aa}:∀(L:aX) v,Fin (fun e M=>e=.returned u∧ej W.heap.size W M) [] [] W v→Fin (fun e M=>e=.returned u∧ej W.heap.size W M) L [] W v:=
 fun L v h M hm=>h M ⟨by simp,by simp,by simp,hm.kept⟩
theorem Ee {p:OA}{c:Nat}{l:mi}(h:lX (kY W) p l.after)(hm:l.after.length≤9223372036854775807):PW TP 101 ⟨[.agg ⟨l.cells p c⟩]⟩ W (.bool l.ok):=by
 refine Xq l.unt p l.after.length c l.appr l.den (Mem.start [] W) fun B M B2=>?_
 have stop:¬(0≤l.unt∧l.unt≤1000000000∧0≤l.appr∧l.appr≤5∧0≤l.den∧l.den≤15)→(dq false)=.bool l.ok:=fun hn=>by rw[mi.ok,decide_eq_false hn,aF]
 refine⟨fun h=>kQ (stop (by omega)),fun V=>⟨fun h=>kQ (stop (by omega)),fun a1 B3=>⟨fun h=>kQ (stop (by omega)),fun a2=>⟨fun h=>kQ (stop (by omega)),fun a3 O=>⟨fun h=>kQ (stop (by omega)),fun a4=>⟨fun h=>kQ (stop (by omega)),fun a5=>?_⟩⟩⟩⟩⟩⟩;refine Kt h hm tY l.after.length 0 0 (by omega) (by omega) (by omega) (kQ ?_);rw[mi.ok,decide_eq_true (by omega),aH];rfl
theorem Oi {w0:aj}{p:OA}{a3:Nat}{R:bJ→aj→Prop}{a:List Int}(a1:lX (kY w0) p a)(hm:a.length≤9223372036854775807)(HR:∀L v,Fin R [] [] w0 v→Fin R L [] w0 v){B:Nat}{u x y:Int}:
  ∀(g i:Nat) (last:Int),g+i=a.length→Fin R [] [] w0 (.bool (qU last (a.drop i)))→xS B last (i:Int) u p a.length a3 x y w0 R
 |0,i,last,hg,H=>by
  apply My;refine no (by omega) (HR _ _ (lD H ?_));rw[ax (by omega)];rfl
 | g+1,i,last,hg,H=>by
  apply My;have V:i<a.length:=by omega
  obtain⟨a2,o1,c1,rfl,M,O⟩:=a1.get V;rw[aG V]at H;refine yes (by omega) ⟨a2,o1,rfl,by omega,c1,a[i],M,by simpa using O,fun h=>HR _ _ (lD H ?_),fun h=>⟨by omega,c1,a[i],M,by simpa using O,fun a4=>HR _ _ (lD H ?_),fun a4=>⟨by omega,c1,a[i],M,by simpa using O,?_⟩⟩⟩
  ·rw[qU,decide_eq_false (by omega),aF]
  ·rw[qU,decide_eq_false (by omega),aF]
  ·rintro _ rfl
   rw[kS (by omega),show(i:Int)+1=((i+1:Nat):Int)by omega];refine Oi a1 hm HR g (i+1) a[i] (by omega) (lD H ?_);rw[qU,decide_eq_true (by omega),aH]
theorem IT {p:OA}{c:Nat}{l:mi}(h:lX (kY W) p l.after)(hm:l.after.length≤9223372036854775807):PW TP 165 ⟨[.agg ⟨l.cells p c⟩]⟩ W (.bool l.ok):=by
 refine Yq l.unt p l.after.length c l.appr l.den (Mem.start [] W) fun B=>?_
 have stop:¬(0≤l.unt∧l.unt≤1000000000∧0≤l.appr∧l.appr≤5∧0≤l.den∧l.den≤15)→(dq false)=.bool l.ok:=fun hn=>by rw[mi.ok,decide_eq_false hn,aF]
 refine⟨fun h=>kQ (stop (by omega)),fun M=>⟨fun h=>kQ (stop (by omega)),fun O=>⟨fun h=>kQ (stop (by omega)),fun V=>⟨fun h=>kQ (stop (by omega)),fun a1=>⟨fun h=>kQ (stop (by omega)),fun a2=>⟨fun h=>kQ (stop (by omega)),fun a3=>?_⟩⟩⟩⟩⟩⟩;refine Oi h hm tY l.after.length 0 0 (by omega) (kQ ?_);rw[mi.ok,decide_eq_true (by omega),aH];rfl
theorem mi.ext' {x y:mi}:x=y↔x.unt=y.unt∧x.after=y.after∧x.appr=y.appr∧x.den=y.den:=by
 cases x;cases y;simp
theorem mi.ne {x y:mi}(h:¬(x.unt=y.unt∧x.after=y.after∧x.appr=y.appr∧x.den=y.den)):(dq false)=.bool (decide (x=y)):=by
 rw[decide_eq_false (fun e=>h (mi.ext'.1 e))]
theorem ND {p q:OA}{c d:Nat}{x y:mi}(a2:lX (kY W) p x.after)(a3:lX (kY W) q y.after)(hm:x.after.length≤9223372036854775807):
  PW TP 108 ⟨[.agg ⟨x.cells p c⟩,.agg ⟨y.cells q d⟩]⟩ W (.bool (decide (x=y))):=by
 refine Q7 x.unt p x.after.length c x.appr x.den y.unt q y.after.length d y.appr y.den (Mem.start [] W) fun B a4=>⟨fun O=>?_,fun O=>kQ (mi.ne fun h=>O h.1)⟩
 refine eA.pw (fun a5 a1=>QK (a2.mono (lK a1)) (a3.mono (lK a1)) hm) ⟨_,rfl,rfl,fun M=>⟨fun V=>kQ ?_,fun V=>kQ (mi.ne fun h=>V h.2.2.1)⟩,fun M=>kQ (mi.ne fun h=>of_decide_eq_false M h.2.1)⟩;have M:=of_decide_eq_true M;simp only[mi.ext',O,M,V,true_and]
theorem Lb {w0:aj}{p q:OA}{c d:Nat}{R:bJ→aj→Prop}{x y:mi}(a1:lX (kY w0) p x.after)(a2:lX (kY w0) q y.after)(a8:x.after.length=y.after.length)(hm:x.after.length≤9223372036854775807)(HR:∀L v,Fin R [] [] w0 v→Fin R L [] w0 v){B V:Nat}:
  ∀(g i:Nat),g+i=x.after.length→Fin R [] [] w0 (.bool (decide (x.unt=y.unt∧x.after.drop i=y.after.drop i∧x.appr=y.appr∧x.den=y.den)))→xO B V (i:Int) x.unt p x.after.length c x.appr x.den y.unt q y.after.length d y.appr y.den w0 R
 |0,i,hg,H=>by
  apply J2;rw[ax (by omega),ax (by omega)]at H;refine no (by omega) ⟨fun M=>⟨fun O=>HR _ _ (lD H ?_),fun O=>HR _ _ (lD H ?_)⟩,fun M=>HR _ _ (lD H ?_)⟩
  ·simp[M,O]
  ·simp[O]
  ·simp[M]
 | g+1,i,hg,H=>by
  apply J2;have M:i<x.after.length:=by omega
  have O:i<y.after.length:=by omega
  obtain⟨V,o1,c1,rfl,a4,a5⟩:=a1.get M;obtain⟨B2,a9,a3,rfl,a6,a7⟩:=a2.get O;simp only[drop_eq M O]at H;refine yes (by omega) ⟨V,o1,rfl,by omega,c1,x.after[i],a4,by simpa using a5,B2,a9,rfl,by omega,a3,y.after[i],a6,by simpa using a7,fun h=>HR _ _ (lD H ?_),fun h=>?_⟩
  ·simp[h]
  ·rintro _ rfl
   rw[kS (by omega),show(i:Int)+1=((i+1:Nat):Int)by omega];refine Lb a1 a2 a8 hm HR g (i+1) (by omega) (lD H ?_);simp[h]
theorem KP {p q:OA}{c d:Nat}{x y:mi}(O:lX (kY W) p x.after)(V:lX (kY W) q y.after)(hm:x.after.length≤9223372036854775807):
  PW TP 119 ⟨[.agg ⟨x.cells p c⟩,.agg ⟨y.cells q d⟩]⟩ W (.bool (decide (x=y))):=by
 refine Rn x.unt p x.after.length c x.appr x.den y.unt q y.after.length d y.appr y.den (Mem.start [] W) fun B a1=>⟨fun M=>kQ (mi.ne fun h=>M (by rw[h.2.1])),fun M=>?_⟩
 refine Lb O V (by omega) hm tY x.after.length 0 (by omega) (kQ ?_);simp only[aU,mi.ext']
abbrev zB4aa (a:BA)(b x2 x3 x4 x5 d e:Int)(f g:Nat)(c:OA):Array aa:= #[IV b,IV x2,.string a,IV x3,IV x4,IV x5,.slice c f g,IV d,IV e]
abbrev kAlq:=(#[.func (.func 185) #[] #[],.bool false,.func (.func 187) #[] #[]]:Array aa)
abbrev kApq:=(#[.func (.func 185) #[] #[],.bool false,.func (.func 188) #[] #[]]:Array aa)
abbrev kArq:=(#[.func (.func 186) #[] #[],.bool true,.func (.func 191) #[] #[]]:Array aa)
abbrev kAsq:=(#[.func (.func 185) #[] #[],.bool false,.func (.func 192) #[] #[]]:Array aa)
abbrev kAyq:=(#[.func (.func 193) #[] #[],.bool false,.func (.func 194) #[] #[]]:Array aa)
theorem T5  (hm:Mem [] [] w0 W)
 (H:
 ∀B:Nat,
 Fin R [(B,.map #[{key:=IV 1,val:=.agg kAlq,born:=0},{key:=IV 2,val:=.agg kApq,born:=1},{key:=IV 3,val:=.agg kArq,born:=2},{key:=IV 4,val:=.agg kAsq,born:=3},{key:=IV 5,val:=.agg kAyq,born:=4}] 5)] [] w0 (.map (some B))):
 aE TP 171 ⟨[]⟩ W R:=by
 refine kO.cs 12 Tryz.func171 hm (.ru 10 (.nw (fun B=>.map (some B)) (.map #[] 0) fun B=>?_))
 replace H:=H B
 refine .ru 2 (.insert 0 (b:=B) (c:=0) (es:= #[]) (kt:=3) (et:=239) (kd:=.i64) (n:=(1:Int)) (v:=.agg kAlq) (n':=1) (by kernel_rfl) rfl (.nm (KR gR 14 [4,5,6,7,8,9,10,11,12,13,14,15]) [(1,.func (.func 185) #[] #[]),(2,.map (some B))] [(B,.map #[{key:=IV 1,val:=.agg kAlq,born:=0}] 1)] (.ru 2 (.insert 0 (b:=B) (c:=1) (es:= #[{key:=IV 1,val:=.agg kAlq,born:=0}]) (kt:=3) (et:=239) (kd:=.i64) (n:=(2:Int)) (v:=.agg kApq) (n':=2) (by kernel_rfl) rfl (.nm (KR gR 14 [7,8,9,10,11,12,13,14,15]) [(1,.func (.func 185) #[] #[]),(2,.map (some B))] [(B,.map #[{key:=IV 1,val:=.agg kAlq,born:=0},{key:=IV 2,val:=.agg kApq,born:=1}] 2)] (.ru 1 (.insert 0 (b:=B) (c:=2) (es:= #[{key:=IV 1,val:=.agg kAlq,born:=0},{key:=IV 2,val:=.agg kApq,born:=1}]) (kt:=3) (et:=239) (kd:=.i64) (n:=(3:Int)) (v:=.agg kArq) (n':=3) (by kernel_rfl) rfl (.nm (KR gR 14 [9,10,11,12,13,14,15]) [(1,.func (.func 185) #[] #[]),(2,.map (some B))] [(B,.map #[{key:=IV 1,val:=.agg kAlq,born:=0},{key:=IV 2,val:=.agg kApq,born:=1},{key:=IV 3,val:=.agg kArq,born:=2}] 3)] (.ru 2 (.insert 0 (b:=B) (c:=3) (es:= #[{key:=IV 1,val:=.agg kAlq,born:=0},{key:=IV 2,val:=.agg kApq,born:=1},{key:=IV 3,val:=.agg kArq,born:=2}]) (kt:=3) (et:=239) (kd:=.i64) (n:=(4:Int)) (v:=.agg kAsq) (n':=4) (by kernel_rfl) rfl (.nm (KR gR 14 [12,13,14,15]) [(2,.map (some B))] [(B,.map #[{key:=IV 1,val:=.agg kAlq,born:=0},{key:=IV 2,val:=.agg kApq,born:=1},{key:=IV 3,val:=.agg kArq,born:=2},{key:=IV 4,val:=.agg kAsq,born:=3}] 4)] (.ru 1 (.insert 0 (b:=B) (c:=4) (es:= #[{key:=IV 1,val:=.agg kAlq,born:=0},{key:=IV 2,val:=.agg kApq,born:=1},{key:=IV 3,val:=.agg kArq,born:=2},{key:=IV 4,val:=.agg kAsq,born:=3}]) (kt:=3) (et:=239) (kd:=.i64) (n:=(5:Int)) (v:=.agg kAyq) (n':=5) (by kernel_rfl) rfl (.nm (KR gR 14 [14,15]) [(2,.map (some B))] [(B,.map #[{key:=IV 1,val:=.agg kAlq,born:=0},{key:=IV 2,val:=.agg kApq,born:=1},{key:=IV 3,val:=.agg kArq,born:=2},{key:=IV 4,val:=.agg kAsq,born:=3},{key:=IV 5,val:=.agg kAyq,born:=4}] 5)] (.ru 3 (.rt Tryz.func171 H))))))))))))))))
abbrev pF (B:Nat)(c d:Int)(i:BA)(h g j:Int)(f:OA)(e b:Nat)(ba bd:Int)(a:Nat):aX:=[(B,.cells (zB4aa i c d h g j ba bd e b f) 149),(a,.cells #[.func (.func 186) #[] #[],.bool true,.func (.func 191) #[] #[]] 239)]
abbrev qP (B:Nat)(c d:Int)(i:BA)(h g j:Int)(f:OA)(e b:Nat)(ba bd:Int)(a:Nat):aX:=[(B,.cells (zB4aa i c d h g j ba bd e b f) 149),(a,.cells #[.func (.func 185) #[] #[],.bool false,.func (.func 187) #[] #[]] 239)]
abbrev rl (B:Nat)(c d:Int)(i:BA)(h g j:Int)(f:OA)(e b:Nat)(ba bd:Int)(a:Nat):aX:=[(B,.cells (zB4aa i c d h g j ba bd e b f) 149),(a,.cells #[.func (.func 185) #[] #[],.bool false,.func (.func 188) #[] #[]] 239)]
abbrev qH (B:Nat)(c d:Int)(i:BA)(h g j:Int)(f:OA)(e b:Nat)(ba bd:Int)(a:Nat):aX:=[(B,.cells (zB4aa i c d h g j ba bd e b f) 149),(a,.cells #[.func (.func 185) #[] #[],.bool false,.func (.func 192) #[] #[]] 239)]
abbrev qJ (B:Nat)(c d:Int)(i:BA)(h g j:Int)(f:OA)(e b:Nat)(ba bd:Int)(a:Nat):aX:=[(B,.cells (zB4aa i c d h g j ba bd e b f) 149),(a,.cells #[.func (.func 193) #[] #[],.bool false,.func (.func 194) #[] #[]] 239)]
abbrev wy (B:Nat)(b c:Int)(h:BA)(g f i:Int)(e:OA)(d a:Nat)(ba bd:Int):aX:=[(B,.cells (zB4aa h b c g f i ba bd d a e) 149)]
abbrev kCgq:=(.cells #[.nilFunc,.bool false,.nilFunc] 239:Obj)
theorem Sv (e a:Int)(k:BA)(j i h:Int)(g:OA)(f d:Nat)(ba bd:Int)(y:Nat)(hm:Mem [] [] w0 W)
 (H:
 ∀B:Nat,
 (w0.heap[y]?=some (.map #[{key:=IV 1,val:=.agg kAlq,born:=0},{key:=IV 2,val:=.agg kApq,born:=1},{key:=IV 3,val:=.agg kArq,born:=2},{key:=IV 4,val:=.agg kAsq,born:=3},{key:=IV 5,val:=.agg kAyq,born:=4}] 5))∧
 ((a=1)→
 ∀m:Nat,
 Br (e<1)
 (Fin R (qP B e a k j i h g f d ba bd m) [] w0 (.bool false))
 (Br ((1000:Int)<e)
 (Fin R (qP B e a k j i h g f d ba bd m) [] w0 (.bool false))
 (eA TP 101 ⟨[.agg (kAuq h g f d ba bd)]⟩ (qP B e a k j i h g f d ba bd m) [] w0 (fun v L'=>∃A,v=.bool A∧L'=(qP B e a k j i h g f d ba bd m)∧
 Bb (A)
 (eA TP 185 ⟨[.string k]⟩ (qP B e a k j i h g f d ba bd m) [] w0 (fun v L'=>∃D,v=.bool D∧L'=(qP B e a k j i h g f d ba bd m)∧
 Bb (D)
 (Br (j=0)
 (Fin R (qP B e a k j i h g f d ba bd m) [] w0 (.bool (decide (i=0))))
 (Fin R (qP B e a k j i h g f d ba bd m) [] w0 (.bool false)))
 (Fin R (qP B e a k j i h g f d ba bd m) [] w0 (.bool false))))
 (Fin R (qP B e a k j i h g f d ba bd m) [] w0 (.bool false))))))∧
 ((¬a=1)→
 ((a=2)→
 ∀o:Nat,
 Br (e<1)
 (Fin R (rl B e a k j i h g f d ba bd o) [] w0 (.bool false))
 (Br ((1000:Int)<e)
 (Fin R (rl B e a k j i h g f d ba bd o) [] w0 (.bool false))
 (eA TP 101 ⟨[.agg (kAuq h g f d ba bd)]⟩ (rl B e a k j i h g f d ba bd o) [] w0 (fun v L'=>∃E,v=.bool E∧L'=(rl B e a k j i h g f d ba bd o)∧
 Bb (E)
 (eA TP 185 ⟨[.string k]⟩ (rl B e a k j i h g f d ba bd o) [] w0 (fun v L'=>∃F,v=.bool F∧L'=(rl B e a k j i h g f d ba bd o)∧
 Bb (F)
 (Br (j=0)
 (Fin R (rl B e a k j i h g f d ba bd o) [] w0 (.bool (decide (i=0))))
 (Fin R (rl B e a k j i h g f d ba bd o) [] w0 (.bool false)))
 (Fin R (rl B e a k j i h g f d ba bd o) [] w0 (.bool false))))
 (Fin R (rl B e a k j i h g f d ba bd o) [] w0 (.bool false))))))∧
 ((¬a=2)→
 ((a=3)→
 ∀l:Nat,
 Br (e<1)
 (Fin R (pF B e a k j i h g f d ba bd l) [] w0 (.bool false))
 (Br ((1000:Int)<e)
 (Fin R (pF B e a k j i h g f d ba bd l) [] w0 (.bool false))
 (eA TP 101 ⟨[.agg (kAuq h g f d ba bd)]⟩ (pF B e a k j i h g f d ba bd l) [] w0 (fun v L'=>∃G,v=.bool G∧L'=(pF B e a k j i h g f d ba bd l)∧
 Bb (G)
 (eA TP 186 ⟨[.string k]⟩ (pF B e a k j i h g f d ba bd l) [] w0 (fun v L'=>∃M,v=.bool M∧L'=(pF B e a k j i h g f d ba bd l)∧
 Bb (M)
 (Br ((1:Int)≤j)
 (Br (j≤64)
 (Br ((1:Int)≤i)
 (Fin R (pF B e a k j i h g f d ba bd l) [] w0 (.bool (decide (i≤1000))))
 (Fin R (pF B e a k j i h g f d ba bd l) [] w0 (.bool false)))
 (Fin R (pF B e a k j i h g f d ba bd l) [] w0 (.bool false)))
 (Fin R (pF B e a k j i h g f d ba bd l) [] w0 (.bool false)))
 (Fin R (pF B e a k j i h g f d ba bd l) [] w0 (.bool false))))
 (Fin R (pF B e a k j i h g f d ba bd l) [] w0 (.bool false))))))∧
 ((¬a=3)→
 ((a=4)→
 ∀p:Nat,
 Br (e<1)
 (Fin R (qH B e a k j i h g f d ba bd p) [] w0 (.bool false))
 (Br ((1000:Int)<e)
 (Fin R (qH B e a k j i h g f d ba bd p) [] w0 (.bool false))
 (eA TP 101 ⟨[.agg (kAuq h g f d ba bd)]⟩ (qH B e a k j i h g f d ba bd p) [] w0 (fun v L'=>∃N,v=.bool N∧L'=(qH B e a k j i h g f d ba bd p)∧
 Bb (N)
 (eA TP 185 ⟨[.string k]⟩ (qH B e a k j i h g f d ba bd p) [] w0 (fun v L'=>∃O,v=.bool O∧L'=(qH B e a k j i h g f d ba bd p)∧
 Bb (O)
 (Br (j=0)
 (Fin R (qH B e a k j i h g f d ba bd p) [] w0 (.bool (decide (i=0))))
 (Fin R (qH B e a k j i h g f d ba bd p) [] w0 (.bool false)))
 (Fin R (qH B e a k j i h g f d ba bd p) [] w0 (.bool false))))
 (Fin R (qH B e a k j i h g f d ba bd p) [] w0 (.bool false))))))∧
 ((¬a=4)→
 ((a=5)→
 ∀q:Nat,
 Br (e<1)
 (Fin R (qJ B e a k j i h g f d ba bd q) [] w0 (.bool false))
 (Br ((1000:Int)<e)
 (Fin R (qJ B e a k j i h g f d ba bd q) [] w0 (.bool false))
 (eA TP 101 ⟨[.agg (kAuq h g f d ba bd)]⟩ (qJ B e a k j i h g f d ba bd q) [] w0 (fun v L'=>∃Q,v=.bool Q∧L'=(qJ B e a k j i h g f d ba bd q)∧
 Bb (Q)
 (eA TP 193 ⟨[.string k]⟩ (qJ B e a k j i h g f d ba bd q) [] w0 (fun v L'=>∃C,v=.bool C∧L'=(qJ B e a k j i h g f d ba bd q)∧
 Bb (C)
 (Br (j=0)
 (Fin R (qJ B e a k j i h g f d ba bd q) [] w0 (.bool (decide (i=0))))
 (Fin R (qJ B e a k j i h g f d ba bd q) [] w0 (.bool false)))
 (Fin R (qJ B e a k j i h g f d ba bd q) [] w0 (.bool false))))
 (Fin R (qJ B e a k j i h g f d ba bd q) [] w0 (.bool false))))))∧
 ((¬a=5)→
 ∀U:Nat,
 Fin R [(B,.cells (zB4aa k e a j i h ba bd f d g) 149),(U,.cells #[.nilFunc,.bool false,.nilFunc] 239)] [] w0 (.bool false))))))):
 aE TP 172 ⟨[.agg (zB4aa k e a j i h ba bd f d g),.map (some y)]⟩ W R:=by
 refine kO.cs 69 bf hm (.ru 2 (.nH (.cells (zB4aa k e a j i h ba bd f d g) 149) H fun B H=>(.ru 6 (.ld 0 1 (.lookW (b:=y) (c:=5) (es:= #[{key:=IV 1,val:=.agg kAlq,born:=0},{key:=IV 2,val:=.agg kApq,born:=1},{key:=IV 3,val:=.agg kArq,born:=2},{key:=IV 4,val:=.agg kAsq,born:=3},{key:=IV 5,val:=.agg kAyq,born:=4}]) (kt:=3) (et:=239) (kd:=.i64) (n:=a) (z:=.agg #[.nilFunc,.bool false,.nilFunc]) H.1 bG (by kernel_rfl) ?_)))))
 replace H:=H.2
 refine ql.cons (fun s=>?_) (fun s=>?_)
 ·replace H:=H.1 s
  refine .nm (KR dd 6 [4,5,6,7,8,9]) [(2,PP B),(11,.tuple #[.agg kAlq,.bool true])] (wy B e a k j i h g f d ba bd) (.ru 3 (.nH kCgq H fun m H=>(.st 1 0 (.ru 9 (.ld 0 0 (.ru 3 (.sP 21 H (fun H=>?_) fun H=>?_)))))))
  ·refine .ru 24 (.rt bf H)
  ·refine .ru 1 (.ld 0 0 (.ru 3 (.sP 26 H (fun H=>?_) fun H=>?_)))
   ·refine .ru 19 (.rt bf H)
   ·refine .ru 1 (.ld 0 5 (.nm (KR dd 28 [15,16,17,18,19,20,21,22,23,24,25]) [(2,PP B),(5,PP m),(26,.bool false),(28,.agg (kAuq h g f d ba bd))] (qP B e a k j i h g f d ba bd m) (.cl H ?_)))
    rintro _ _ ⟨A,rfl,rfl,H⟩;refine .sB 29 H (fun H=>?_) fun H=>?_
    ·refine .ru 4 (.ld 1 0 (.ru 1 (.ld 0 2 (.cl H ?_))))
     rintro _ _ ⟨D,rfl,rfl,H⟩;refine .sB 37 H (fun H=>?_) fun H=>?_
     ·refine .ru 9 (.ld 1 1 (.nm (KR dd 60 [2]) [(2,PP B),(41,.bool false)] (qP B e a k j i h g f d ba bd m) (.ru 6 (.ld 0 3 (.ru 2 (.sP 46 H (fun H=>?_) fun H=>?_))))))
      ·refine .ru 1 (.ld 0 4 (.ru 4 (.rt bf H)))
      ·refine .ru 6 (.rt bf H)
     ·refine .ru 8 (.rt bf H)
    ·refine .ru 16 (.rt bf H)
 ·replace H:=H.2 s
  refine ql.cons (fun x=>?_) (fun x=>?_)
  ·replace H:=H.1 x
   refine .nm (KR dd 6 [4,5,6,7,8,9]) [(2,PP B),(11,.tuple #[.agg kApq,.bool true])] (wy B e a k j i h g f d ba bd) (.ru 3 (.nH kCgq H fun o H=>(.st 1 0 (.ru 9 (.ld 0 0 (.ru 3 (.sP 21 H (fun H=>?_) fun H=>?_)))))))
   ·refine .ru 24 (.rt bf H)
   ·refine .ru 1 (.ld 0 0 (.ru 3 (.sP 26 H (fun H=>?_) fun H=>?_)))
    ·refine .ru 19 (.rt bf H)
    ·refine .ru 1 (.ld 0 5 (.nm (KR dd 28 [15,16,17,18,19,20,21,22,23,24,25]) [(2,PP B),(5,PP o),(26,.bool false),(28,.agg (kAuq h g f d ba bd))] (rl B e a k j i h g f d ba bd o) (.cl H ?_)))
     rintro _ _ ⟨E,rfl,rfl,H⟩;refine .sB 29 H (fun H=>?_) fun H=>?_
     ·refine .ru 4 (.ld 1 0 (.ru 1 (.ld 0 2 (.cl H ?_))))
      rintro _ _ ⟨F,rfl,rfl,H⟩;refine .sB 37 H (fun H=>?_) fun H=>?_
      ·refine .ru 9 (.ld 1 1 (.nm (KR dd 60 [2]) [(2,PP B),(41,.bool false)] (rl B e a k j i h g f d ba bd o) (.ru 6 (.ld 0 3 (.ru 2 (.sP 46 H (fun H=>?_) fun H=>?_))))))
       ·refine .ru 1 (.ld 0 4 (.ru 4 (.rt bf H)))
       ·refine .ru 6 (.rt bf H)
      ·refine .ru 8 (.rt bf H)
     ·refine .ru 16 (.rt bf H)
  ·replace H:=H.2 x
   refine ql.cons (fun t=>?_) (fun t=>?_)
   ·replace H:=H.1 t
    refine .nm (KR dd 6 [4,5,6,7,8,9]) [(2,PP B),(11,.tuple #[.agg kArq,.bool true])] (wy B e a k j i h g f d ba bd) (.ru 3 (.nH kCgq H fun l H=>(.st 1 0 (.ru 9 (.ld 0 0 (.ru 3 (.sP 21 H (fun H=>?_) fun H=>?_)))))))
    ·refine .ru 24 (.rt bf H)
    ·refine .ru 1 (.ld 0 0 (.ru 3 (.sP 26 H (fun H=>?_) fun H=>?_)))
     ·refine .ru 19 (.rt bf H)
     ·refine .ru 1 (.ld 0 5 (.nm (KR dd 28 [15,16,17,18,19,20,21,22,23,24,25]) [(2,PP B),(5,PP l),(26,.bool false),(28,.agg (kAuq h g f d ba bd))] (pF B e a k j i h g f d ba bd l) (.cl H ?_)))
      rintro _ _ ⟨G,rfl,rfl,H⟩;refine .sB 29 H (fun H=>?_) fun H=>?_
      ·refine .ru 4 (.ld 1 0 (.ru 1 (.ld 0 2 (.cl H ?_))))
       rintro _ _ ⟨M,rfl,rfl,H⟩;refine .sB 37 H (fun H=>?_) fun H=>?_
       ·refine .ru 9 (.ld 1 1 (.nm (KR dd 60 [2]) [(2,PP B),(41,.bool true)] (pF B e a k j i h g f d ba bd l) (.ru 7 (.ld 0 3 (.ru 2 (.sP 54 H (fun H=>?_) fun H=>?_))))))
        ·refine .ru 1 (.ld 0 3 (.ru 3 (.sP 59 H (fun H=>?_) fun H=>?_)))
         ·refine .ru 1 (.ld 0 4 (.ru 3 (.sP 64 H (fun H=>?_) fun H=>?_)))
          ·refine .ru 1 (.ld 0 4 (.nm (KR dd 62 [16,17,18]) [(64,.bool true),(66,IV i)] (pF B e a k j i h g f d ba bd l) (.ru 4 (.rt bf H))))
          ·refine .ru 6 (.rt bf H)
         ·refine .ru 11 (.rt bf H)
        ·refine .ru 16 (.rt bf H)
       ·refine .ru 8 (.rt bf H)
      ·refine .ru 16 (.rt bf H)
   ·replace H:=H.2 t
    refine ql.cons (fun u=>?_) (fun u=>?_)
    ·replace H:=H.1 u
     refine .nm (KR dd 6 [4,5,6,7,8,9]) [(2,PP B),(11,.tuple #[.agg kAsq,.bool true])] (wy B e a k j i h g f d ba bd) (.ru 3 (.nH kCgq H fun p H=>(.st 1 0 (.ru 9 (.ld 0 0 (.ru 3 (.sP 21 H (fun H=>?_) fun H=>?_)))))))
     ·refine .ru 24 (.rt bf H)
     ·refine .ru 1 (.ld 0 0 (.ru 3 (.sP 26 H (fun H=>?_) fun H=>?_)))
      ·refine .ru 19 (.rt bf H)
      ·refine .ru 1 (.ld 0 5 (.nm (KR dd 28 [15,16,17,18,19,20,21,22,23,24,25]) [(2,PP B),(5,PP p),(26,.bool false),(28,.agg (kAuq h g f d ba bd))] (qH B e a k j i h g f d ba bd p) (.cl H ?_)))
       rintro _ _ ⟨N,rfl,rfl,H⟩;refine .sB 29 H (fun H=>?_) fun H=>?_
       ·refine .ru 4 (.ld 1 0 (.ru 1 (.ld 0 2 (.cl H ?_))))
        rintro _ _ ⟨O,rfl,rfl,H⟩;refine .sB 37 H (fun H=>?_) fun H=>?_
        ·refine .ru 9 (.ld 1 1 (.nm (KR dd 60 [2]) [(2,PP B),(41,.bool false)] (qH B e a k j i h g f d ba bd p) (.ru 6 (.ld 0 3 (.ru 2 (.sP 46 H (fun H=>?_) fun H=>?_))))))
         ·refine .ru 1 (.ld 0 4 (.ru 4 (.rt bf H)))
         ·refine .ru 6 (.rt bf H)
        ·refine .ru 8 (.rt bf H)
       ·refine .ru 16 (.rt bf H)
    ·replace H:=H.2 u
     refine ql.cons (fun w=>?_) (fun w=>?_)
     ·replace H:=H.1 w
      refine .nm (KR dd 6 [4,5,6,7,8,9]) [(2,PP B),(11,.tuple #[.agg kAyq,.bool true])] (wy B e a k j i h g f d ba bd) (.ru 3 (.nH kCgq H fun q H=>(.st 1 0 (.ru 9 (.ld 0 0 (.ru 3 (.sP 21 H (fun H=>?_) fun H=>?_)))))))
      ·refine .ru 24 (.rt bf H)
      ·refine .ru 1 (.ld 0 0 (.ru 3 (.sP 26 H (fun H=>?_) fun H=>?_)))
       ·refine .ru 19 (.rt bf H)
       ·refine .ru 1 (.ld 0 5 (.nm (KR dd 28 [15,16,17,18,19,20,21,22,23,24,25]) [(2,PP B),(5,PP q),(26,.bool false),(28,.agg (kAuq h g f d ba bd))] (qJ B e a k j i h g f d ba bd q) (.cl H ?_)))
        rintro _ _ ⟨Q,rfl,rfl,H⟩;refine .sB 29 H (fun H=>?_) fun H=>?_
        ·refine .ru 4 (.ld 1 0 (.ru 1 (.ld 0 2 (.cl H ?_))))
         rintro _ _ ⟨C,rfl,rfl,H⟩;refine .sB 37 H (fun H=>?_) fun H=>?_
         ·refine .ru 9 (.ld 1 1 (.nm (KR dd 60 [2]) [(2,PP B),(41,.bool false)] (qJ B e a k j i h g f d ba bd q) (.ru 6 (.ld 0 3 (.ru 2 (.sP 46 H (fun H=>?_) fun H=>?_))))))
          ·refine .ru 1 (.ld 0 4 (.ru 4 (.rt bf H)))
          ·refine .ru 6 (.rt bf H)
         ·refine .ru 8 (.rt bf H)
        ·refine .ru 16 (.rt bf H)
     ·replace H:=H.2 w
      refine .nm (KR dd 6 [4,5,6,7,8,9]) [(2,PP B),(11,.tuple #[.agg #[.nilFunc,.bool false,.nilFunc],.bool false])] (wy B e a k j i h g f d ba bd) (.ru 3 (.nH kCgq H fun U H=>(.st 1 0 (.ru 37 (.rt bf H)))))
theorem O6 (f d:Int)(e:BA)(c b j:Int)(i:OA)(h g:Nat)(ba bd:Int)(hm:Mem [] [] w0 W)(H:VP [] w0 R (.np 2 (.cells (zB4aa e f d c b j ba bd h g i) 149) fun B=>.hp [(B,.cells (zB4aa e f d c b j ba bd h g i) 149)] fun a=>.ru [5,200]<|.cl 0 180 [.string e] a<|.ex fun k=>.rt (.bool k) a<|.ru [5,200]<|.cl 0 165 [.agg (kAuq j i h g ba bd)] a<|.ex fun l=>.rt (.bool l) a<|.ru [6,200]<|.P 2 14 (f<1) (.re 18 (.bool false) a)<|.ru [1,200]<|.P 3 19 (1000<f) (.re 13 (.bool false) a)<|.B 1 20 k (.B 4 24 l (.ru [9,200]<|.P 8 29 (d=1) (.ru [6,200]<|.sN 2 36 e (⟨#[]⟩:BA) (.ru [1,200]<|.P 3 41 (c=0) (.ru [1,200]<|.re 4 (.bool (decide (b=0))) a)<|.re 6 (.bool false) a)<|.re 11 (.bool false) a)<|.P 6 29 (d=2) (.ru [6,200]<|.sN 2 36 e (⟨#[]⟩:BA) (.ru [1,200]<|.P 3 41 (c=0) (.ru [1,200]<|.re 4 (.bool (decide (b=0))) a)<|.re 6 (.bool false) a)<|.re 11 (.bool false) a)<|.P 5 29 (d=4) (.ru [4,200]<|.sN 2 36 e (⟨#[]⟩:BA) (.ru [1,200]<|.P 3 41 (c=0) (.ru [1,200]<|.re 4 (.bool (decide (b=0))) a)<|.re 6 (.bool false) a)<|.re 11 (.bool false) a)<|.P 6 46 (d=5) (.ru [4,200]<|.cl 0 161 [.string e] a<|.ex fun m=>.rt (.bool m) a<|.B 1 51 m (.ru [1,200]<|.P 3 56 (c=0) (.ru [1,200]<|.re 4 (.bool (decide (b=0))) a)<|.re 6 (.bool false) a)<|.re 11 (.bool false) a)<|.P 6 61 (d=3) (.ru [4,200]<|.P 2 66 (1≤c) (.ru [1,200]<|.P 3 71 (c≤64) (.ru [1,200]<|.P 3 76 (1≤b) (.ru [1,200]<|.re 4 (.bool (decide (b≤1000))) a)<|.re 6 (.bool false) a)<|.re 11 (.bool false) a)<|.re 16 (.bool false) a)<|.re 7 (.bool false) a)<|.re 8 (.bool false) a)<|.re 12 (.bool false) a)):aE TP 181 ⟨[.agg (zB4aa e f d c b j ba bd h g i)]⟩ W R:=VC.cs Tryz.func181 hm _ H
noncomputable def BF (B:Nat)(c:OA)(b a:Nat)(f:OA)(e d:Nat)(g h:Int):Cut:=⟨TP,[],141,38,(KC Tryz.f141 244),[(0,.slice c b a),(3,.map (some B)),(12,.slice f e d),(13,IV g),(14,IV h)],[(B,.map #[{key:=IV 1,val:=.agg #[.func (.func 185) #[] #[],.bool false,.func (.func 187) #[] #[]],born:=0},{key:=IV 2,val:=.agg #[.func (.func 185) #[] #[],.bool false,.func (.func 188) #[] #[]],born:=1},{key:=IV 3,val:=.agg #[.func (.func 186) #[] #[],.bool true,.func (.func 191) #[] #[]],born:=2},{key:=IV 4,val:=.agg #[.func (.func 185) #[] #[],.bool false,.func (.func 192) #[] #[]],born:=3},{key:=IV 5,val:=.agg #[.func (.func 193) #[] #[],.bool false,.func (.func 194) #[] #[]],born:=4}] 5)]⟩
noncomputable def BC (a b:Nat)(e:OA)(d c:Nat)(t:OA)(s q:Nat)(u w:Int)(z:OA)(y x:Nat)(A C f g:Int)(h:BA)(i j k:Int)(n:OA)(m l:Nat)(o p:Int):Cut:=⟨TP,[],141,38,(KC Tryz.f141 125340),[(0,.slice e d c),(3,.map (some a)),(5,PP b),(12,.slice t s q),(13,IV u),(14,IV w),(25,.slice z y x),(26,IV A),(27,IV C)],[(a,.map #[{key:=IV 1,val:=.agg #[.func (.func 185) #[] #[],.bool false,.func (.func 187) #[] #[]],born:=0},{key:=IV 2,val:=.agg #[.func (.func 185) #[] #[],.bool false,.func (.func 188) #[] #[]],born:=1},{key:=IV 3,val:=.agg #[.func (.func 186) #[] #[],.bool true,.func (.func 191) #[] #[]],born:=2},{key:=IV 4,val:=.agg #[.func (.func 185) #[] #[],.bool false,.func (.func 192) #[] #[]],born:=3},{key:=IV 5,val:=.agg #[.func (.func 193) #[] #[],.bool false,.func (.func 194) #[] #[]],born:=4}] 5),(b,.cells #[IV f,IV g,.string h,IV i,IV j,IV k,.slice n m l,IV o,IV p] 149)]⟩
abbrev kAeq (x0 x1 x2 x3 x4 x5 x6 x7 x8 x9 x10):=(#[IV x0,IV x1,.string x2,IV x3,IV x4,IV x5,.slice x6 x7 x8,IV x9,IV x10]:Array aa)
abbrev kAwq (x0 x1 x2 x3 x4 x5 x6 x7 x8 x9 x10):=([IV x0,IV x1,.string x2,IV x3,IV x4,IV x5,.slice x6 x7 x8,IV x9,IV x10]:List aa)
abbrev kBdq:=(#[IV 0,IV 0,sZ,IV 0,IV 0,IV 0,.slice none 0 0,IV 0,IV 0]:Array aa)
abbrev kBxq (x0 x1 x2 x3 x4 x5 x6 x7 x8 x9 x10 x11):=((x0,.cells (kAeq x1 x2 x3 x4 x5 x6 x7 x8 x9 x10 x11) 149):Nat×Obj)
theorem Js (B:Nat)(d:OA)(s c:Nat)(z:OA)(u t:Nat)(w a:Int)(H:VP [] w0 R (.P 5 15 (a<w) (.r 7<|.x2 fun p b=>.sp z p b [12]<|.iL p b u t 9 a (b+((ad a)*9))<|.x5 fun A e f g h=>.x5 fun i j m l k=>.x2 fun n o=>.uo p (b+((ad a)*9)) 9 149 A (kAwq e f g h i j m l k n o)<|.np 0 (.cells kBdq 149) fun x=>.hp [(B,.map #[{key:=IV 1,val:=.agg kAlq,born:=0},{key:=IV 2,val:=.agg kApq,born:=1},{key:=IV 3,val:=.agg kArq,born:=2},{key:=IV 4,val:=.agg kAsq,born:=3},{key:=IV 5,val:=.agg kAyq,born:=4}] 5),(kBxq x e f g h i j m l k n o)] fun q=>.ru [1,201,4,201]<|.cl 1 172 [.agg (kAeq e f g h i j m l k n o),.map (some B)] q<|.ex fun y=>.rt (.bool y) q<|.B 0 21 y (.r 8<|.sU d s c 9 none (some (IV a)) a (ad a)<|.ct 5 [0,1] (BC B x d s c (some ⟨p,b,none⟩) u t w a d (ad a) c ((ad a):Int) 0 e f g h i j m l k n o))<|.re 7 (.bool false) q)<|.re 6 (.bool true) [(B,.map #[{key:=IV 1,val:=.agg kAlq,born:=0},{key:=IV 2,val:=.agg kApq,born:=1},{key:=IV 3,val:=.agg kArq,born:=2},{key:=IV 4,val:=.agg kAsq,born:=3},{key:=IV 5,val:=.agg kAyq,born:=4}] 5)])):BF B d s c z u t w a w0 R:=VC.go iR _ H
theorem I1 (c f:Nat)(i:OA)(h g:Nat)(y:OA)(x w:Nat)(z A:Int)(Z:OA)(D C:Nat)(E a d j:Int)(k:BA)(l m n:Int)(q:OA)(p o:Nat)(s t:Int)(H:VP [] w0 R (.P 5 28 (a<E) (.r 6<|.x2 fun e b=>.sp Z e b [25]<|.iL e b D C 9 a (b+((ad a)*9))<|.x5 fun a1 u F G M=>.x5 fun N O V U Q=>.x2 fun X Y=>.uo e (b+((ad a)*9)) 9 149 a1 (kAwq u F G M N O V U Q X Y)<|.np 0 (.cells kBdq 149) fun a0=>.ru [202,4,202,1,201]<|.P 2 35 (u=d) (.re 5 (.bool false) [(c,.map #[{key:=IV 1,val:=.agg kAlq,born:=0},{key:=IV 2,val:=.agg kApq,born:=1},{key:=IV 3,val:=.agg kArq,born:=2},{key:=IV 4,val:=.agg kAsq,born:=3},{key:=IV 5,val:=.agg kAyq,born:=4}] 5),(kBxq f d j k l m n q p o s t),(kBxq a0 u F G M N O V U Q X Y)])<|.ct 8 [0,1] (BC c f i h g y x w z A (some ⟨e,b,none⟩) D C E (ab.wrap (a+1)) d j k l m n q p o s t))<|.ct 8 [0] (BF c i h g y x w z (ab.wrap (A+1))))):BC c f i h g y x w z A Z D C E a d j k l m n q p o s t w0 R:=VC.go iR _ H
theorem UE (c:OA)(a b:Nat)(hm:Mem [] [] w0 W)(H:VP [] w0 R (.P 11 10 (24<(a:Int)) (.re 5 (.bool false) [])<|.cl 4 171 [] []<|.ex fun(d:Nat)=>.rt (.map (some d)) [(d,.map #[{key:=IV 1,val:=.agg kAlq,born:=0},{key:=IV 2,val:=.agg kApq,born:=1},{key:=IV 3,val:=.agg kArq,born:=2},{key:=IV 4,val:=.agg kAsq,born:=3},{key:=IV 5,val:=.agg kAyq,born:=4}] 5)]<|.ct 11 [0] (BF d c a b c a b (a:Int) 0))):aE TP 141 ⟨[.slice c a b]⟩ W R:=VC.cs iR hm _ H
noncomputable def CM (d:OA)(c b:Nat)(a:Int):Cut:=⟨TP,[],164,38,(KC Tryz.f164 116),[(0,.slice d c b),(3,IV a)],[]⟩
noncomputable def zL (e:OA)(d c:Nat)(a b:Int):Cut:=⟨TP,[],164,38,(KC Tryz.f164 29852),[(0,.slice e d c),(3,IV a),(5,IV b)],[]⟩
theorem GC (f:OA)(c e:Nat)(a:Int)(H:VP [] w0 R (.P 8 12 (a<(c:Int)) (.r 8<|.x2 fun d b=>.sp f d b [0,10,15]<|.iL d b c e 9 a (b+((ad a)*9))<|.x5 fun t g h i j=>.x5 fun k l o n m=>.x2 fun p q=>.uo d (b+((ad a)*9)) 9 149 t (kAwq g h i j k l o n m p q)<|.cl 0 181 [.agg (kAeq g h i j k l o n m p q)] []<|.ex fun s=>.rt (.bool s) []<|.B 6 20 s (.ct 10 [] (zL (some ⟨d,b,none⟩) c e a 0))<|.re 7 (.bool false) [])<|.re 6 (.bool true) [])):CM f c e a w0 R:=VC.go iS _ H
theorem Li (g:OA)(f e:Nat)(b c:Int)(H:VP [] w0 R (.P 7 24 (c<b) (.r 5<|.dr 11<|.qu [2]<|.x2 fun d a=>.sp g d a [0,27]<|.iL d a f e 9 c (a+((ad c)*9))<|.qu [1]<|.x2 fun j h=>.lW d (a+((ad c)*9)) 3 j (IV h)<|.qu [2]<|.iL d a f e 9 b (a+((ad b)*9))<|.qu [1]<|.x2 fun k i=>.lW d (a+((ad b)*9)) 3 k (IV i)<|.qu [1]<|.dn<|.P 1 37 (h=i) (.re 5 (.bool false) [])<|.li 7 5 (ab.wrap (c+1)) fun m=>.ct 2 [] (zL (some ⟨d,a,none⟩) f e b m))<|.li 7 3 (ab.wrap (b+1)) fun l=>.ct 2 [] (CM g f e l))):zL g f e b c w0 R:=VC.go iS _ H
theorem Sm (c:OA)(a b:Nat)(hm:Mem [] [] w0 W)(H:VP [] w0 R (.P 11 8 (24<(a:Int)) (.re 5 (.bool false) [])<|.ct 9 [] (CM c a b 0))):aE TP 164 ⟨[.slice c a b]⟩ W R:=VC.cs iS hm _ H
abbrev xB:Obj:=.map #[{key:=.int .i64 (1:Int),val:=.agg #[.func (.func 185) #[] #[],.bool false,.func (.func 187) #[] #[]],born:=0},{key:=.int .i64 (2:Int),val:=.agg #[.func (.func 185) #[] #[],.bool false,.func (.func 188) #[] #[]],born:=1},{key:=.int .i64 (3:Int),val:=.agg #[.func (.func 186) #[] #[],.bool true,.func (.func 191) #[] #[]],born:=2},{key:=.int .i64 (4:Int),val:=.agg #[.func (.func 185) #[] #[],.bool false,.func (.func 192) #[] #[]],born:=3},{key:=.int .i64 (5:Int),val:=.agg #[.func (.func 193) #[] #[],.bool false,.func (.func 194) #[] #[]],born:=4}] 5
theorem Zy:lP TP 171 ⟨[]⟩ [] (fun v L'=>∃M:Nat,v=.map (some M)∧L'=[(M,xB)]):=by
 intro W hm;exact T5 (Mem.start [] W) fun B V O=>⟨_,_,rfl,O,B,rfl,rfl⟩
theorem eA.rules {L:aX}(O:∀M:Nat,K (.map (some M)) (L++[(M,xB)])):eA TP 171 ⟨[]⟩ L S w0 K:=
 eA.lF (L1:=L) Zy (ah _) fun v L' ⟨M,hv,hl⟩=>⟨L++[(M,xB)],by rw[hl];exact aw,by rw[hv];exact O M⟩
theorem qB {b:kT}(h:¬(1≤b.id∧b.id≤1000)):(dq false)=.bool b.ok:=by rw[kT.ok,decide_eq_false h,aF]
theorem wC {b:kT}(h:b.lab.ok=false):(dq false)=.bool b.ok:=by rw[kT.ok,h,aF,bz]
theorem n9 {b:kT}(h:b.kindOk=false):(dq false)=.bool b.ok:=by rw[kT.ok,h,bz,bz]
theorem r8 {b:kT}{v:Bool}(h:1≤b.id∧b.id≤1000)(O:b.lab.ok=true)(M:v=b.kindOk):(dq v)=.bool b.ok:=by rw[kT.ok,decide_eq_true h,O,M,aH,aH]
theorem w6 {b:kT}(k:b.kind=1):b.kindOk=(mP b.text&&b.qm):=by rw[kT.kindOk,if_pos k]
theorem wQ {b:kT}(k:b.kind=2):b.kindOk=(mP b.text&&b.qm):=by rw[kT.kindOk,if_neg (by omega),if_pos k]
theorem yr {b:kT}(k:b.kind=3):b.kindOk=(pO b.text&&decide (1≤b.story∧b.story≤64∧1≤b.ref∧b.ref≤1000)):=by rw[kT.kindOk,if_neg (by omega),if_neg (by omega),if_pos k]
theorem xl {b:kT}(k:b.kind=4):b.kindOk=(mP b.text&&b.qm):=by rw[kT.kindOk,if_neg (by omega),if_neg (by omega),if_neg (by omega),if_pos k]
theorem vU {b:kT}(k:b.kind=5):b.kindOk=(mK b.text&&b.qm):=by rw[kT.kindOk,if_neg (by omega),if_neg (by omega),if_neg (by omega),if_neg (by omega),if_pos k]
theorem JX {b:kT}(k1:¬b.kind=1)(M:¬b.kind=2)(O:¬b.kind=3)(V:¬b.kind=4)(a1:¬b.kind=5):b.kindOk=false:=by rw[kT.kindOk,if_neg k1,if_neg M,if_neg O,if_neg V,if_neg a1]
theorem ud {b:kT}(h:b.story=0):decide (b.ref=0)=b.qm:=by simp[kT.qm,h]
theorem uA {b:kT}(h:¬b.story=0):b.qm=false:=by simp[kT.qm,h]
theorem Im {b:kT}(h:1≤b.story)(M:b.story≤64)(O:1≤b.ref):decide (b.ref≤1000)=decide (1≤b.story∧b.story≤64∧1≤b.ref∧b.ref≤1000):=by simp only[decide_eq_decide];omega
theorem Uf {p:OA}{c b1:Nat}{b:kT}(h:lX (kY W) p b.lab.after)(a2:b.Fits)(b6:W.heap[b1]?=some xB):
  PW TP 172 ⟨[.agg ⟨b.cells p c⟩,.map (some b1)]⟩ W (.bool b.ok):=by
 refine Sv b.id b.kind b.text b.story b.ref b.lab.unt p b.lab.after.length c b.lab.appr b.lab.den b1 (Mem.start [] W) fun B=>⟨b6,?_⟩
 have a3:∀L a8,Mem L [] W a8→PW TP 101 ⟨[.agg ⟨b.lab.cells p c⟩]⟩ a8 (.bool b.lab.ok):=fun L a8 b5=>Ee (h.mono (lK b5)) a2.2
 refine⟨fun k1 b7=>?_,fun k1=>⟨fun a4 B2=>?_,fun a4=>⟨fun a5 B3=>?_,fun a5=>⟨fun a6 b9=>?_,fun a6=>⟨fun a7 c2=>?_,fun a7 B6=>kQ (n9 (JX k1 a4 a5 a6 a7))⟩⟩⟩⟩⟩
 ·refine⟨fun i1=>kQ (qB (by omega)),fun i1=>⟨fun a1=>kQ (qB (by omega)),fun a1=>eA.pw (a3 _) ⟨_,rfl,rfl,fun M=>eA.pure (E3 b.text a2.1) ⟨_,rfl,rfl,fun O=>⟨fun V=>kQ (r8 ⟨by omega,by omega⟩ M ?_),fun V=>kQ (n9 ?_)⟩,fun O=>kQ (n9 ?_)⟩,fun M=>kQ (wC M)⟩⟩⟩
  ·rw[w6 k1,O,aH,ud V]
  ·rw[w6 k1,uA V,bz]
  ·rw[w6 k1,O,aF]
 ·refine⟨fun i1=>kQ (qB (by omega)),fun i1=>⟨fun a1=>kQ (qB (by omega)),fun a1=>eA.pw (a3 _) ⟨_,rfl,rfl,fun M=>eA.pure (E3 b.text a2.1) ⟨_,rfl,rfl,fun O=>⟨fun V=>kQ (r8 ⟨by omega,by omega⟩ M ?_),fun V=>kQ (n9 ?_)⟩,fun O=>kQ (n9 ?_)⟩,fun M=>kQ (wC M)⟩⟩⟩
  ·rw[wQ a4,O,aH,ud V]
  ·rw[wQ a4,uA V,bz]
  ·rw[wQ a4,O,aF]
 ·have a9:¬(1≤b.story∧b.story≤64∧1≤b.ref∧b.ref≤1000)→(dq false)=.bool b.ok:=fun hn=>n9 (by rw[yr a5,decide_eq_false hn,bz])
  refine⟨fun i1=>kQ (qB (by omega)),fun i1=>⟨fun a1=>kQ (qB (by omega)),fun a1=>eA.pw (a3 _) ⟨_,rfl,rfl,fun M=>eA.pure (G7 b.text a2.1) ⟨_,rfl,rfl,fun O=>?_,fun O=>kQ (n9 ?_)⟩,fun M=>kQ (wC M)⟩⟩⟩
  ·refine⟨fun V=>⟨fun b3=>⟨fun b4=>kQ (r8 ⟨by omega,by omega⟩ M ?_),fun b4=>kQ (a9 (by omega))⟩,fun b3=>kQ (a9 (by omega))⟩,fun V=>kQ (a9 (by omega))⟩
   rw[yr a5,O,aH,Im V b3 b4]
  ·rw[yr a5,O,aF]
 ·refine⟨fun i1=>kQ (qB (by omega)),fun i1=>⟨fun a1=>kQ (qB (by omega)),fun a1=>eA.pw (a3 _) ⟨_,rfl,rfl,fun M=>eA.pure (E3 b.text a2.1) ⟨_,rfl,rfl,fun O=>⟨fun V=>kQ (r8 ⟨by omega,by omega⟩ M ?_),fun V=>kQ (n9 ?_)⟩,fun O=>kQ (n9 ?_)⟩,fun M=>kQ (wC M)⟩⟩⟩
  ·rw[xl a6,O,aH,ud V]
  ·rw[xl a6,uA V,bz]
  ·rw[xl a6,O,aF]
 ·refine⟨fun i1=>kQ (qB (by omega)),fun i1=>⟨fun a1=>kQ (qB (by omega)),fun a1=>eA.pw (a3 _) ⟨_,rfl,rfl,fun M=>eA.pure (YO b.text a2.1) ⟨_,rfl,rfl,fun O=>⟨fun V=>kQ (r8 ⟨by omega,by omega⟩ M ?_),fun V=>kQ (n9 ?_)⟩,fun O=>kQ (n9 ?_)⟩,fun M=>kQ (wC M)⟩⟩⟩
  ·rw[vU a7,O,aH,ud V]
  ·rw[vU a7,uA V,bz]
  ·rw[vU a7,O,aF]
theorem C2 {s:BA}(h:¬s=(⟨#[]⟩:BA))(O:pO s=true):mP s=true:=by
 rw[mP,O,decide_eq_true (show s.size≠0 from fun M=>h (Az.2 M))];rfl
theorem EB {s:BA}(h:s=(⟨#[]⟩:BA)):mP s=false:=by
 rw[mP,decide_eq_false (show¬s.size≠0 from fun M=>M (Az.1 h)),aF]
theorem PG {b:kT}(M:pO b.text=false):b.kindOk=false:=by
 have hn:mK b.text=false:=by
  cases h:mK b.text with
  |false=>rfl
  |true=>rw[Sy h]at M;cases M
 have O:mP b.text=false:=by rw[mP,M,bz]
 unfold kT.kindOk;simp only[hn,O,M,aF]
 repeat' split
 all_goals rfl
theorem Uh {p:OA}{c:Nat}{b:kT}(h:lX (kY W) p b.lab.after)(a6:b.Fits):PW TP 181 ⟨[.agg ⟨b.cells p c⟩]⟩ W (.bool b.ok):=by
 refine O6 b.id b.kind b.text b.story b.ref b.lab.unt p b.lab.after.length c b.lab.appr b.lab.den (Mem.start [] W) fun B=>?_
 refine eA.pure (Mh b.text a6.1) ⟨_,rfl,rfl,?_⟩;refine eA.pw (fun b4 b1=>IT (h.mono (lK b1)) a6.2) ⟨_,rfl,rfl,?_⟩;refine⟨fun i1=>kQ (qB (by omega)),fun i1=>⟨fun b3=>kQ (qB (by omega)),fun b3=>⟨fun O=>⟨fun M=>?_,fun M=>kQ (wC M)⟩,fun O=>kQ (n9 (PG O))⟩⟩⟩;have V:1≤b.id∧b.id≤1000:=⟨by omega,by omega⟩;refine⟨fun k1=>⟨fun e=>⟨fun q=>kQ (r8 V M ?_),fun q=>kQ (n9 ?_)⟩,fun e=>kQ (n9 ?_)⟩,fun k1=>⟨fun a1=>⟨fun e=>⟨fun q=>kQ (r8 V M ?_),fun q=>kQ (n9 ?_)⟩,fun e=>kQ (n9 ?_)⟩,fun a1=>⟨fun a2=>⟨fun e=>⟨fun q=>kQ (r8 V M ?_),fun q=>kQ (n9 ?_)⟩,fun e=>kQ (n9 ?_)⟩,fun a2=>⟨fun a3=>?_,fun a3=>⟨fun a4=>?_,fun a4=>kQ (n9 (JX k1 a1 a4 a2 a3))⟩⟩⟩⟩⟩
 ·rw[w6 k1,C2 e O,aH,ud q]
 ·rw[w6 k1,uA q,bz]
 ·rw[w6 k1,EB e,aF]
 ·rw[wQ a1,C2 e O,aH,ud q]
 ·rw[wQ a1,uA q,bz]
 ·rw[wQ a1,EB e,aF]
 ·rw[xl a2,C2 e O,aH,ud q]
 ·rw[xl a2,uA q,bz]
 ·rw[xl a2,EB e,aF]
 ·refine eA.pure (ye b.text a6.1) ⟨_,rfl,rfl,fun hn=>⟨fun q=>kQ (r8 V M ?_),fun q=>kQ (n9 ?_)⟩,fun hn=>kQ (n9 ?_)⟩
  ·rw[vU a3,hn,aH,ud q]
  ·rw[vU a3,uA q,bz]
  ·rw[vU a3,hn,aF]
 ·have a5:¬(1≤b.story∧b.story≤64∧1≤b.ref∧b.ref≤1000)→(dq false)=.bool b.ok:=fun hn=>n9 (by rw[yr a4,decide_eq_false hn,bz])
  refine⟨fun a7=>⟨fun a8=>⟨fun a9=>kQ (r8 V M ?_),fun a9=>kQ (a5 (by omega))⟩,fun a8=>kQ (a5 (by omega))⟩,fun a7=>kQ (a5 (by omega))⟩;rw[yr a4,O,aH,Im a7 a8 a9]
theorem IN {c:List aa}{n:Nat}{v:aa}{r:List aa}(h:(c.drop n).take 9=v::r):c[n]?=some v:=by
 have:((c.drop n).take 9)[0]?=some v:=by rw[h];rfl
 rw[List.getElem?_take_of_lt (by decide),List.getElem?_drop]at this;simpa using this
def tV (l:List kT)(b:kT)(k:Nat):Bool:=(l.drop k).all fun e=>decide (e.id≠b.id)
theorem NI {l:List kT}{b:kT}{k:Nat}(h:k<l.length):tV l b k=(decide (l[k].id≠b.id)&&tV l b (k+1)):=by
 unfold tV;rw[aG h,List.all_cons]
theorem M1 {l:List kT}{b:kT}{k:Nat}(h:l.length≤k):tV l b k=true:=by
 unfold tV;rw[ax h];rfl
def tv (l:List kT)(i:Nat):Bool:=uu (l.take i) (l.drop i)
theorem I3 {l:List kT}{i:Nat}(h:i<l.length):tv l i=(l[i].ok&&(tV (l.take i) l[i] 0&&tv l (i+1))):=by
 unfold tv tV;rw[aG h,uu,aU];congr 2;rw[gH,ar h];rfl
theorem HE {l:List kT}{i:Nat}(h:l.length≤i):tv l i=true:=by
 unfold tv;rw[ax h];rfl
theorem M9 {w0:aj}{p:OA}{c a3:Nat}{R:bJ→aj→Prop}{l:List kT}(a1:mY (kY w0) p l)(hn:l.length≤24)(hc:l.length≤c)(HR:∀L v,Fin R [] [] w0 v→Fin R L [] w0 v):
  ∀(g i:Nat),g+i=l.length→Fin R [] [] w0 (.bool (tv l i))→BF a3 p l.length c p l.length c (l.length:Int) (i:Int) w0 R
 |0,i,hg,H=>by
  apply Js;refine no (by omega) (HR _ _ (lD H ?_));rw[HE (by omega)]
 | g +1,i,hg,H=>by
  apply Js;have hi:i<l.length:=by omega
  obtain⟨M,o1,c1,rfl,a9,b1,a6,a4,b3,b4,b5⟩:=a1.get hi;rw[I3 hi]at H;refine yes (by omega) ⟨M,o1,rfl,by omega,c1,l[i].id,l[i].kind,l[i].text,l[i].story,l[i].ref,l[i].lab.unt,a6,l[i].lab.after.length,a4,l[i].lab.appr,l[i].lab.den,a9,⟨by simpa using b3,by simpa using b1⟩,fun B2=>?_⟩;refine eA.pw (fun d0 a5=>Uf (b4.mono (lK a5)) b5 (a5.here (a3,xB) (by simp))) ⟨_,rfl,rfl,fun a2=>⟨by omega,?_⟩,fun a2=>HR _ _ (lD H ?_)⟩
  ·rw [a2,aH]at H
   rw [ai];have c7:∀(q k:Nat),q+k=i→Fin R [] [] w0 (.bool (tV (l.take i) l[i] k&&tv l (i+1)))→
     BC a3 B2 (some ⟨M,o1,none⟩) l.length c (some ⟨M,o1,none⟩) l.length c (l.length:Int) (i:Int) (some ⟨M,o1,none⟩) i c (i:Int) (k:Int) l[i].id l[i].kind l[i].text l[i].story l[i].ref l[i].lab.unt a6 l[i].lab.after.length a4 l[i].lab.appr l[i].lab.den w0 R:=by
    intro q;induction q with
    |zero=>
     intro k c4 O;apply I1;refine no (by omega) ?_;rw[kS (by omega),show(i:Int)+1=((i+1:Nat):Int)by omega];refine M9 a1 hn hc HR g (i+1) (by omega) (lD O ?_);rw[M1 (by rw[ao];omega),aH]
    | succ q ih=>
     intro k c4 O;apply I1;have c5:k<l.length:=by omega
     have c6:k<(l.take i).length:=by rw[ao];omega
     obtain⟨B3,d3,a7,c2,b6,b7,c8,a8,b9,d1,d2⟩:=a1.get c5;cases c2
     have c3:(l.take i)[k]=l[k]:=fO;rw[NI c6,c3]at O;refine yes (by omega) ⟨M,o1,rfl,by omega,a7,l[k].id,l[k].kind,l[k].text,l[k].story,l[k].ref,l[k].lab.unt,c8,l[k].lab.after.length,a8,l[k].lab.appr,l[k].lab.den,b6,⟨by simpa using b9,by simpa using b7⟩,fun c9=>⟨fun V=>HR _ _ (lD O ?_),fun V=>?_⟩⟩
     ·rw[decide_eq_false (show¬l[k].id≠l[i].id from fun h=>h V),aF,aF]
     ·rw[kS (by omega),show(k:Int)+1=((k+1:Nat):Int)by omega]
      refine ih (k+1) (by omega) (lD O ?_);rw[decide_eq_true (show l[k].id≠l[i].id from V),aH]
   exact c7 i 0 (by omega) H
  ·rw[a2,aF]
theorem FR {p:OA}{c:Nat}{l:List kT}(M:mY (kY W) p l)(hc:l.length≤c):PW TP 141 ⟨[.slice p l.length c]⟩ W (.bool (m9 l)):=by
 refine UE p l.length c (Mem.start [] W) ⟨fun h=>kQ ?_,fun h=>eA.rules fun O=>⟨O,rfl,rfl,M9 M (by omega) hc tY l.length 0 (by omega) (kQ ?_)⟩⟩
 ·rw[m9,decide_eq_false (by omega),aF]
 ·rw[m9,decide_eq_true (by omega),aH];rfl
theorem MM {w0:aj}{p:OA}{c:Nat}{R:bJ→aj→Prop}{l:List kT}(a1:mY (kY w0) p l)(hn:l.length≤24):
  ∀(g i:Nat),g+i=l.length→Fin R [] [] w0 (.bool (tv l i))→CM p l.length c (i:Int) w0 R
 |0,i,hg,H=>by
  apply GC;refine no (by omega) (lD H ?_);rw[HE (by omega)]
 | g +1,i,hg,H=>by
  apply GC;have hi:i<l.length:=by omega
  obtain⟨O,o1,c1,rfl,a3,a7,c4,a6,a4,a8,a9⟩:=a1.get hi;rw[I3 hi]at H;refine yes (by omega) ⟨O,o1,rfl,by omega,c1,l[i].id,l[i].kind,l[i].text,l[i].story,l[i].ref,l[i].lab.unt,c4,l[i].lab.after.length,a6,l[i].lab.appr,l[i].lab.den,a3,⟨by simpa using a4,by simpa using a7⟩,?_⟩;refine eA.pw (fun c5 c2=>Uh (a8.mono (lK c2)) a9) ⟨_,rfl,rfl,fun a2=>?_,fun a2=>lD H ?_⟩
  ·rw [a2,aH]at H
   have c3:∀(q k:Nat),q+k=i→Fin R [] [] w0 (.bool (tV (l.take i) l[i] k&&tv l (i+1)))→
     zL (some ⟨O,o1,none⟩) l.length c (i:Int) (k:Int) w0 R:=by
    intro q;induction q with
    |zero=>
     intro k b6 M;apply Li;refine no (by omega) ?_;rintro _ rfl;rw[kS (by omega),show(i:Int)+1=((i+1:Nat):Int)by omega];refine MM a1 hn g (i+1) (by omega) (lD M ?_);rw[M1 (by rw[ao];omega),aH]
    | succ q ih=>
     intro k b6 M;apply Li;have b7:k<l.length:=by omega
     have b9:k<(l.take i).length:=by rw[ao];omega
     obtain⟨B3,d0,a5,b4,b1,c7,d1,c6,b3,c8,c9⟩:=a1.get b7;cases b4
     have b5:(l.take i)[k]=l[k]:=fO;rw[NI b9,b5]at M;refine yes (by omega) ⟨O,o1,rfl,by omega,a5,l[k].id,b1,by simpa using IN b3,by omega,c1,l[i].id,a3,by simpa using IN a4,fun V=>lD M ?_,fun V=>?_⟩
     ·rw[decide_eq_false (show¬l[k].id≠l[i].id from fun h=>h V),aF,aF]
     ·rintro _ rfl
      rw[kS (by omega),show(k:Int)+1=((k+1:Nat):Int)by omega];refine ih (k+1) (by omega) (lD M ?_);rw[decide_eq_true (show l[k].id≠l[i].id from V),aH]
   exact c3 i 0 (by omega) H
  ·rw[a2,aF]
theorem Be {p:OA}{c:Nat}{l:List kT}(M:mY (kY W) p l):PW TP 164 ⟨[.slice p l.length c]⟩ W (.bool (m9 l)):=by
 refine Sm p l.length c (Mem.start [] W) ⟨fun h=>kQ ?_,fun h=>MM M (by omega) l.length 0 (by omega) (kQ ?_)⟩
 ·rw[m9,decide_eq_false (by omega),aF]
 ·rw[m9,decide_eq_true (by omega),aH];rfl
theorem Rf (e f:Int)(k:BA)(j i l:Int)(h:OA)(g c:Nat)(b d p q:Int)(x:BA)(w u y:Int)(t:OA)(s n:Nat)(m o:Int)(hm:Mem [] [] w0 W)(H:VP [] w0 R (.np 2 (.cells (kAeq e f k j i l h g c b d) 149) fun B=>.np 0 (.cells (kAeq p q x w u y t s n m o) 149) fun A=>.hp [(kBxq B e f k j i l h g c b d),(kBxq A p q x w u y t s n m o)] fun a=>.ru [5,200,1,201]<|.P 2 10 (e=p) (.ru [1,200,1,201]<|.P 3 17 (f=q) (.ru [1,200,1,201]<|.sE 3 24 k x (.ru [1,200,1,201]<|.P 3 31 (j=w) (.ru [1,200,1,201]<|.P 3 38 (i=u) (.ru [1,200,1,201]<|.cl 0 108 [.agg (kAuq l h g c b d),.agg (kAuq y t s n m o)] a<|.ex fun z=>.rt (.bool z) a<|.re 3 (.bool z) a)<|.re 8 (.bool false) a)<|.re 15 (.bool false) a)<|.re 22 (.bool false) a)<|.re 29 (.bool false) a)<|.re 36 (.bool false) a)):aE TP 148 ⟨[.agg (kAeq e f k j i l h g c b d),.agg (kAeq p q x w u y t s n m o)]⟩ W R:=VC.cs Tryz.func148 hm _ H
theorem Ra (e f:Int)(k:BA)(j i l:Int)(h:OA)(g c:Nat)(b d p q:Int)(x:BA)(w u y:Int)(t:OA)(s n:Nat)(m o:Int)(hm:Mem [] [] w0 W)(H:VP [] w0 R (.np 2 (.cells (kAeq e f k j i l h g c b d) 149) fun B=>.np 0 (.cells (kAeq p q x w u y t s n m o) 149) fun A=>.hp [(kBxq B e f k j i l h g c b d),(kBxq A p q x w u y t s n m o)] fun a=>.ru [5,200,1,201]<|.P 2 10 (e=p) (.ru [1,200,1,201]<|.P 3 17 (f=q) (.ru [1,200,1,201]<|.sE 3 24 k x (.ru [1,200,1,201]<|.P 3 31 (j=w) (.ru [1,200,1,201]<|.P 3 38 (i=u) (.ru [1,200,1,201]<|.cl 0 119 [.agg (kAuq l h g c b d),.agg (kAuq y t s n m o)] a<|.ex fun z=>.rt (.bool z) a<|.re 3 (.bool z) a)<|.re 8 (.bool false) a)<|.re 15 (.bool false) a)<|.re 22 (.bool false) a)<|.re 29 (.bool false) a)<|.re 36 (.bool false) a)):aE TP 160 ⟨[.agg (kAeq e f k j i l h g c b d),.agg (kAeq p q x w u y t s n m o)]⟩ W R:=VC.cs Tryz.func160 hm _ H
noncomputable def BI (c:OA)(b a:Nat)(f:OA)(e d:Nat)(g h:Int):Cut:=⟨TP,[],147,32,(KC Tryz.f147 116),[(1,.slice c b a),(2,.func (.func 148) #[] #[]),(15,.slice f e d),(16,IV g),(17,IV h)],[]⟩
theorem NO (U:OA)(G F:Nat)(V:OA)(N M:Nat)(O a:Int)(H:VP [] w0 R (.P 5 18 (a<O) (.r 7<|.x2 fun e c=>.sp V e c [15]<|.iL e c N M 9 a (c+((ad a)*9))<|.x5 fun Y s t u w=>.x5 fun x y C A z=>.x2 fun D E=>.uo e (c+((ad a)*9)) 9 149 Y (kAwq s t u w x y C A z D E)<|.np 0 (.cells kBdq 149) fun B=>.ru [1,200]<|.r 5<|.x2 fun d b=>.sp U d b [1,22]<|.iL d b G F 9 a (b+((ad a)*9))<|.x5 fun Z g h i j=>.x5 fun k l o n m=>.x2 fun p q=>.uo d (b+((ad a)*9)) 9 149 Z (kAwq g h i j k l o n m p q)<|.np 0 (.cells kBdq 149) fun X=>.hp [(kBxq B s t u w x y C A z D E),(kBxq X g h i j k l o n m p q)] fun f=>.ru [201,4,200,201]<|.cl 0 148 [.agg (kAeq s t u w x y C A z D E),.agg (kAeq g h i j k l o n m p q)] f<|.ex fun Q=>.rt (.bool Q) f<|.B 0 29 Q (.ct 10 [] (BI (some ⟨d,b,none⟩) G F (some ⟨e,c,none⟩) N M O (ab.wrap (a+1))))<|.re 7 (.bool false) f)<|.re 6 (.bool true) [])):BI U G F V N M O a w0 R:=VC.go Tryz.func147 _ H
theorem Zj (d:OA)(a c:Nat)(f:OA)(b e:Nat)(hm:Mem [] [] w0 W)(H:VP [] w0 R (.I 13 14 ((a:Int)=(b:Int)) (.re 5 (.bool false) [])<|.ct 11 [] (BI f b e d a c (a:Int) 0))):aE TP 147 ⟨[.slice d a c,.slice f b e,.func (.func 148) #[] #[]]⟩ W R:=VC.cs Tryz.func147 hm _ H
theorem Y0 (c:OA)(b a:Nat)(f:OA)(e d:Nat)(hm:Mem [] [] w0 W)(H:VP [] w0 R (.cl 8 147 [.slice c b a,.slice f e d,.func (.func 148) #[] #[]] []<|.ex fun g=>.rt (.bool g) []<|.re 2 (.bool g) [])):aE TP 107 ⟨[.slice c b a,.slice f e d]⟩ W R:=VC.cs Tryz.func107 hm _ H
noncomputable def BW (c:OA)(b a:Nat)(f:OA)(e d:Nat)(g:Int):Cut:=⟨TP,[],118,29,(KC Tryz.f118 116),[(0,.slice c b a),(1,.slice f e d),(5,IV g)],[]⟩
theorem Gw (j:OA)(d g:Nat)(k:OA)(i h:Nat)(a:Int)(H:VP [] w0 R (.P 8 15 (a<(d:Int)) (.r 5<|.dr 10<|.qu [2]<|.x2 fun e b=>.sp j e b [0,13,18]<|.iL e b d g 9 a (b+((ad a)*9))<|.x5 fun U y z A C=>.x5 fun D E M G F=>.x2 fun N O=>.uo e (b+((ad a)*9)) 9 149 U (kAwq y z A C D E M G F N O)<|.qu [2]<|.x2 fun f c=>.sp k f c [1,22]<|.iL f c i h 9 a (c+((ad a)*9))<|.x5 fun V l m n o=>.x5 fun p q u t s=>.x2 fun w x=>.uo f (c+((ad a)*9)) 9 149 V (kAwq l m n o p q u t s w x)<|.ex fun Q=>.qc 160 [.agg (kAeq y z A C D E M G F N O),.agg (kAeq l m n o p q u t s w x)] [] (.bool Q)<|.qu [1]<|.dn<|.B 4 27 Q (.li 9 5 (ab.wrap (a+1)) fun X=>.ct 2 [] (BW (some ⟨e,b,none⟩) d g (some ⟨f,c,none⟩) i h X))<|.re 7 (.bool false) [])<|.re 6 (.bool true) [])):BW j d g k i h a w0 R:=VC.go Tryz.func118 _ H
theorem XY (d:OA)(a c:Nat)(f:OA)(b e:Nat)(hm:Mem [] [] w0 W)(H:VP [] w0 R (.I 13 11 ((a:Int)=(b:Int)) (.re 5 (.bool false) [])<|.ct 9 [] (BW d a c f b e 0))):aE TP 118 ⟨[.slice d a c,.slice f b e]⟩ W R:=VC.cs Tryz.func118 hm _ H
theorem lV.pw {L:aX}{v:aa}(h:∀W,Mem L S w0 W→PW P g args W v):lV P g args L S w0 v:=
 fun W hm=>(h W hm).mono fun _ _ M=>⟨M.1,hm.after M.2⟩
theorem m3.pw {L:aX}{v:aa}(h:∀W,Mem L S w0 W→PW P g args W v):m3 P g args L S w0 v:=h
theorem kT.ext' {x y:kT}:x=y↔x.id=y.id∧x.kind=y.kind∧x.text=y.text∧x.story=y.story∧x.ref=y.ref∧x.lab=y.lab:=by
 cases x;cases y;simp
theorem kT.ne {x y:kT}(h:¬(x.id=y.id∧x.kind=y.kind∧x.text=y.text∧x.story=y.story∧x.ref=y.ref∧x.lab=y.lab)):(dq false)=.bool (decide (x=y)):=by
 rw[decide_eq_false (fun e=>h (kT.ext'.1 e))]
theorem kT.Hj {x y:kT}(M:x.id=y.id)(O:x.kind=y.kind)(V:x.text=y.text)(a1:x.story=y.story)(a2:x.ref=y.ref):decide (x.lab=y.lab)=decide (x=y):=by
 simp only[kT.ext',M,O,V,a1,a2,true_and]
theorem OW {p q:OA}{c d:Nat}{x y:kT}(a5:lX (kY W) p x.lab.after)(a6:lX (kY W) q y.lab.after)(a4:x.Fits):
  PW TP 148 ⟨[.agg ⟨x.cells p c⟩,.agg ⟨y.cells q d⟩]⟩ W (.bool (decide (x=y))):=by
 refine Rf x.id x.kind x.text x.story x.ref x.lab.unt p x.lab.after.length c x.lab.appr x.lab.den y.id y.kind y.text y.story y.ref y.lab.unt q y.lab.after.length d y.lab.appr y.lab.den (Mem.start [] W) fun B a7=>?_
 refine⟨fun M=>⟨fun O=>⟨fun V=>⟨fun a1=>⟨fun a2=>?_,fun a2=>kQ (kT.ne fun h=>a2 h.2.2.2.2.1)⟩,fun a1=>kQ (kT.ne fun h=>a1 h.2.2.2.1)⟩,fun V=>kQ (kT.ne fun h=>V h.2.2.1)⟩,fun O=>kQ (kT.ne fun h=>O h.2.1)⟩,fun M=>kQ (kT.ne fun h=>M h.1)⟩;exact eA.pw (fun a8 a3=>ND (a5.mono (lK a3)) (a6.mono (lK a3)) a4.2) ⟨_,rfl,rfl,kQ (by rw[kT.Hj M O V a1 a2])⟩
theorem UH {p q:OA}{c d:Nat}{x y:kT}(a5:lX (kY W) p x.lab.after)(a6:lX (kY W) q y.lab.after)(a4:x.Fits):
  PW TP 160 ⟨[.agg ⟨x.cells p c⟩,.agg ⟨y.cells q d⟩]⟩ W (.bool (decide (x=y))):=by
 refine Ra x.id x.kind x.text x.story x.ref x.lab.unt p x.lab.after.length c x.lab.appr x.lab.den y.id y.kind y.text y.story y.ref y.lab.unt q y.lab.after.length d y.lab.appr y.lab.den (Mem.start [] W) fun B a7=>?_
 refine⟨fun M=>⟨fun O=>⟨fun V=>⟨fun a1=>⟨fun a2=>?_,fun a2=>kQ (kT.ne fun h=>a2 h.2.2.2.2.1)⟩,fun a1=>kQ (kT.ne fun h=>a1 h.2.2.2.1)⟩,fun V=>kQ (kT.ne fun h=>V h.2.2.1)⟩,fun O=>kQ (kT.ne fun h=>O h.2.1)⟩,fun M=>kQ (kT.ne fun h=>M h.1)⟩;exact eA.pw (fun a8 a3=>KP (a5.mono (lK a3)) (a6.mono (lK a3)) a4.2) ⟨_,rfl,rfl,kQ (by rw[kT.Hj M O V a1 a2])⟩
theorem JE {w0:aj}{p q:OA}{a7 a8:Nat}{R:bJ→aj→Prop}{a b:List kT}(V:mY (kY w0) p a)(a1:mY (kY w0) q b)(c3:a.length=b.length)(hm:a.length≤9223372036854775807)(HR:∀L v,Fin R [] [] w0 v→Fin R L [] w0 v):
  ∀(g i:Nat),g+i=a.length→Fin R [] [] w0 (.bool (decide (a.drop i=b.drop i)))→BI q b.length a8 p a.length a7 (a.length:Int) (i:Int) w0 R
 |0,i,hg,H=>by
  apply NO;refine no (by omega) (lD H ?_);rw[ax (by omega),ax (by omega)];simp
 | g+1,i,hg,H=>by
  apply NO;have M:i<a.length:=by omega
  have O:i<b.length:=by omega
  obtain⟨a3,o1,c1,rfl,a9,b1,c5,a5,b3,b4,b5⟩:=V.get M;obtain⟨B2,c4,a4,rfl,b6,b7,c6,a6,b9,c2,c9⟩:=a1.get O;simp only[drop_eq M O]at H;refine yes (by omega) ⟨a3,o1,rfl,by omega,c1,a[i].id,a[i].kind,a[i].text,a[i].story,a[i].ref,a[i].lab.unt,c5,a[i].lab.after.length,a5,a[i].lab.appr,a[i].lab.den,a9,⟨by simpa using b3,by simpa using b1⟩,fun B3=>
   ⟨B2,c4,rfl,by omega,a4,b[i].id,b[i].kind,b[i].text,b[i].story,b[i].ref,b[i].lab.unt,c6,b[i].lab.after.length,a6,b[i].lab.appr,b[i].lab.den,b6,⟨by simpa using b9,by simpa using b7⟩,fun c7=>?_⟩⟩
  refine eA.pw (fun c8 a2=>OW (b4.mono (lK a2)) (c2.mono (lK a2)) b5) ⟨_,rfl,rfl,fun h=>?_,fun h=>HR _ _ (lD H ?_)⟩
  ·have h:=of_decide_eq_true h
   rw[kS (by omega),show(i:Int)+1=((i+1:Nat):Int)by omega];refine JE V a1 c3 hm HR g (i+1) (by omega) (lD H ?_);simp[h]
  ·have h:=of_decide_eq_false h
   simp[h]
theorem YR {p q:OA}{M O:Nat}{a b:List kT}(V:mY (kY W) p a)(a1:mY (kY W) q b)(hm:a.length≤9223372036854775807):
  PW TP 107 ⟨[.slice p a.length M,.slice q b.length O]⟩ W (.bool (decide (a=b))):=by
 refine Y0 p a.length M q b.length O (Mem.start [] W) (eA.pw (v:=.bool (decide (a=b))) (fun a3 a2=>?_) ⟨_,rfl,rfl,kQ rfl⟩);have V:=V.mono (lK a2);have a1:=a1.mono (lK a2);refine Zj p a.length M q b.length O (Mem.start [] a3) ⟨fun h=>kQ ?_,fun h=>JE V a1 (by omega) hm tY a.length 0 (by omega) (kQ ?_)⟩
 ·rw[decide_eq_false]
  intro a4;subst a4;exact h rfl
 ·simp
theorem Na {w0:aj}{p q:OA}{a7 a8:Nat}{R:bJ→aj→Prop}{a b:List kT}(V:mY (kY w0) p a)(a1:mY (kY w0) q b)(c3:a.length=b.length)(hm:a.length≤9223372036854775807):
  ∀(g i:Nat),g+i=a.length→Fin R [] [] w0 (.bool (decide (a.drop i=b.drop i)))→BW p a.length a7 q b.length a8 (i:Int) w0 R
 |0,i,hg,H=>by
  apply Gw;refine no (by omega) (lD H ?_);rw[ax (by omega),ax (by omega)];simp
 | g+1,i,hg,H=>by
  apply Gw;have M:i<a.length:=by omega
  have O:i<b.length:=by omega
  obtain⟨a3,o1,c1,rfl,a9,b1,c5,a5,b3,b4,b5⟩:=V.get M;obtain⟨B2,c4,a4,rfl,b6,b7,c6,a6,b9,c2,c8⟩:=a1.get O;simp only[drop_eq M O]at H;refine yes (by omega) ⟨a3,o1,rfl,by omega,c1,a[i].id,a[i].kind,a[i].text,a[i].story,a[i].ref,a[i].lab.unt,c5,a[i].lab.after.length,a5,a[i].lab.appr,a[i].lab.den,a9,⟨by simpa using b3,by simpa using b1⟩,
   B2,c4,rfl,by omega,a4,b[i].id,b[i].kind,b[i].text,b[i].story,b[i].ref,b[i].lab.unt,c6,b[i].lab.after.length,a6,b[i].lab.appr,b[i].lab.den,b6,⟨by simpa using b9,by simpa using b7⟩,_,lV.pw fun c7 a2=>UH (b4.mono (lK a2)) (c2.mono (lK a2)) b5,fun h=>?_,fun h=>lD H ?_⟩
  ·have h:=of_decide_eq_true h
   rintro _ rfl;rw[kS (by omega),show(i:Int)+1=((i+1:Nat):Int)by omega];refine Na V a1 c3 hm g (i+1) (by omega) (lD H ?_);simp[h]
  ·have h:=of_decide_eq_false h
   simp[h]
theorem U4 {p q:OA}{M O:Nat}{a b:List kT}(V:mY (kY W) p a)(a2:mY (kY W) q b)(hm:a.length≤9223372036854775807):
  PW TP 118 ⟨[.slice p a.length M,.slice q b.length O]⟩ W (.bool (decide (a=b))):=by
 refine XY p a.length M q b.length O (Mem.start [] W) ⟨fun h=>kQ ?_,fun h=>Na V a2 (by omega) hm a.length 0 (by omega) (kQ ?_)⟩
 ·rw[decide_eq_false]
  intro a1;subst a1;exact h rfl
 ·simp
abbrev yB7aa (a:Nat):aX:=[(a,.cells #[PP a,.slice none 0 0] 103)]
abbrev kBnq (x0):=((x0,.cells #[.pointer none,.slice none 0 0] 103):Nat×Obj)
abbrev kCbq (x0):=(.tuple #[IV x0,.nilIface]:aa)
theorem OQ (B:Nat)(a:BA)(hm:Mem [(kBnq B)] S w0 W)(H:VP S w0 R (.il 8 fZ [PP B]<|.ru [5,200]<|.r 6<|.pC 0 103 B 0 ([.pointer none,.slice none 0 0]:List aa) 103 1<|.r 1<|.pB 0 103 B 0 2 ([.pointer none,.slice none 0 0]:List aa) 103<|.ru [2,200]<|.rk 1<|.ru [7,200]<|.r 1<|.aS false 47 9 5 1 a (.ru [2,200]<|.li 6 4 (a.size:Int) fun d=>.re 2 (kCbq d) (yB7aa B)) fun(b c:Nat) (r:List aa)=>.ru [2,200]<|.li 6 4 (a.size:Int) fun e=>.re 2 (kCbq e) [(B,.cells #[PP B,.slice (SO b) a.size c] 103),(b,.cells ⟨((kU a.data.toList)++r)⟩ 5)])):aE TP 109 ⟨[PP B,.string a]⟩ W R:=VC.cs ga hm _ H
theorem VR (B:Nat)(a:BA)(hm:Mem (yB7aa B) S w0 W)(H:VP S w0 R (.il 8 fZ [PP B]<|.ru [5,200,8,200]<|.r 1<|.nS 101 ⟨B,0,none⟩<|.rk 3<|.ru [7,200]<|.r 1<|.aS false 47 9 5 1 a (.ru [2,200]<|.li 6 4 (a.size:Int) fun d=>.re 2 (kCbq d) (yB7aa B)) fun(b c:Nat) (r:List aa)=>.ru [2,200]<|.li 6 4 (a.size:Int) fun e=>.re 2 (kCbq e) [(B,.cells #[PP B,.slice (SO b) a.size c] 103),(b,.cells ⟨((kU a.data.toList)++r)⟩ 5)])):aE TP 109 ⟨[PP B,.string a]⟩ W R:=VC.cs ga hm _ H
theorem SR (B:Nat)(a:BA)(c b e:Nat)(cs:List aa)(hm:Mem [(B,.cells #[PP B,.slice (SO c) b (e+1)] 103),(c,.cells ⟨cs⟩ 5)] S w0 W)(H:VP S w0 R (.il 8 fZ [PP B]<|.ru [5,200,8,200]<|.r 1<|.nS 101 ⟨B,0,none⟩<|.rk 3<|.ru [7,200]<|.r 1<|.oS false 1 c b (e+1) cs 47 9 5 1 a fun(d f:Nat) (r:List aa)=>.ru [2,200]<|.li 6 4 (a.size:Int) fun g=>.re 2 (kCbq g) [(B,.cells #[PP B,.slice (SO d) (b+a.size) f] 103),(d,.cells ⟨((cs).take (b*1)++(kU a.data.toList)++r)⟩ 5)])):aE TP 109 ⟨[PP B,.string a]⟩ W R:=VC.cs ga hm _ H
theorem SP (B:Nat)(hm:Mem [(kBnq B)] S w0 W)(H:VP S w0 R (.r 5<|.dr 10<|.qu [3,100,4,100,1]<|.dn<|.re 3 (sZ) [(kBnq B)])):aE TP 60 ⟨[PP B]⟩ W R:=VC.cs gw hm _ H
theorem SL (B:Nat)(hm:Mem (yB7aa B) S w0 W)(H:VP S w0 R (.r 5<|.dr 10<|.qu [3,100,4,100,1]<|.dn<|.re 3 (sZ) (yB7aa B))):aE TP 60 ⟨[PP B]⟩ W R:=VC.cs gw hm _ H
theorem Qh (B a b d:Nat)(cs:List aa)(hm:Mem [(B,.cells #[PP B,.slice (SO a) b (d+1)] 103),(a,.cells ⟨cs⟩ 5)] S w0 W)(H:VP S w0 R (.r 5<|.dr 10<|.qu [3,100,4,100,1]<|.dn<|.ex fun(c:List UInt8)=>.uS 1 a 5 158 3 b cs c<|.ls 1 2 (⟨c.toArray⟩) fun e=>.re 1 (.string e) [(B,.cells #[PP B,.slice (SO a) b (d+1)] 103)])):aE TP 60 ⟨[PP B]⟩ W R:=VC.cs gw hm _ H
theorem kR {L:aX}{v:aa}(h:K v L):Fin (fun e M=>∃v L',e=.returned v∧Mem L' S W M∧K v L') L S W v:=
 fun _ hm=>⟨v,L,rfl,hm,h⟩
theorem zi (O:List Nat){L L':aX}{v:aa}(M:(nE L O,o5 O)=(L',true))(h:K v L'):
  Fin (fun e V=>∃v L',e=.returned v∧Mem L' S W V∧K v L') L S W v:=by
 simp only[af]at M;obtain⟨rfl,a1⟩:=M;exact fun _ hm=>⟨v,_,rfl,hm.vB (rY a1),h⟩
def m0 (P:aB)(g:FuncId)(args:Array aa)(L0:aX)(Pre:aj→Prop)(K:aa→aX→Prop):Prop:=
 ∀W,Mem L0 (L0.map (·.1)) W W→Pre W→aE P g args W fun e W'=>∃v L',e=.returned v∧Mem L' (L0.map (·.1)) W W'∧K v L'
theorem eA.nX {L:aX}{L0 L1:aX}{a4:aj→Prop}(h:m0 P g args L0 a4 K)(b7:∀W,Mem L S w0 W→a4 W)(hp:(L0++L1).Perm L)
  (a5:∀v L',K v L'→∃a2,(L'++L1).Perm a2∧K' v a2):eA P g args L S w0 K':=by
 intro W hm;have c3:lP P g args L0 K→eA P g args L S w0 K':=fun h=>eA.lF h hp a5
 have M:Mem (L0++L1) S w0 W:=hm.perm hp;have a7:=M.nodup;rw[cE,cm]at a7;obtain⟨b9,n1,a9⟩:=a7;refine(h W ⟨b9,fun p hp=>M.here p (ay _ hp),fun p hp=>.inr (da hp),Kept.refl _ W⟩ (b7 W hm)).mono ?_;rintro e c2 ⟨v,L',rfl,O,b4⟩;obtain⟨a2,b6,b5⟩:=a5 v L' b4;refine⟨v,a2,rfl,Mem.perm (L:=L'++L1) ⟨?_,?_,?_,?_⟩ b6.symm,b5⟩
 ·rw[cE,cm]
  refine⟨O.nodup,n1,?_⟩;intro a b1 b a6 b3;subst b3;obtain⟨p,hp,rfl⟩:=bV.1 b1;obtain⟨q,V,a1⟩:=bV.1 a6;rcases O.own p hp with h1|h1
  ·have:=M.lt (ak L0 V)
   omega
  ·exact a9 _ h1 _ a6 rfl
 ·intro p hp
  rcases cn.1 hp with hp|hp
  ·exact O.here p hp
  ·rw[O.kept.block p.1 (M.lt (ak _ hp)) (fun a3=>a9 _ a3 _ (da hp) rfl)]
   exact M.here p (ak _ hp)
 ·intro p hp
  rcases cn.1 hp with hp|hp
  ·rcases O.own p hp with h1|h1
   ·exact .inl (bC M.kept.size h1)
   ·obtain⟨q,V,a1⟩:=bV.1 h1
    have:=M.own q (ay _ V);rw[a1]at this;exact this
  ·exact M.own p (ak _ hp)
 ·refine⟨O.kept.os.trans M.kept.os,O.kept.tape.trans M.kept.tape,O.kept.output.trans M.kept.output,bC M.kept.size O.kept.size,fun i hi a8=>?_⟩
  rw[O.kept.block i (Nat.lt_of_lt_of_le hi M.kept.size) (fun a3=>?_)]
  ·exact M.kept.block i hi a8
  ·obtain⟨q,V,a1⟩:=bV.1 a3
   rcases M.own q (ay _ V)with h1|h1
   ·rw[a1]at h1;omega
   ·rw[a1]at h1;exact a8 h1
abbrev u4 (B:Nat)(p:aa)(v:aa):Nat×Obj:=(B,.cells #[p,v] 103)
def oI (B:Nat)(s:List UInt8)(F:aX):Prop:=
 (s=[]∧F=[u4 B (.pointer none) (.slice none 0 0)])∨(s=[]∧F=[u4 B (.pointer (SO B)) (.slice none 0 0)])∨
 ∃(Q cap:Nat) (cs:List aa),0<s.length∧s.length≤cap+1∧cs.length=(cap+1)*1∧cs.take s.length=kU s∧
  F=[u4 B (.pointer (SO B)) (.slice (SO Q) s.length (cap+1)),(Q,.cells ⟨cs⟩ 5)]
theorem oI.new (B:Nat):oI B [] [u4 B (.pointer none) (.slice none 0 0)]:=.inl ⟨rfl,rfl⟩
theorem oI.row {B Q cap:Nat}{s:List UInt8}{cs:List aa}(M:0<s.length)(O:s.length≤cap)(V:cs.length=cap*1)(a1:cs.take s.length=kU s):
  oI B s [u4 B (.pointer (SO B)) (.slice (SO Q) s.length cap),(Q,.cells ⟨cs⟩ 5)]:=by
 obtain⟨c,rfl⟩:∃c,cap=c+1:=⟨cap-1,by omega⟩;exact .inr (.inr ⟨Q,c,cs,M,O,V,a1,rfl⟩)
theorem wB (l:List UInt8)(r:List aa):(kU l++r).take l.length=kU l:=by
 rw[List.take_append_of_le_length (by rw[Ed];exact aD _),aK (by rw[Ed];exact aD _)]
theorem Bx {B:Nat}{l:List UInt8}{s:BA}{F:aX}(h:oI B l F)(a2:l.length+s.size≤140737488355328):
  lP TP 109 ⟨[.pointer (SO B),.string s]⟩ F (fun v F'=>v=.tuple #[.int .i64 (s.size:Int),.nilIface]∧oI B (l++bb s) F'):=by
 intro W hm;have V:(bb s).length=s.size:=lB s;rcases h with⟨rfl,rfl⟩|⟨rfl,rfl⟩|⟨Q,cap,cs,h0,O,M,h3,rfl⟩
 ·simp only[bt,az]at a2
  refine OQ B s hm ⟨by omega,fun a5=>?_,fun hp a1 cap r O M=>?_⟩
  ·rintro _ rfl
   exact kR ⟨rfl,.inr (.inl ⟨by rw[aT];exact aQ.1 (by omega),rfl⟩)⟩
  ·rintro _ rfl
   refine kR ⟨rfl,?_⟩;rw[aT,←V];exact oI.row (by omega) (by omega) M (wB _ _)
 ·simp only[bt,az]at a2
  refine VR B s hm ⟨by omega,fun a5=>?_,fun hp a1 cap r O M=>?_⟩
  ·rintro _ rfl
   exact kR ⟨rfl,.inr (.inl ⟨by rw[aT];exact aQ.1 (by omega),rfl⟩)⟩
  ·rintro _ rfl
   refine kR ⟨rfl,?_⟩;rw[aT,←V];exact oI.row (by omega) (by omega) M (wB _ _)
 ·refine SR B s Q l.length cap cs hm ⟨⟨O,M⟩,by omega,fun a1 a6 r a3 a4=>?_⟩
  rintro _ rfl;refine kR ⟨rfl,?_⟩;rw[ez,h3,←zy]at a4 ⊢;have e:l.length+s.size=(l++bb s).length:=by rw[ae,V]
  rw[e]at a3 ⊢;exact oI.row (by omega) a3 a4 (wB _ _)
theorem Oc {B:Nat}{l:List UInt8}{F:aX}(h:oI B l F)(M:l.length≤9223372036854775807):lP TP 60 ⟨[.pointer (SO B)]⟩ F (fun v F'=>v=.string ⟨l.toArray⟩):=by
 intro W hm;rcases h with⟨rfl,rfl⟩|⟨rfl,rfl⟩|⟨Q,cap,cs,h0,h1,h2,h3,rfl⟩
 ·exact SP B hm (kR rfl)
 ·exact SL B hm (kR rfl)
 ·refine Qh B Q l.length cap cs hm ⟨l,⟨h3,rfl,h0,M⟩,?_⟩
  rintro _ rfl;exact kR rfl
noncomputable def Ck (b:Nat)(f:OA)(e d:Nat)(g c:Int)(a:aX)(S:List Nat):Cut:=⟨TP,S,182,23,(KC Tryz.f182 12),[(0,PP b),(8,.slice f e d),(9,IV g),(10,IV c)],(a)⟩
theorem Ih (e:Nat)(k:OA)(g f:Nat)(h a:Int)(b:aX)(H:VP S w0 R (.P 5 11 (a<h) (.r 6<|.x2 fun d c=>.sp k d c [8]<|.iL d c g f 1 a (c+(ad a))<|.x2 fun(l:List aa) m1=>.mU d (c+(ad a)) 3 l (IV m1)<|.cl 5 48 [IV m1] (b)<|.x2 fun j m=>.rt (kBcq j m) (b)<|.cl 9 109 [PP e,.string j] (b)<|.x3 fun r31 (n:aa) (i:aX)=>.rt (.tuple #[IV r31,n]) (i)<|.cT 7 [] 0 (Ck e (some ⟨d,c,none⟩) g f h (ab.wrap (a+1)) i S))<|.re 2 (.tuple #[]) (b))):Ck e k g f h a b S w0 R:=VC.go Tryz.func182 _ H
theorem VE (B:Nat)(d:OA)(a c:Nat)(b:aX)(hm:Mem (b) S w0 W)(H:VP S w0 R (.cT 8 [] 0 (Ck B d a c (a:Int) 0 b S))):aE TP 182 ⟨[PP B,.slice d a c]⟩ W R:=VC.cs Tryz.func182 hm _ H
noncomputable def AD (b:Nat)(e:OA)(d c:Nat)(f g:Int)(a:aX):Cut:=⟨TP,[],169,63,(KC Tryz.f169 500),[(4,PP b),(16,.slice e d c),(17,IV f),(18,IV g)],(a)⟩
abbrev kCuq (x0 x1 x2):=((x0,.cells #[IV x1,IV x2] 3):Nat×Obj)
theorem N5 (n:Nat)(M:OA)(y x:Nat)(z p:Int)(u:aX)(H:VP [] w0 R (.P 5 19 (p<z) (.r 6<|.x2 fun s q=>.sp M s q [16]<|.iL s q y x 9 p (q+((ad p)*9))<|.x5 fun N a b i d=>.x5 fun e f k c j=>.x2 fun g h=>.uo s (q+((ad p)*9)) 9 149 N (kAwq a b i d e f k c j g h)<|.nf 0 (.cells kBdq 149) fun m=>.ru [200,4,200,1,200]<|.ns true 2 (.cells #[IV a,IV b] 3) fun l=>.cl 0 182 [PP n,.slice (SO l) 2 2] ((kCuq l a b)::(kBxq m a b i d e f k c j g h)::u)<|.ex fun A=>.rt (.tuple #[]) ((kCuq l a b)::(kBxq m a b i d e f k c j g h)::A)<|.hp ((kCuq l a b)::(kBxq m a b i d e f k c j g h)::A) fun w=>.ru [4,201]<|.cl 0 91 [.string i] w<|.x2 fun G O=>.rt (kBcq G O) w<|.cl 9 109 [PP n,.string G] w<|.x3 fun r41 (Q:aa) F3=>.rt (.tuple #[IV r41,Q]) ((kCuq l a b)::(kBxq m a b i d e f k c j g h)::F3)<|.ru [4,201,1,201,2,201,2,201]<|.r 1<|.ns true 4 (.cells #[IV d,IV e,IV f,IV (c:Int)] 3) fun o=>.cl 0 182 [PP n,.slice (SO o) 4 4] ((o,.cells #[IV d,IV e,IV f,IV (c:Int)] 3)::(kCuq l a b)::(kBxq m a b i d e f k c j g h)::F3)<|.ex fun C=>.rt (.tuple #[]) ((o,.cells #[IV d,IV e,IV f,IV (c:Int)] 3)::(kCuq l a b)::(kBxq m a b i d e f k c j g h)::C)<|.ru [5,202]<|.cl 0 182 [PP n,.slice k c j] ((o,.cells #[IV d,IV e,IV f,IV (c:Int)] 3)::(kCuq l a b)::(kBxq m a b i d e f k c j g h)::C)<|.ex fun D=>.rt (.tuple #[]) ((o,.cells #[IV d,IV e,IV f,IV (c:Int)] 3)::(kCuq l a b)::(kBxq m a b i d e f k c j g h)::D)<|.ru [4,202,2,202]<|.ns true 2 (.cells #[IV g,IV h] 3) fun t=>.cl 0 182 [PP n,.slice (SO t) 2 2] ((kCuq t g h)::(o,.cells #[IV d,IV e,IV f,IV (c:Int)] 3)::(kCuq l a b)::(kBxq m a b i d e f k c j g h)::D)<|.ex fun E=>.rt (.tuple #[]) ((kCuq t g h)::(o,.cells #[IV d,IV e,IV f,IV (c:Int)] 3)::(kCuq l a b)::(kBxq m a b i d e f k c j g h)::E)<|.cT 7 [] 4 (AD n (some ⟨s,q,none⟩) y x z (ab.wrap (p+1)) E))<|.cl 4 60 [PP n] (u)<|.x2 fun r61 (F:aX)=>.rt (.string r61) (F)<|.re 3 (kCjq r61) (F))):AD n M y x z p u w0 R:=VC.go Tryz.func169 _ H
theorem YE (d:OA)(a c:Nat)(hm:Mem [] [] w0 W)(H:VP [] w0 R (.cl 9 141 [.slice d a c] []<|.ex fun f=>.rt (.bool f) []<|.B 0 10 f (.np 6 (.cells #[.pointer none,.slice none 0 0] 103) fun B=>.r 5<|.ns false 1 (.cells #[IV (a:Int)] 3) fun b=>.cl 0 182 [PP B,.slice (SO b) 1 1] [(kBnq B),(b,.cells #[IV (a:Int)] 3)]<|.ex fun e=>.rt (.tuple #[]) ((b,.cells #[IV (a:Int)] 3)::e)<|.cT 10 [] 1 (AD B d a c (a:Int) 0 e))<|.re 8 (.tuple #[sZ,IV 30]) [])):aE TP 169 ⟨[.slice d a c]⟩ W R:=VC.cs Tryz.func169 hm _ H
theorem Wk (a:Int)(hm:Mem [] [] w0 W)(H:VP [] w0 R (.cl 7 55 [IV a] []<|.x2 fun b c=>.rt (kBcq b c) []<|.re 11 (.string b) [])):aE TP 167 ⟨[IV a]⟩ W R:=VC.cs Tryz.func167 hm _ H
abbrev rF (B:Nat)(a b:Int)(c:BA)(d e f:Int)(i:OA)(h g:Nat)(j k:Int):aX:=[(B,.cells #[IV a,IV b,.string c,IV d,IV e,IV f,.slice i h g,IV j,IV k] 149)]
abbrev zq (a:Nat)(b c:Int)(d:BA)(e f g:Int)(j:OA)(i h:Nat)(k l:Int):aX:=[(a,.cells #[IV b,IV c,.string d,IV e,IV f,IV g,.slice j i h,IV k,IV l] 149)]
def yn (d:OA)(c b:Nat)(e:BA)(a:Int)(w0:aj)(R:bJ→aj→Prop):Prop:=
 kO TP 128 94 (KC fo 500) [(0,.slice d c b),(5,.string e),(6,IV a)] [] [] w0 (lN R)
def yO (a:Nat)(f:OA)(e d:Nat)(s:BA)(b c g h:Int)(i:BA)(j k l:Int)(o:OA)(n m:Nat)(p q:Int)(w0:aj)(R:bJ→aj→Prop):Prop:=
 kO TP 128 94 (KC fo 1025268) [(0,.slice f e d),(5,.string s),(6,IV b),(7,PP a),(10,IV c)] (zq a g h i j k l o n m p q) [] w0 (lN R)
theorem KZ (V:OA)(C G:Nat)(i:BA)(q:Int)
 (H:
 Br (q<(C:Int))
 (∃A u:Nat,V=some ⟨A,u,none⟩∧
 (0≤q∧q<C)∧
 ∃(O:List aa) (c:Int) (d:Int) (a:BA) (e:Int) (f:Int) (g:Int) (k:OA) (h:Nat) (j:Nat) (l:Int) (m:Int),lG w0 A=some O∧((O.drop (u+((ad q)*9))).take 9=(kAwq c d a e f g k h j l m)∧(u+((ad q)*9))+9≤O.length)∧
 ∀B:Nat,
 eA TP 58 ⟨[.string a]⟩ (rF B c d a e f g k h j l m) [] w0 (fun v L'=>∃w X,v=(kBcq w X)∧L'=(rF B c d a e f g k h j l m)∧
 ∃(p:BA),(lV TP 167 ⟨[IV c]⟩ (rF B c d a e f g k h j l m) [] w0 (.string p))∧
 (i.size+p.size≤9223372036854775807)∧
 ∃(s:BA),(lV TP 167 ⟨[IV d]⟩ (rF B c d a e f g k h j l m) [] w0 (.string s))∧
 ((i++p).size+s.size≤9223372036854775807)∧
 (((i++p)++s).size+w.size≤9223372036854775807)∧
 ∃(D:BA),(lV TP 167 ⟨[IV e]⟩ (rF B c d a e f g k h j l m) [] w0 (.string D))∧
 ((((i++p)++s)++w).size+D.size≤9223372036854775807)∧
 ∃(N:BA),(lV TP 167 ⟨[IV f]⟩ (rF B c d a e f g k h j l m) [] w0 (.string N))∧
 (((((i++p)++s)++w)++D).size+N.size≤9223372036854775807)∧
 ∀z:BA,z=(((((i++p)++s)++w)++D)++N)→
 ∃(F:BA),(lV TP 167 ⟨[IV g]⟩ (rF B c d a e f g k h j l m) [] w0 (.string F))∧
 (z.size+F.size≤9223372036854775807)∧
 ∃(M:BA),(lV TP 167 ⟨[IV (h:Int)]⟩ (rF B c d a e f g k h j l m) [] w0 (.string M))∧
 ((z++F).size+M.size≤9223372036854775807)∧
 ∀Q:BA,Q=((z++F)++M)→
 yO B (some ⟨A,u,none⟩) C G Q q (0:Int) c d a e f g k h j l m w0 R))
 (Fin R [] [] w0 (kCjq i))):
 yn V C G i q w0 R:=by
 unfold yn;refine .ru 8 (.sP 21 H ?_ ?_)<;>clear H<;>intro H
 ·refine .ru 8 ?_
  obtain⟨A,u,rfl,H⟩:=H;refine .nr (E:=149) (b:=A) (o:=u) (len:=C) (cap:=G) (sz:=9) (o':=(u+((ad q)*9))) (kd:=.i64) (i:=q) (by kernel_rfl) H.1 (by omega) ?_
  replace H:=H.2
  obtain⟨O,c,d,a,e,f,g,k,h,j,l,m,a0,U,H⟩:=H;refine .pV (b:=A) (off:=(u+((ad q)*9))) (T:=149) (v:=.agg (kAeq c d a e f g k h j l m)) (by kernel_rfl) bG a0 (vN U.1 U.2 (by kernel_rfl) (by kernel_rfl)) (.np (.cells kBdq 149) fun B=>?_)
  replace H:=H B
  refine .st 0 0 (.ru 4 (.ld 0 2 (.nm (KR fo 16018 [2,3,4,5,6,7]) [(0,.slice (some ⟨A,u,none⟩) C G),(5,.string i),(6,IV q),(7,PP B),(30,.string a)] (rF B c d a e f g k h j l m) (.cl H ?_))));clear H;rintro _ _ ⟨w,X,rfl,rfl,H⟩;refine .ru 7 (.nm (KC fo 32038) [(0,.slice (some ⟨A,u,none⟩) C G),(5,.string i),(6,IV q),(7,PP B),(8,.string w)] (rF B c d a e f g k h j l m) (.dr 20 (.pu (.pu (.ld 0 0 ?_)))));obtain⟨p,t,H⟩:=H;refine .cl t (.concat (x:=i) (y:=p) (by kernel_rfl) H.1 ?_)
  replace H:=H.2
  refine .pu (.ld 0 1 ?_);obtain⟨s,t,H⟩:=H;refine .cl t (.concat (x:=(i++p)) (y:=s) (by kernel_rfl) H.1 ?_)
  replace H:=H.2
  refine .pu (.concat (x:=((i++p)++s)) (y:=w) (by kernel_rfl) H.1 ?_)
  replace H:=H.2
  refine .pu (.ld 0 3 ?_);obtain⟨D,t,H⟩:=H;refine .cl t (.concat (x:=(((i++p)++s)++w)) (y:=D) (by kernel_rfl) H.1 ?_)
  replace H:=H.2
  refine .pu (.ld 0 4 ?_);obtain⟨N,t,H⟩:=H;refine .cl t (.concat (x:=((((i++p)++s)++w)++D)) (y:=N) (by kernel_rfl) H.1 ?_)
  replace H:=H.2
  refine .pu (.zb 5 (n:=(((((i++p)++s)++w)++D)++N)) (by kernel_rfl) (fun z Y=>?_))
  replace H:=H z Y
  refine .dn (.ru 2 (.nm (KC fo 64078) [(0,.slice (some ⟨A,u,none⟩) C G),(5,.string z),(6,IV q),(7,PP B)] (rF B c d a e f g k h j l m) (.dr 13 (.pu (.pu (.pu (.ld 0 5 ?_)))))));obtain⟨F,t,H⟩:=H;refine .cl t (.concat (x:=z) (y:=F) (by kernel_rfl) H.1 ?_)
  replace H:=H.2
  refine .pu (.pu (.ld 0 6 (.pu ?_)));obtain⟨M,t,H⟩:=H;refine .cl t (.concat (x:=(z++F)) (y:=M) (by kernel_rfl) H.1 ?_)
  replace H:=H.2
  refine .pu (.zb 5 (n:=((z++F)++M)) (by kernel_rfl) (fun Q Z=>?_))
  replace H:=H Q Z
  refine .dn (.ru 8 (.ct [0] H))
 ·refine .ru 8 (.rt iT H)
abbrev kDyq (x0 x1 x2 x3 x4 x5 x6 x7 x8 x9 x10 x11 x12):=([(x0,.cells #[IV x1,IV x2,.string x3,IV x4,IV x5,IV x6,.slice (some ⟨x7,x8,none⟩) x9 x10,IV x11,IV x12] 149)]:aX)
theorem IZ (d:Nat)(C:OA)(A z:Nat)(a:BA)(G e k l:Int)(m:BA)(p q s:Int)(D:OA)(c f:Nat)(h j:Int)
 (H:
 Br (e<(c:Int))
 (∃t g:Nat,D=some ⟨t,g,none⟩∧
 (0≤e∧e<c)∧
 ∃(U:List aa) (O:Int),lG w0 t=some U∧U[(g+(ad e))]?=some (IV O)∧
 eA TP 167 ⟨[IV O]⟩ (kDyq d k l m p q s t g c f h j) [] w0 (fun v L'=>∃w,v=.string w∧L'=(kDyq d k l m p q s t g c f h j)∧
 (a.size+w.size≤9223372036854775807)∧
 ∀Q:BA,Q=(a++w)→
 ∀X:Int,X=(ab.wrap (e+(1:Int)))→
 yO d C A z Q G X k l m p q s (some ⟨t,g,none⟩) c f h j w0 R))
 (∃(u:BA),(lV TP 167 ⟨[IV h]⟩ (zq d k l m p q s D c f h j) [] w0 (.string u))∧
 (a.size+u.size≤9223372036854775807)∧
 ∃(F:BA),(lV TP 167 ⟨[IV j]⟩ (zq d k l m p q s D c f h j) [] w0 (.string F))∧
 ((a++u).size+F.size≤9223372036854775807)∧
 ∀M:BA,M=((a++u)++F)→
 ∀N:Int,N=(ab.wrap (G+(1:Int)))→
 yn C A z M N w0 R)):
 yO d C A z a G e k l m p q s D c f h j w0 R:=by
 unfold yO;refine .ru 6 (.ld 0 6 (.ru 3 (.sP 70 H ?_ ?_)))<;>clear H<;>intro H
 ·refine .ru 8 (.ld 0 6 (.ru 1 ?_))
  obtain⟨t,g,rfl,H⟩:=H;refine .nr (E:=3) (b:=t) (o:=g) (len:=c) (cap:=f) (sz:=1) (o':=(g+(ad e))) (kd:=.i64) (i:=e) (by kernel_rfl) H.1 (by omega) ?_
  replace H:=H.2
  obtain⟨U,O,a0,a1,H⟩:=H;refine .pV (b:=t) (off:=(g+(ad e))) (T:=3) (v:=IV O) (by kernel_rfl) bG a0 (o4 a1 (by kernel_rfl)) (.cl H ?_);clear H;rintro _ _ ⟨w,rfl,rfl,H⟩;refine .nm (KR fo 8202148 [8,9]) [(0,.slice C A z),(6,IV G),(7,PP d),(10,IV e),(73,.string a),(80,.string w)] (kDyq d k l m p q s t g c f h j) (.concat (x:=a) (y:=w) (by kernel_rfl) H.1 ?_)
  replace H:=H.2
  refine .ru 1 (.zb 5 (n:=(a++w)) (by kernel_rfl) (fun Q Y=>?_))
  replace H:=H Q Y
  refine .ru 6 (.lI 10 H fun X H=>(.ru 2 (.ct [0] H)))
 ·refine .ru 2 (.nm (KC fo 128159) [(0,.slice C A z),(5,.string a),(6,IV G),(7,PP d)] (zq d k l m p q s D c f h j) (.dr 12 (.pu (.pu (.pu (.ld 0 7 ?_))))))
  obtain⟨u,V,H⟩:=H;refine .cl V (.concat (x:=a) (y:=u) (by kernel_rfl) H.1 ?_)
  replace H:=H.2
  refine .pu (.pu (.ld 0 8 ?_));obtain⟨F,V,H⟩:=H;refine .cl V (.concat (x:=(a++u)) (y:=F) (by kernel_rfl) H.1 ?_)
  replace H:=H.2
  refine .pu (.zb 5 (n:=((a++u)++F)) (by kernel_rfl) (fun M Z=>?_))
  replace H:=H M Z
  refine .dn (.ru 6 (.lI 6 H fun N H=>(.nm (KR fo 2003 []) [(0,.slice C A z),(5,.string M),(6,IV N)] (zq d k l m p q s D c f h j) (.ru 2 (.ct [] H)))))
theorem Wv (c:OA)(a b:Nat)(hm:Mem [] [] w0 W)
 (H:
 eA TP 164 ⟨[.slice c a b]⟩ [] [] w0 (fun v L'=>∃d,v=.bool d∧L'=[]∧
 Bb (d)
 (eA TP 167 ⟨[IV (a:Int)]⟩ [] [] w0 (fun v L'=>∃e,v=.string e∧L'=[]∧
 yn c a b e (0:Int) w0 R))
 (Fin R [] [] w0 (.tuple #[sZ,IV 30])))):
 aE TP 128 ⟨[.slice c a b]⟩ W R:=by
 refine kO.cs 94 iT hm (.ru 8 (.cl H ?_));rintro _ _ ⟨d,rfl,rfl,H⟩;refine .ru 6 (.sB 13 H (fun H=>?_) fun H=>?_)
 ·refine .ru 8 (.cl H ?_)
  rintro _ _ ⟨e,rfl,rfl,H⟩;refine .ru 9 (.ct [] H)
 ·refine .ru 8 (.rt iT H)
abbrev ba (l:List UInt8):BA:=⟨l.toArray⟩
theorem oB (a b:List UInt8):ba a++ba b=ba (a++b):=tD (by rw[w3,mA,mA,mA])
theorem lY (a:List UInt8):(ba a).size=a.length:=by rw[←lB,mA]
theorem K5 (n:Int):od n=ba (enc n):=tD (by rw[ta,mA])
theorem yB (s:BA):s5 s=ba (lL (bb s)):=tD (by rw[zm,mA])
theorem pd (t:List UInt8):(lL t).length≤t.length+10:=by
 unfold lL;rw[ae];have:=lx t.length;omega
def nO (l:List Int):List UInt8:=l.flatMap enc
def kT.enc (b:kT):List UInt8:=
 Wire.enc b.id++(Wire.enc b.kind++(lL (bb b.text)++(Wire.enc b.story++(Wire.enc b.ref++(Wire.enc b.lab.unt++(Wire.enc b.lab.after.length++(nO b.lab.after++(Wire.enc b.lab.appr++Wire.enc b.lab.den))))))))
def pZ (l:List kT):List UInt8:=l.flatMap kT.enc
def nG (l:List kT):List UInt8:=Wire.enc (l.length:Int)++pZ l
def qR (l:List kT):aa:=if m9 l=true then .tuple #[.string (ba (nG l)),.int .i64 0]else .tuple #[.string ⟨#[]⟩,.int .i64 30]
theorem FL:∀(l:List Int) (last:Int),qU last l=true→0≤last→last≤64→last+l.length≤64∧∀x∈l,last<x∧x≤64
 |[],last,_,h0,h1=>⟨by simpa using h1,by simp⟩
 |x::r,last,h,h0,h1=>by
  simp only[qU,av,decide_eq_true_eq]at h;obtain⟨⟨a2,O⟩,V⟩:=h;obtain⟨a3,a1⟩:=FL r x V (by omega) O;refine⟨by simp only[aI];omega,fun y M=>?_⟩;rcases bT.1 M with rfl|M
  ·omega
  ·have:=a1 y M;omega
structure kT.Good (b:kT):Prop where
 id:1≤b.id∧b.id≤1000
 kind:1≤b.kind∧b.kind≤5
 text:b.text.size≤300
 story:0≤b.story∧b.story≤64
 ref:0≤b.ref∧b.ref≤1000
 unt:0≤b.lab.unt∧b.lab.unt≤1000000000
 appr:0≤b.lab.appr∧b.lab.appr≤5
 den:0≤b.lab.den∧b.lab.den≤15
 len:b.lab.after.length≤64
 after:∀x∈b.lab.after,0<x∧x≤64
theorem kT.ot {b:kT}(h:b.ok=true):b.Good:=by
 simp only[kT.ok,av,decide_eq_true_eq]at h;obtain⟨a3,V,M⟩:=h;simp only[mi.ok,av,decide_eq_true_eq]at V;obtain⟨V,a2⟩:=V;obtain⟨a4,a1⟩:=FL _ _ a2 (by omega) (by omega);have O:(1≤b.kind∧b.kind≤5)∧b.text.size≤300∧(0≤b.story∧b.story≤64)∧0≤b.ref∧b.ref≤1000:=by
  unfold kT.kindOk at M;simp only[mP,pO,mK,kT.qm]at M
  repeat' split at M
  all_goals simp only[av,decide_eq_true_eq,dV]at M
  all_goals omega
 exact⟨a3,O.1,O.2.1,O.2.2.1,O.2.2.2,by omega,by omega,by omega,by omega,a1⟩
theorem Jk:∀(l M:List kT),uu M l=true→∀b∈l,b.ok=true
 |[],_,_,_,hb=>by cases hb
 |x::r,M,h,b,hb=>by
  simp only[uu,av]at h;rcases bT.1 hb with rfl|hb
  ·exact h.1
  ·exact Jk r _ h.2.2 b hb
theorem tK {l:List kT}(h:m9 l=true):l.length≤24∧∀b∈l,b.ok=true:=by
 simp only[m9,av,decide_eq_true_eq]at h;exact⟨h.1,Jk l _ h.2⟩
theorem tL (l:List Int):(nO l).length≤10*l.length:=by
 induction l with
 |nil=>simp[nO]
 |cons x r ih=>simp only[nO,bq,ae,aI]at*;have:=lx x;omega
theorem RC {b:kT}(h:b.Good):b.enc.length≤1040:=by
 have M:=pd (bb b.text);rw[lB]at M;have O:=tL b.lab.after;have:=h.text;have:=h.len;unfold kT.enc;simp only[ae];have:=lx b.id;have:=lx b.kind;have:=lx b.story;have:=lx b.ref;have:=lx b.lab.unt;have:=lx (b.lab.after.length:Int);have:=lx b.lab.appr;have:=lx b.lab.den;omega
theorem yl:∀(l:List kT),(∀b∈l,b.ok=true)→(pZ l).length≤1040*l.length
 |[],_=>by simp[pZ]
 |b::r,h=>by
  have ih:=yl r (fun x M=>h x (by simp[M]));have:=RC (kT.ot (h b (by simp)));simp only[pZ,bq,ae,aI]at*;omega
theorem Mx {l:List kT}{i:Nat}(h:i<l.length):pZ (l.take (i+1))=pZ (l.take i)++l[i].enc:=by
 have e:l.take (i+1)=l.take i++[l[i]]:=by rw[gH,ar h];rfl
 rw[e,pZ,jG,bq,cF,aL];rfl
theorem DN {l:List Int}{i:Nat}(h:i<l.length):nO (l.take (i+1))=nO (l.take i)++Wire.enc l[i]:=by
 have e:l.take (i+1)=l.take i++[l[i]]:=by rw[gH,ar h];rfl
 rw[e,nO,jG,bq,cF,aL];rfl
theorem mg {n:Int}(h: -1000000000000≤n∧n≤1000000000000):lU n:=by unfold lU nY;omega
theorem I2 {n:Int}(h:lU n):l9 TP 48 ⟨[.int .i64 n]⟩ (.tuple #[.string (ba (Wire.enc n)),.int .i64 0]):=by
 have:=ze n;rw[sT,if_pos h,K5]at this;exact this
theorem ZO {n:Int}(h:lU n):l9 TP 55 ⟨[.int .i64 n]⟩ (.tuple #[.string (ba (Wire.enc n)),.int .i64 0]):=by
 have:=xn n;rw[sT,if_pos h,K5]at this;exact this
theorem Mn {s:BA}(h:s.size≤65536):l9 TP 91 ⟨[.string s]⟩ (.tuple #[.string (ba (lL (bb s))),.int .i64 0]):=by
 have:=LF s;rw[uJ,if_pos h,yB]at this;exact this
theorem Vu {s:BA}(h:s.size≤65536):l9 TP 58 ⟨[.string s]⟩ (.tuple #[.string (ba (lL (bb s))),.int .i64 0]):=by
 have:=E7 s;rw[uJ,if_pos h,yB]at this;exact this
theorem sH {n:Int}(h:lU n):l9 TP 167 ⟨[.int .i64 n]⟩ (.string (ba (Wire.enc n))):=fun W=>
 Wk n (Mem.start [] W) (eA.pure (ZO h) ⟨_,_,rfl,rfl,lf rfl⟩)
theorem eA.wY {F:aX}(h:lP P g args F K)(M:∀v F',K v F'→K' v F'):eA P g args F S w0 K':=
 eA.lF (L1:=[]) h (by simp) fun v L' O=>⟨L',by simp,M v L' O⟩
theorem eA.EG {F:aX}(told:aX)(h:lP P g args F K)(M:∀v F',K v F'→K' v (told++F')):eA P g args (told++F) S w0 K':=
 eA.lF (L1:=told) h aw fun v L' O=>⟨told++L',aw,M v L' O⟩
theorem eA.va {F:aX}{M:aj→Prop}(told:aX)(h:m0 P g args F M K)(a1:∀W,Mem (told++F) S w0 W→M W)(O:∀v F',K v F'→K' v (told++F')):eA P g args (told++F) S w0 K':=
 eA.nX (L1:=told) h a1 aw fun v L' V=>⟨told++L',aw,O v L' V⟩
def qb (S:List Nat)(w:aj):Lk:=fun b c=>b∉S∧lG w b=some c
theorem tQ {told F:aX}(hm:Mem (told++F) [] w0 W):∀b c,E4 told w0 b c→qb (F.map (·.1)) W b c:=by
 rintro b c (⟨t,fz,h⟩|h)
 ·refine⟨fun M=>?_,?_⟩
  ·have V:=hm.nodup
   rw[cE,cm]at V;exact V.2.2 b (da h) b M rfl
  ·have:=hm.here _ (ay F h)
   simp only at this;simp[lG,this]
 ·refine⟨fun M=>?_,lK hm b c h⟩
  obtain⟨q,a1,rfl⟩:=bV.1 M;have O:=hm.own q (ak told a1);simp only[bG,or_false]at O;unfold kY lG at h;rw[Array.getElem?_eq_none O]at h;cases h
theorem Cf {told:aX}{B:Nat}{ns:List Int}{t:TypeId}(h:(B,bu ⟨ns.map (.int .i64)⟩ t)∈told):lX (E4 told w0) (SO B) ns:=by
 intro _;refine⟨B,0,ns.map (.int .i64),rfl,.inl ⟨t,_,h⟩,fun i hi=>?_⟩;rw[az,List.getElem?_map,ar hi];rfl
theorem Ip {w0:aj}{S:List Nat}{B:Nat}{p:OA}{c:Nat}{ns:List Int}(hp:lX (qb S w0) p ns)(O:∀x∈ns,lU x)(hn:ns.length≤1000000){l:List UInt8}(a3:l.length≤1000000000):
  ∀(g i:Nat) (F:aX),g+i=ns.length→oI B (l++nO (ns.take i)) F→
   Ck B p ns.length c (ns.length:Int) (i:Int) F S w0 (fun e V=>∃v L',e=.returned v∧Mem L' S w0 V∧v=.tuple #[]∧oI B (l++nO ns) L')
 |0,i,F,hg,hF=>by
  apply Ih;refine no (by omega) (kR ⟨rfl,?_⟩);rw[aK (by omega)]at hF;exact hF
 |g+1,i,F,hg,hF=>by
  apply Ih;have hi:i<ns.length:=by omega
  obtain⟨b,o,cc,rfl,M,a1⟩:=hp.get hi;refine yes (by omega) ⟨b,o,rfl,by omega,cc,ns[i],M.1,M.2,by simpa using a1,?_⟩;refine eA.pure (I2 (O _ (bH hi))) ⟨_,_,rfl,rfl,?_⟩;have a2:=tL (ns.take i);rw[ao]at a2;have a4:=lx ns[i];refine eA.wY (Bx hF (by rw[ae,lY];omega)) fun v F' ⟨hv,hF'⟩=>⟨_,_,F',hv,rfl,?_⟩
  rw[kS (by omega),show(i:Int)+1=((i+1:Nat):Int)by omega];refine Ip hp O hn a3 g (i+1) F' (by omega) ?_;rw[DN hi,←an];rwa[mA]at hF'
theorem yK {B:Nat}{p:OA}{c:Nat}{ns:List Int}(V:∀x∈ns,lU x)(hn:ns.length≤1000000){l:List UInt8}(O:l.length≤1000000000){F:aX}(M:oI B l F):
  m0 TP 182 ⟨[.pointer (SO B),.slice p ns.length c]⟩ F (fun W=>lX (qb (F.map (·.1)) W) p ns) (fun v F'=>v=.tuple #[]∧oI B (l++nO ns) F'):=by
 intro W hm hp;refine VE B p ns.length c F hm (Ip hp V hn O ns.length 0 F (by omega) ?_);simpa[nO]using M
theorem Ju (b:kT)(p:List UInt8):p++nO [b.id,b.kind]++lL (bb b.text)++nO [b.story,b.ref,b.lab.unt,(b.lab.after.length:Int)]++nO b.lab.after++nO [b.lab.appr,b.lab.den]=p++b.enc:=by
 simp[kT.enc,nO]
theorem JH {w0:aj}{B:Nat}{p:OA}{c:Nat}{l:List kT}(a5:mY (kY w0) p l)(a3:m9 l=true):
  ∀(g i:Nat) (F:aX),g+i=l.length→oI B (Wire.enc (l.length:Int)++pZ (l.take i)) F→
   AD B p l.length c (l.length:Int) (i:Int) F w0 (fun e a2=>e=.returned (qR l)∧ej w0.heap.size w0 a2)
 |0,i,F,hg,hF=>by
  apply N5;rw[aK (by omega)]at hF;have c5:=yl l (tK a3).2;have c6:=lx (l.length:Int);have c7:=(tK a3).1;refine no (by omega) (eA.wY (Oc hF (by rw[ae];omega)) fun v F' O=>⟨_,F',O,rfl,kQ ?_⟩);rw[qR,if_pos a3];rfl
 | g+1,i,F,hg,hF=>by
  apply N5;have hi:i<l.length:=by omega
  obtain⟨a6,o1,c1,rfl,a8,a9,b9,a7,b1,b3,c4⟩:=a5.get hi;have a4:=tK a3;have V:=kT.ot (a4.2 _ (bH hi));have k1:=yl (l.take i) (fun b b4=>a4.2 b (ft b4));rw[ao]at k1;have d6:=lx (l.length:Int);have d7:=a4.1;have i1:=V.id;have c8:=V.kind;have c9:=V.text;have d0:=V.story;have d1:=V.ref;have d2:=V.unt;have d3:=V.appr;have d4:=V.den;have d5:=V.len;refine yes (by omega) ⟨a6,o1,rfl,by omega,c1,l[i].id,l[i].kind,l[i].text,l[i].story,l[i].ref,l[i].lab.unt,b9,l[i].lab.after.length,a7,l[i].lab.appr,l[i].lab.den,a8,⟨by simpa using b1,by simpa using a9⟩,fun B2 B3=>?_⟩;have b5:=tL [l[i].id,l[i].kind];have b6:=pd (bb l[i].text);rw[lB]at b6;have b7:=tL [l[i].story,l[i].ref,l[i].lab.unt,(l[i].lab.after.length:Int)];have d8:=tL l[i].lab.after;simp only[aI,bt]at b5 b7;refine eA.va [_,_] (yK (ns:=[l[i].id,l[i].kind]) (fun x M=>?_) (by simp) (by rw[ae];omega) hF) (fun a2 a1=>(Cf (told:=[_,_]) (ns:=[l[i].id,l[i].kind]) (t:=3) (by simp)).mono (tQ a1)) fun v F2 ⟨O,hF2⟩=>⟨F2,O,rfl,?_⟩
  ·rcases bT.1 M with rfl|M
   ·exact mg (by omega)
   ·rw[cK.1 M];exact mg (by omega)
  refine eA.pure (Mn (by omega)) ⟨_,_,rfl,rfl,?_⟩;refine eA.EG [_,_] (Bx hF2 (by simp only[ae,lY];omega)) fun v F3 ⟨O,hF3⟩=>⟨_,_,F3,O,rfl,fun c2=>?_⟩
  rw[mA]at hF3;refine eA.va [_,_,_] (yK (ns:=[l[i].story,l[i].ref,l[i].lab.unt,(l[i].lab.after.length:Int)]) (fun x M=>?_) (by simp) (by simp only[ae];omega) hF3) (fun a2 a1=>(Cf (told:=[_,_,_]) (ns:=[l[i].story,l[i].ref,l[i].lab.unt,(l[i].lab.after.length:Int)]) (t:=3) (by simp)).mono (tQ a1)) fun v F4 ⟨O,hF4⟩=>⟨F4,O,rfl,?_⟩
  ·simp only[bT,bG,or_false]at M
   rcases M with rfl|rfl|rfl|rfl<;>exact mg (by omega)
  refine eA.va [_,_,_] (yK (ns:=l[i].lab.after) (fun x M=>?_) (by omega) (by simp only[ae];omega) hF4) (fun a2 a1=>(b3.mono X8).mono (tQ a1)) fun v F5 ⟨O,hF5⟩=>⟨F5,O,rfl,fun c3=>?_⟩
  ·have:=V.after x M;exact mg (by omega)
  refine eA.va [_,_,_,_] (yK (ns:=[l[i].lab.appr,l[i].lab.den]) (fun x M=>?_) (by simp) (by simp only[ae];omega) hF5) (fun a2 a1=>(Cf (told:=[_,_,_,_]) (ns:=[l[i].lab.appr,l[i].lab.den]) (t:=3) (by simp)).mono (tQ a1)) fun v F6 ⟨O,hF6⟩=>⟨F6,O,rfl,?_⟩
  ·rcases bT.1 M with rfl|M
   ·exact mg (by omega)
   ·rw[cK.1 M];exact mg (by omega)
  rw[kS (by omega),show(i:Int)+1=((i+1:Nat):Int)by omega];refine JH a5 a3 g (i+1) F6 (by omega) ?_;rw[Mx hi,←an,←Ju];exact hF6
theorem V4 {p:OA}{c:Nat}{l:List kT}(V:mY (kY W) p l)(hc:l.length≤c):PW TP 169 ⟨[.slice p l.length c]⟩ W (qR l):=by
 refine YE p l.length c (Mem.start [] W) (eA.pw (fun a1 O=>FR (V.mono (lK O)) hc) ⟨_,rfl,rfl,fun h B M=>?_,fun h=>kQ ?_⟩)
 ·have a3:=(tK h).1
  refine eA.nX (L0:=[u4 B (.pointer none) (.slice none 0 0)]) (L1:=[(M,.cells #[.int .i64 (l.length:Int)] 3)]) (yK (ns:=[(l.length:Int)]) (l:=[]) (fun x a2=>?_) (by simp) (by simp) (oI.new B)) (fun a1 O=>(Cf (told:=[(M,.cells #[.int .i64 (l.length:Int)] 3)]) (ns:=[(l.length:Int)]) (t:=3) (by simp)).mono (tQ (O.perm (aw (l₁:=[(M,bu #[.int .i64 (l.length:Int)] 3)]) (l₂:=[u4 B (.pointer none) (.slice none 0 0)]))))) (ah _) fun v F ⟨hv,hF⟩=>⟨_,aw,F,hv,rfl,?_⟩
  ·rw[cK.1 a2];exact mg (by omega)
  ·refine JH V h l.length 0 F (by omega) ?_
   simpa[nO,pZ]using hF
 ·rw[qR,if_neg (by rw[h];simp)]
theorem JG {w0:aj}{p:OA}{c:Nat}{l:List kT}(a5:mY (kY w0) p l)(a2:m9 l=true):
  ∀(g i:Nat),g+i=l.length→yn p l.length c (ba (Wire.enc (l.length:Int)++pZ (l.take i))) (i:Int) w0 (fun e O=>e=.returned (qR l)∧ej w0.heap.size w0 O)
 |0,i,hg=>by
  apply KZ;refine no (by omega) (kQ ?_);rw[aK (by omega),qR,if_pos a2];rfl
 | g+1,i,hg=>by
  apply KZ;have hi:i<l.length:=by omega
  obtain⟨a3,o1,c1,rfl,a9,b1,a6,a4,b3,b4,c6⟩:=a5.get hi;have V:=tK a2;have M:=kT.ot (V.2 _ (bH hi));have k1:=yl (l.take i) (fun b b7=>V.2 b (ft b7));rw[ao]at k1;have d7:=lx (l.length:Int);have d8:=V.1;have i1:=M.id;have c9:=M.kind;have d0:=M.text;have d1:=M.story;have d2:=M.ref;have d3:=M.unt;have d4:=M.appr;have d5:=M.den;have d6:=M.len;have n1:=lx l[i].id;have n2:=lx l[i].kind;have e3:=lx l[i].story;have e4:=lx l[i].ref;have e5:=lx l[i].lab.unt;have e6:=lx (l[i].lab.after.length:Int);have e7:=lx l[i].lab.appr;have e8:=lx l[i].lab.den;have c3:=pd (bb l[i].text);rw[lB]at c3;have d9:=tL l[i].lab.after;refine yes (by omega) ⟨a3,o1,rfl,by omega,c1,l[i].id,l[i].kind,l[i].text,l[i].story,l[i].ref,l[i].lab.unt,a6,l[i].lab.after.length,a4,l[i].lab.appr,l[i].lab.den,a9,⟨by simpa using b3,by simpa using b1⟩,fun B2=>?_⟩;refine eA.pure (Vu (by omega)) ⟨_,_,rfl,rfl,?_⟩;refine⟨_,lV.of (sH (mg (by omega))),by simp only[lY,ae];omega,_,lV.of (sH (mg (by omega))),?_⟩;rw[oB,oB];refine⟨by simp only[lY,ae];omega,by simp only[lY,ae];omega,_,lV.of (sH (mg (by omega))),?_⟩;rw[oB];refine⟨by simp only[lY,ae];omega,_,lV.of (sH (mg (by omega))),?_⟩;rw[oB];refine⟨by simp only[lY,ae];omega,?_⟩;rintro _ rfl;rw[oB];refine⟨_,lV.of (sH (mg (by omega))),by simp only[lY,ae];omega,_,lV.of (sH (mg (by omega))),?_⟩;rw[oB];refine⟨by simp only[lY,ae];omega,?_⟩;rintro _ rfl;rw[oB];generalize hX:(Wire.enc (l.length:Int)++pZ (l.take i)++Wire.enc l[i].id++Wire.enc l[i].kind++lL (bb l[i].text)++Wire.enc l[i].story++Wire.enc l[i].ref++Wire.enc l[i].lab.unt++Wire.enc (l[i].lab.after.length:Int))=X;have c7:X.length≤100000:=by rw[←hX];simp only[ae];omega
  have c2:∀(q k:Nat),q+k=l[i].lab.after.length→
    yO B2 (some ⟨a3,o1,none⟩) l.length c (ba (X++nO (l[i].lab.after.take k))) (i:Int) (k:Int) l[i].id l[i].kind l[i].text l[i].story l[i].ref l[i].lab.unt a6 l[i].lab.after.length a4 l[i].lab.appr l[i].lab.den w0 (fun e O=>e=.returned (qR l)∧ej w0.heap.size w0 O):=by
   intro q;induction q with
   |zero=>
    intro k b9;apply IZ;rw[aK (by omega)];refine no (by omega) ⟨_,lV.of (sH (mg (by omega))),by simp only[lY,ae];omega,_,lV.of (sH (mg (by omega))),?_⟩;rw[oB];refine⟨by simp only[lY,ae];omega,?_⟩;rintro _ rfl;rw[oB];rintro _ rfl;rw[kS (by omega),show(i:Int)+1=((i+1:Nat):Int)by omega];have:=JG (c:=c) a5 a2 g (i+1) (by omega);rw[Mx hi,←an,←Ju]at this;rw[←hX];simpa[nO]using this
   |succ q ih=>
    intro k b9;apply IZ;have a1:k<l[i].lab.after.length:=by omega
    obtain⟨a7,c5,a8,rfl,b5,b6⟩:=b4.get a1;have c8:=M.after _ (bH a1);have c4:=tL (l[i].lab.after.take k);rw[ao]at c4;have e2:=lx l[i].lab.after[k];refine yes (by omega) ⟨a7,c5,rfl,by omega,a8,_,b5,by simpa using b6,eA.pure (sH (mg (by omega))) ⟨_,rfl,rfl,by simp only[lY,ae];omega,?_⟩⟩;rintro _ rfl _ rfl;rw[oB,kS (by omega),show(k:Int)+1=((k+1:Nat):Int)by omega];have:=ih (k+1) (by omega);rw[DN a1,←an]at this;exact this
  have:=c2 l[i].lab.after.length 0 (by omega);simpa[nO]using this
theorem WE {p:OA}{c:Nat}{l:List kT}(M:mY (kY W) p l):PW TP 128 ⟨[.slice p l.length c]⟩ W (qR l):=by
 refine Wv p l.length c (Mem.start [] W) (eA.pw (fun V O=>Be (M.mono (lK O))) ⟨_,rfl,rfl,fun h=>?_,fun h=>kQ ?_⟩)
 ·have a1:=(tK h).1
  refine eA.pure (sH (mg (by omega))) ⟨_,rfl,rfl,?_⟩;have:=JG (c:=c) M h l.length 0 (by omega);simpa[pZ]using this
 ·rw[qR,if_neg (by rw[h];simp)]
abbrev RS:=Nat×Int
def kP (s:List UInt8)(st:RS):Int×RS:=
 if st.2=0 then match ml (s.drop st.1)with
  |none=>(0,(st.1,10))
  |some (n,k)=>(n,(st.1+k,0))
 else(0,st)
def lh (s:List UInt8)(st:RS):BA×RS:=
 if st.2=0 then match rdStr (s.drop st.1)with
  |none=>(⟨#[]⟩,(st.1,10))
  |some (t,k)=>(⟨t.toArray⟩,(st.1+k,0))
 else(⟨#[]⟩,st)
def lz {α:Type}(f:RS→α×RS):Nat→RS→List α×RS
 |0,st=>([],st)
 |n+1,st=>if st.2=0 then((f st).1::(lz f n (f st).2).1,(lz f n (f st).2).2)else([],st)
def mZ (s:List UInt8)(most:Int)(st:RS):Int×RS:=
 if(kP s st).2.2=0∧((kP s st).1<0∨most<(kP s st).1)then((kP s st).1,((kP s st).2.1,30))else kP s st
def oK {α:Type}(f:RS→α×RS)(s:List UInt8)(most:Int)(st:RS):List α×RS:=lz f (mZ s most st).1.toNat (mZ s most st).2
def si (s:List UInt8)(st:RS):=kP s st
def sV (s:List UInt8)(st:RS):=kP s (si s st).2
def qM (s:List UInt8)(st:RS):=lh s (sV s st).2
def sG (s:List UInt8)(st:RS):=kP s (qM s st).2
def sY (s:List UInt8)(st:RS):=kP s (sG s st).2
def po (s:List UInt8)(st:RS):=kP s (sY s st).2
def sy (s:List UInt8)(st:RS):=oK (kP s) s 64 (po s st).2
def uP (s:List UInt8)(st:RS):=kP s (sy s st).2
def wX (s:List UInt8)(st:RS):=kP s (uP s st).2
def mO (s:List UInt8)(st:RS):kT×RS:=
 (⟨(si s st).1,(sV s st).1,(qM s st).1,(sG s st).1,(sY s st).1,⟨(po s st).1,(sy s st).1,(uP s st).1,(wX s st).1⟩⟩,(wX s st).2)
def nU (s:List UInt8):List kT×RS:=oK (mO s) s 24 (0,0)
def my (s:List UInt8):List kT×Int:=
 if¬(nU s).2.2=0 then([],(nU s).2.2)else if(nU s).2.1<s.length then([],10)else if m9 (nU s).1=true then((nU s).1,0)else([],30)
theorem Jc {l t:List UInt8}{k:Nat}(h:rdStr l=some (t,k)):k≤l.length∧t.length≤65536:=by
 unfold rdStr at h;split at h
 ·cases h
 ·next n j hr=>
  split at h
  ·next hc=>
   have:=(pk hr).2.1;simp only[al,af]at h;obtain⟨rfl,rfl⟩:=h;refine⟨by omega,?_⟩;rw[ao];omega
  ·cases h
theorem mo {s:List UInt8}{st:RS}(h:st.1≤s.length):(kP s st).2.1≤s.length:=by
 unfold kP;split
 ·split
  ·exact h
  ·next n k hr=>
   have:=(pk hr).2.1;rw[aZ]at this;simp only;omega
 ·exact h
theorem o3 {s:List UInt8}{st:RS}(h:st.1≤s.length):(lh s st).2.1≤s.length∧(lh s st).1.size≤65536:=by
 unfold lh;split
 ·split
  ·exact⟨h,(show(0:Nat)≤65536 by decide)⟩
  ·next n k hr=>
   have:=Jc hr;rw[aZ]at this;exact⟨by simp only;omega,by rw[lY];exact this.2⟩
 ·exact⟨h,(show(0:Nat)≤65536 by decide)⟩
theorem yh {α:Type}{f:RS→α×RS}{s:List UInt8}(M:∀st,st.1≤s.length→(f st).2.1≤s.length):∀(n:Nat) (st:RS),st.1≤s.length→(lz f n st).2.1≤s.length∧(lz f n st).1.length≤n
 |0,st,h=>⟨h,aD _⟩
 | n+1,st,h=>by
  unfold lz;split
  ·have:=yh M n (f st).2 (M st h)
   exact⟨this.1,by simp only[aI];omega⟩
  ·exact⟨h,by simp⟩
theorem oc {α:Type}{f:RS→α×RS}{n:Nat}{st:RS}(h:¬st.2=0):lz f n st=([],st):=by
 cases n with
 |zero=>rfl
 |succ n=>rw[lz,if_neg h]
theorem DV {s:List UInt8}{most:Int}{st:RS}(h:st.1≤s.length):(mZ s most st).2.1≤s.length:=by
 unfold mZ;split
 ·exact mo h
 ·exact mo h
theorem FU {s:List UInt8}{most:Int}{st:RS}(h:(mZ s most st).2.2=0):0≤(mZ s most st).1∧(mZ s most st).1≤most:=by
 unfold mZ at*;split at h
 ·simp at h
 ·next hn=>
  rw[if_neg hn];omega
theorem zF {α:Type}{f:RS→α×RS}{s:List UInt8}{most:Nat}(M:∀st,st.1≤s.length→(f st).2.1≤s.length){st:RS}(h:st.1≤s.length):(oK f s most st).2.1≤s.length∧(oK f s most st).1.length≤most:=by
 unfold oK;have:=yh M (mZ s most st).1.toNat (mZ s most st).2 (DV h);refine⟨this.1,?_⟩
 by_cases he:(mZ s most st).2.2=0
 ·have:=FU he
  omega
 ·rw[oc he];simp
theorem Bg {s:List UInt8}{st:RS}(h:st.1≤s.length):(si s st).2.1≤s.length∧(sV s st).2.1≤s.length∧(qM s st).2.1≤s.length∧(sG s st).2.1≤s.length∧(sY s st).2.1≤s.length∧(po s st).2.1≤s.length∧(sy s st).2.1≤s.length∧(uP s st).2.1≤s.length∧(wX s st).2.1≤s.length:=by
 have M:=mo h;have O:=mo (s:=s) M;have V:=(o3 (s:=s) O).1;have a1:=mo (s:=s) V;have a2:=mo (s:=s) a1;have a3:=mo (s:=s) a2;have a4:=(zF (f:=kP s) (most:=64) (fun st=>mo) a3).1;have a5:=mo (s:=s) a4;have a6:=mo (s:=s) a5;exact⟨M,O,V,a1,a2,a3,a4,a5,a6⟩
theorem wD {s:List UInt8}{st:RS}(h:st.1≤s.length):(mO s st).2.1≤s.length:=(Bg h).2.2.2.2.2.2.2.2
theorem zV {s:List UInt8}{st:RS}(h:st.1≤s.length):(mO s st).1.Fits:=by
 obtain⟨V,M,a1,a2,a3,O,a4,a5,a6⟩:=Bg h;refine⟨?_,?_⟩
 ·have:=(o3 (s:=s) M).2
  show(qM s st).1.size≤_;unfold qM;omega
 ·have:=(zF (f:=kP s) (most:=64) (fun st=>mo) O).2
  show(sy s st).1.length≤_;exact bC this (by decide)
theorem ou {s x r:List UInt8}{a:Nat}(h:s.drop a=x++r):s.drop (a+x.length)=r:=by
 rw[←cV,h,List.drop_left]
theorem oO {s r:List UInt8}{a:Nat}{n:Int}(hn:lU n)(h:s.drop a=Wire.enc n++r):kP s (a,0)=(n,(a+(Wire.enc n).length,0)):=by
 simp only[kP,if_pos];rw[h,v8 hn]
theorem CL {s r:List UInt8}{a:Nat}{t:BA}(M:t.size≤65536)(h:s.drop a=lL (bb t)++r):lh s (a,0)=(t,(a+(lL (bb t)).length,0)):=by
 simp only[lh,if_pos];rw[h,I0 (by rw[lB];exact M)]
theorem Ek {α:Type}{f:RS→α×RS}{e:α→List UInt8}{s:List UInt8}:∀(l:List α) (a:Nat) (r:List UInt8),(∀x∈l,∀a r,s.drop a=e x++r→f (a,0)=(x,(a+(e x).length,0)))→s.drop a=l.flatMap e++r→
  lz f l.length (a,0)=(l,(a+(l.flatMap e).length,0))
 |[],a,r,hf,h=>rfl
 |x::t,a,r,hf,h=>by
  rw[bq,an]at h;have M:=hf x au a _ h;have O:=Ek t (a+(e x).length) r (fun y V=>hf y (ag _ V)) (ou h);rw[aI,lz,if_pos rfl,M,O,bq,ae,ei]
theorem Og {α:Type}{f:RS→α×RS}{e:α→List UInt8}{s:List UInt8}{l:List α}{a most:Nat}{r:List UInt8}(a1:l.length≤most)(hm:most≤65536)(V:∀x∈l,∀a r,s.drop a=e x++r→f (a,0)=(x,(a+(e x).length,0)))
  (h:s.drop a=Wire.enc (l.length:Int)++(l.flatMap e++r)):oK f s most (a,0)=(l,(a+((Wire.enc (l.length:Int)).length+(l.flatMap e).length),0)):=by
 have M:=oO (mg (by omega)) h;have O:mZ s most (a,0)=((l.length:Int),(a+(Wire.enc (l.length:Int)).length,0)):=by
  rw[mZ,M,if_neg (by simp only;omega)]
 rw[oK,O];simp only[ai];rw[Ek l _ r V (ou h),ei]
theorem Y2 {s r:List UInt8}{a:Nat}{b:kT}(M:b.Good)(h:s.drop a=b.enc++r):mO s (a,0)=(b,(a+b.enc.length,0)):=by
 have i1:=M.id;have d1:=M.kind;have d2:=M.text;have d3:=M.story;have d4:=M.ref;have d5:=M.unt;have d6:=M.appr;have d7:=M.den;have d8:=M.len;unfold kT.enc at h;simp only[an]at h;have b7:=oO (mg (by omega)) h;have V:=ou h;have b9:=oO (mg (by omega)) V;have a1:=ou V;have c2:=CL (by omega) a1;have a2:=ou a1;have c3:=oO (mg (by omega)) a2;have a3:=ou a2;have c4:=oO (mg (by omega)) a3;have a4:=ou a3;have c5:=oO (mg (by omega)) a4;have a5:=ou a4;have c6:=Og (f:=kP s) (e:=Wire.enc) (most:=64) (l:=b.lab.after) (by omega) (by omega) (fun x c9 a r h=>oO (mg (by have:=M.after x c9;omega)) h) a5;have O:=ou (ou a5);rw[ei]at O;have c7:=oO (mg (by omega)) O;have b6:=ou O;have c8:=oO (mg (by omega)) b6;have a6:si s (a,0)=_:=b7;have a7:sV s (a,0)=_:=(congrArg (fun x:(Int)×RS=>kP s x.2) a6).trans b9;have a8:qM s (a,0)=_:=(congrArg (fun x:(Int)×RS=>lh s x.2) a7).trans c2;have a9:sG s (a,0)=_:=(congrArg (fun x:(BA)×RS=>kP s x.2) a8).trans c3;have b1:sY s (a,0)=_:=(congrArg (fun x:(Int)×RS=>kP s x.2) a9).trans c4;have b3:po s (a,0)=_:=(congrArg (fun x:(Int)×RS=>kP s x.2) b1).trans c5;have b4:sy s (a,0)=_:=(congrArg (fun x:(Int)×RS=>oK (kP s) s 64 x.2) b3).trans c6;have b5:uP s (a,0)=_:=(congrArg (fun x:(List Int)×RS=>kP s x.2) b4).trans c7;have d0:wX s (a,0)=_:=(congrArg (fun x:(Int)×RS=>kP s x.2) b5).trans c8;rw[mO,a6,a7,a8,a9,b1,b3,b4,b5,d0];simp only[af,and_true,true_and];unfold kT.enc;simp only[ae];have:nO b.lab.after=b.lab.after.flatMap Wire.enc:=rfl;omega
theorem Xn {l:List kT}(h:m9 l=true)(r:List UInt8):nU (nG l++r)=(l,((nG l).length,0)):=by
 obtain⟨M,O⟩:=tK h;have:=Og (f:=mO (nG l++r)) (e:=kT.enc) (s:=nG l++r) (a:=0) (l:=l) (most:=24) (r:=r) M (by omega) (fun b V a r h=>Y2 (kT.ot (O b V)) h) (by rw[aU,nG,pZ,an]);rw[nU];refine this.trans ?_;rw[az,nG,ae];rfl
theorem Qm {l:List kT}(h:m9 l=true):my (nG l)=(l,0):=by
 have:=Xn h [];rw[aL]at this;rw[my,this,if_neg (by simp),if_neg (by simp),if_pos h]
theorem oe {s:List UInt8}{st:RS}(h:(kP s st).2.2=0):st.2=0∧lU (kP s st).1∧s.drop st.1=Wire.enc (kP s st).1++s.drop (kP s st).2.1:=by
 unfold kP at*;split at h
 ·next he=>
  split at h
  ·simp at h
  ·next n k hr=>
   rw[if_pos he];have M:=zK hr;rw[cV]at M;exact⟨he,(pk hr).1,M⟩
 ·next he=>exact absurd h he
theorem zH {s:List UInt8}{st:RS}(h:(lh s st).2.2=0):st.2=0∧s.drop st.1=lL (bb (lh s st).1)++s.drop (lh s st).2.1:=by
 unfold lh at*;split at h
 ·next he=>
  split at h
  ·simp at h
  ·next n k hr=>
   rw[if_pos he];have M:=Ix hr;rw[cV]at M;refine⟨he,?_⟩;simp only[mA];exact M
 ·next he=>exact absurd h he
theorem Dr {α:Type}{f:RS→α×RS}{e:α→List UInt8}{s:List UInt8}(O:∀st,(f st).2.2=0→st.2=0∧s.drop st.1=e (f st).1++s.drop (f st).2.1):∀(n:Nat) (st:RS),(lz f n st).2.2=0→
  st.2=0∧(lz f n st).1.length=n∧s.drop st.1=(lz f n st).1.flatMap e++s.drop (lz f n st).2.1
 |0,st,h=>⟨h,rfl,rfl⟩
 | n+1,st,h=>by
  unfold lz at*;split at h
  ·next he=>
   rw[if_pos he];have M:=Dr O n (f st).2 h;have V:=O st M.1;refine⟨he,by simp only[aI];rw[M.2.1],?_⟩;simp only[bq];rw[an,←M.2.2];exact V.2
  ·next he=>exact absurd h he
theorem KI {α:Type}{f:RS→α×RS}{e:α→List UInt8}{s:List UInt8}{most:Int}(a2:∀st,(f st).2.2=0→st.2=0∧s.drop st.1=e (f st).1++s.drop (f st).2.1){st:RS}(h:(oK f s most st).2.2=0):
  st.2=0∧s.drop st.1=Wire.enc ((oK f s most st).1.length:Int)++((oK f s most st).1.flatMap e++s.drop (oK f s most st).2.1):=by
 unfold oK at*;have M:=Dr a2 _ _ h;have O:=FU M.1;have a1:mZ s most st=kP s st:=by
  unfold mZ at M ⊢;split
  ·next hc=>rw[if_pos hc]at M;simp at M
  ·rfl
 rw[a1]at M O ⊢;have V:=oe M.1;refine⟨V.1,?_⟩;rw[M.2.1,dM O.1,←M.2.2];exact V.2.2
theorem Ri {s:List UInt8}{st:RS}(h:(mO s st).2.2=0):st.2=0∧s.drop st.1=(mO s st).1.enc++s.drop (mO s st).2.1:=by
 have b6:(kP s (uP s st).2).2.2=0:=h;have a5:=oe b6;have a4:=oe (s:=s) (st:=(sy s st).2) a5.1;have a3:=KI (e:=Wire.enc) (f:=kP s) (most:=64) (fun st h=>⟨(oe h).1,(oe h).2.2⟩) (st:=(po s st).2) a4.1;have a2:=oe (s:=s) (st:=(sY s st).2) a3.1;have a1:=oe (s:=s) (st:=(sG s st).2) a2.1;have V:=oe (s:=s) (st:=(qM s st).2) a1.1;have O:=zH (s:=s) (st:=(sV s st).2) V.1;have M:=oe (s:=s) (st:=(si s st).2) O.1;have k1:=oe (s:=s) (st:=st) M.1;refine⟨k1.1,?_⟩;have e1:s.drop st.1=Wire.enc (si s st).1++s.drop (si s st).2.1:=k1.2.2;have a6:s.drop (si s st).2.1=Wire.enc (sV s st).1++s.drop (sV s st).2.1:=M.2.2;have a7:s.drop (sV s st).2.1=lL (bb (qM s st).1)++s.drop (qM s st).2.1:=O.2;have a8:s.drop (qM s st).2.1=Wire.enc (sG s st).1++s.drop (sG s st).2.1:=V.2.2;have a9:s.drop (sG s st).2.1=Wire.enc (sY s st).1++s.drop (sY s st).2.1:=a1.2.2;have b1:s.drop (sY s st).2.1=Wire.enc (po s st).1++s.drop (po s st).2.1:=a2.2.2;have b3:s.drop (po s st).2.1=Wire.enc ((sy s st).1.length:Int)++((sy s st).1.flatMap Wire.enc++s.drop (sy s st).2.1):=a3.2;have b4:s.drop (sy s st).2.1=Wire.enc (uP s st).1++s.drop (uP s st).2.1:=a4.2.2;have b5:s.drop (uP s st).2.1=Wire.enc (wX s st).1++s.drop (wX s st).2.1:=a5.2.2;rw[e1,a6,a7,a8,a9,b1,b3,b4,b5];unfold kT.enc mO;simp only[an];rfl
theorem Yx {s:List UInt8}(h:(nU s).2.2=0):s=nG (nU s).1++s.drop (nU s).2.1:=by
 have:=(KI (e:=kT.enc) (f:=mO s) (s:=s) (most:=24) (fun st h=>Ri h) (st:=(0,0)) h).2;rw[aU]at this;rw[nG,pZ,an];exact this
theorem WL {s:List UInt8}{l:List kT}(h:my s=(l,0)):m9 l=true∧nG l=s:=by
 unfold my at h;split at h
 ·next h1=>
  simp only[af]at h;exact absurd h.2 h1
 ·next h1=>
  split at h
  ·simp at h
  ·next h2=>
   split at h
   ·next h3=>
    simp only[af,and_true]at h;subst h;have M:=Yx (Decidable.not_not.1 h1);rw[ax (by omega),aL]at M;exact⟨h3,M.symm⟩
   ·simp at h
theorem rX {s:List UInt8}{st:RS}(h:¬st.2=0):(kP s st).2=st:=by rw[kP,if_neg h]
theorem D2 {s:List UInt8}{st:RS}(h:¬st.2=0):(lh s st).2=st:=by rw[lh,if_neg h]
theorem Xi (s:List UInt8):(my s).1.length≤24:=by
 have h:=(zF (f:=mO s) (s:=s) (most:=24) (fun _=>wD) (st:=(0,0)) (bx _)).2;have M:(nU s).1.length≤24:=h;unfold my;split
 ·exact bx _
 ·split
  ·exact bx _
  ·split
   ·exact M
   ·exact bx _
abbrev e0:BA:=⟨#[]⟩
def mi.zero:mi:=⟨0,[],0,0⟩
def dF.zero:dF:=⟨0,0,0,0,e0,0,0,e0,e0,[],[],mi.zero,0,0,0,e0,e0,0,0,0⟩
inductive k9 where
 |n|time|kind|story|lang|rev|base|title|author|topics|blocks|label|editor|block|sentence|text|name|partner|cls|unt
deriving DecidableEq
inductive rG where
 |int|str|topics|blocks|label
deriving DecidableEq
def k9.ty:k9→rG
 | .n| .time| .kind| .story| .rev| .base| .editor| .block| .sentence| .partner| .cls| .unt=>.int
 | .lang| .title| .author| .text| .name=>.str
 | .topics=>.topics
 | .blocks=>.blocks
 | .label=>.label
def k9.off:k9→Nat
 | .n=>0| .time=>1| .kind=>2| .story=>3| .lang=>4| .rev=>5| .base=>6| .title=>7| .author=>8| .topics=>9| .blocks=>10| .label=>11
 | .editor=>15| .block=>16| .sentence=>17| .text=>18| .name=>19| .partner=>20| .cls=>21| .unt=>22
abbrev rG.T:rG→Type
 | .int=>Int
 | .str=>BA
 | .topics=>List BA
 | .blocks=>List kT
 | .label=>mi
def dF.get (f:dF):(x:k9)→x.ty.T
 | .n=>f.n| .time=>f.time| .kind=>f.kind| .story=>f.story| .lang=>f.lang| .rev=>f.rev| .base=>f.base| .title=>f.title| .author=>f.author
 | .topics=>f.topics| .blocks=>f.blocks| .label=>f.lab| .editor=>f.editor| .block=>f.block| .sentence=>f.sentence| .text=>f.text| .name=>f.name| .partner=>f.partner| .cls=>f.cls| .unt=>f.unt
def dF.set (f:dF):(x:k9)→x.ty.T→dF
 | .n,v=>{f with n:=v}| .time,v=>{f with time:=v}| .kind,v=>{f with kind:=v}| .story,v=>{f with story:=v}| .lang,v=>{f with lang:=v}
 | .rev,v=>{f with rev:=v}| .base,v=>{f with base:=v}| .title,v=>{f with title:=v}| .author,v=>{f with author:=v}| .topics,v=>{f with topics:=v}
 | .blocks,v=>{f with blocks:=v}| .label,v=>{f with lab:=v}| .editor,v=>{f with editor:=v}| .block,v=>{f with block:=v}| .sentence,v=>{f with sentence:=v}
 | .text,v=>{f with text:=v}| .name,v=>{f with name:=v}| .partner,v=>{f with partner:=v}| .cls,v=>{f with cls:=v}| .unt,v=>{f with unt:=v}
theorem dF.Ff (f:dF)(x:k9)(v:x.ty.T):(f.set x v).get x=v:=by cases x<;>rfl
theorem dF.Bf (f:dF){x y:k9}(h:x≠y)(v:x.ty.T):(f.set x v).get y=f.get y:=by
 cases x<;>cases y<;>first|rfl|exact absurd rfl h
theorem dF.ext_get {f g:dF}(h:∀x,f.get x=g.get x):f=g:=by
 have M:=h .n;have O:=h .time;have b1:=h .kind;have b3:=h .story;have b4:=h .lang;have b5:=h .rev;have b6:=h .base;have b7:=h .title;have b9:=h .author;have c2:=h .topics;have V:=h .blocks;have a1:=h .label;have a2:=h .editor;have a3:=h .block;have a4:=h .sentence;have a5:=h .text;have a6:=h .name;have a7:=h .partner;have a8:=h .cls;have a9:=h .unt;cases f;cases g
 simp only[dF.get]at*;subst M O b1 b3 b4 b5 b6 b7 b9 c2 V a1 a2 a3 a4 a5 a6 a7 a8 a9;rfl
def k6 (k:Int):List k9:=
 if k=1 then [.story,.lang,.rev,.base,.title,.author,.topics,.blocks,.label]
 else if k=2 then [.story,.editor]
 else if k=3 then [.story,.label]
 else if k=4 then [.story,.lang,.block,.sentence,.text]
 else if k=5 then [.story,.text]
 else if k=6 then [.story]
 else if k=7 then [.name,.text]
 else if k=8 then [.partner,.cls,.unt]
 else if k=9 then [.partner,.unt]
 else if k=10 then [.story]
 else []
theorem En (k:Int):(k6 k).Nodup∧k9.n∉k6 k∧k9.time∉k6 k∧k9.kind∉k6 k:=by
 unfold k6
 repeat' split
 all_goals decide
def dF.bare (n time kind:Int):dF:={dF.zero with n:=n,time:=time,kind:=kind}
def dF.used (f:dF):dF:=(k6 f.kind).foldl (fun g x=>g.set x (f.get x)) (dF.bare f.n f.time f.kind)
def qV (b:Int):Bool:=decide (b=10)||se b
def rI (s:BA):Bool:=decide (s.size≤1000)&&scan s qV 0
def zY (a b:BA):Bool:=Op.bytesLess a.toList b.toList||(a.toList==b.toList)
def vj:Option BA→BA→Bool
 |none,_=>true
 |some a,t=> !zY t a
def tW:Option BA→List BA→Bool
 |_,[]=>true
 |last,t::r=>mK t&&(vj last t&&tW (some t) r)
def sJ (l:List BA):Bool:=decide (l.length≤4)&&tW none l
def dF.qd (f:dF):Bool:=mK f.lang&&(decide (1≤f.rev∧f.rev≤100)&&(decide (0≤f.base∧f.base≤f.rev-1)&&(mP f.title&&(mK f.author&&(sJ f.topics&&(m9 f.blocks&&f.lab.ok))))))
def dF.qy (f:dF):Bool:=mK f.lang&&(decide (1≤f.block∧f.block≤1000)&&(decide (0≤f.sentence∧f.sentence≤299)&&mP f.text))
def dF.mX (f:dF):Bool:=decide (1≤f.story∧f.story≤64)
def dF.qo (f:dF):Bool:=decide (1≤f.partner∧f.partner≤8∧0≤f.unt∧f.unt≤1000000000)
def dF.lr (f:dF):Bool:=
 if f.kind=1 then f.mX&&f.qd
 else if f.kind=2 then f.mX&&decide (1≤f.editor∧f.editor≤5)
 else if f.kind=3 then f.mX&&f.lab.ok
 else if f.kind=4 then f.mX&&f.qy
 else if f.kind=5 then f.mX&&mP f.text
 else if f.kind=6 then f.mX
 else if f.kind=7 then mK f.name&&rI f.text
 else if f.kind=8 then f.qo&&decide (0≤f.cls∧f.cls≤3)
 else if f.kind=9 then f.qo
 else if f.kind=10 then f.mX
 else false
def dF.ok (f:dF):Bool:=decide (0≤f.n∧f.n≤500∧0≤f.time∧f.time≤1000000000)&&(f.lr&&decide (f=f.used))
def qO:(t:rG)→t.T→List UInt8
 | .int,n=>Wire.enc n
 | .str,s=>lL (bb s)
 | .topics,l=>Wire.enc (l.length:Int)++l.flatMap fun s:BA=>lL (bb s)
 | .blocks,l=>lL (nG l)
 | .label,l=>Wire.enc l.unt++(Wire.enc (l.after.length:Int)++(l.after.flatMap Wire.enc++(Wire.enc l.appr++Wire.enc l.den)))
def dF.put (f:dF)(x:k9):List UInt8:=qO x.ty (f.get x)
def dF.head (f:dF):List UInt8:=Wire.enc f.n++(Wire.enc f.time++Wire.enc f.kind)
def mE (f:dF):List UInt8:=f.head++(k6 f.kind).flatMap f.put
def oF:(t:rG)→t.T→Prop
 | .int,n=>lU n
 | .str,s=>s.size≤65536
 | .topics,(l:List BA)=>l.length≤4∧∀s∈l,s.size≤65536
 | .blocks,l=>m9 l=true
 | .label,l=>lU l.unt∧l.after.length≤64∧(∀x∈l.after,lU x)∧lU l.appr∧lU l.den
def mh (s:List UInt8)(most:Int)(st:RS):Int×RS:=
 if(kP s st).2.2=0∧((kP s st).1<0∨most<(kP s st).1)then((kP s st).1,((kP s st).2.1,50))else kP s st
def nv {α:Type}(f:RS→α×RS)(s:List UInt8)(most:Int)(st:RS):List α×RS:=lz f (mh s most st).1.toNat (mh s most st).2
def nB (s:List UInt8)(st:RS):List kT×RS:=
 if(lh s st).2.2=0 then(if(my (bb (lh s st).1)).2=0 then((my (bb (lh s st).1)).1,(lh s st).2)else([],((lh s st).2.1,50)))else([],(lh s st).2)
def rP (s:List UInt8)(st:RS):=kP s st
def p7 (s:List UInt8)(st:RS):=nv (kP s) s 64 (rP s st).2
def q6 (s:List UInt8)(st:RS):=kP s (p7 s st).2
def te (s:List UInt8)(st:RS):=kP s (q6 s st).2
def DW (s:List UInt8)(st:RS):mi×RS:=(⟨(rP s st).1,(p7 s st).1,(q6 s st).1,(te s st).1⟩,(te s st).2)
def mB (s:List UInt8):(t:rG)→RS→t.T×RS
 | .int,st=>kP s st
 | .str,st=>lh s st
 | .topics,st=>nv (lh s) s 4 st
 | .blocks,st=>nB s st
 | .label,st=>DW s st
def ni (s:List UInt8)(r:dF×RS)(x:k9):dF×RS:=(r.1.set x (mB s x.ty r.2).1,(mB s x.ty r.2).2)
def m5 (s:List UInt8):=kP s (0,0)
def mW (s:List UInt8):=kP s (m5 s).2
def lS (s:List UInt8):=kP s (mW s).2
def rdKind (s:List UInt8):RS:=if(lS s).2.2=0∧k6 (lS s).1=[]then((lS s).2.1,50)else(lS s).2
def mN (s:List UInt8):dF×RS:=(k6 (lS s).1).foldl (ni s) (dF.bare (m5 s).1 (mW s).1 (lS s).1,rdKind s)
def l6 (s:List UInt8):dF×Int:=
 if¬(mN s).2.2=0 then(dF.zero,(mN s).2.2)else if(mN s).2.1<s.length then(dF.zero,10)else if(mN s).1.ok=true then((mN s).1,0)else(dF.zero,50)
theorem yA {l:List kT}(h:m9 l=true):(nG l).length≤30000:=by
 have M:=yl l (tK h).2;have O:=(tK h).1;have V:=lx (l.length:Int);rw[nG,ae];omega
theorem Hi {α:Type}{f:RS→α×RS}{e:α→List UInt8}{s:List UInt8}{l:List α}{a most:Nat}{r:List UInt8}(a1:l.length≤most)(hm:most≤65536)(V:∀x∈l,∀a r,s.drop a=e x++r→f (a,0)=(x,(a+(e x).length,0)))
  (h:s.drop a=Wire.enc (l.length:Int)++(l.flatMap e++r)):nv f s most (a,0)=(l,(a+((Wire.enc (l.length:Int)).length+(l.flatMap e).length),0)):=by
 have M:=oO (mg (by omega)) h;have O:mh s most (a,0)=((l.length:Int),(a+(Wire.enc (l.length:Int)).length,0)):=by
  rw[mh,M,if_neg (by simp only;omega)]
 rw[nv,O];simp only[ai];rw[Ek l _ r V (ou h),ei]
theorem WS {s r:List UInt8}{a:Nat}:∀{t:rG} {v:t.T},oF t v→s.drop a=qO t v++r→mB s t (a,0)=(v,(a+(qO t v).length,0))
 | .int,n,hn,h=>oO hn h
 | .str,v,hv,h=>CL hv h
 | .topics,l,hl,h=>by
  have a6:s.drop a=Wire.enc (l.length:Int)++((l.flatMap fun s:BA=>lL (bb s))++r):=by rw[←an];exact h
  have:=Hi (f:=lh s) (e:=fun s:BA=>lL (bb s)) (most:=4) hl.1 (by omega) (fun x V a r h=>CL (hl.2 x V) h) a6;refine this.trans ?_;simp only[qO,ae]
 | .blocks,l,hl,h=>by
  have O:lh s (a,0)=(ba (nG l),(a+(lL (nG l)).length,0)):=by
   have:=CL (s:=s) (r:=r) (a:=a) (t:=ba (nG l)) (by rw[lY];have:=yA hl;omega) (by rw[mA];exact h);rw[mA]at this;exact this
  show nB s (a,0)=_;rw[nB,O,if_pos rfl,mA,Qm hl,if_pos rfl];rfl
 | .label,l,⟨O,h2,h3,h4,h5⟩,h=>by
  have h:s.drop a=Wire.enc l.unt++(Wire.enc (l.after.length:Int)++(l.after.flatMap Wire.enc++(Wire.enc l.appr++(Wire.enc l.den++r)))):=by rw[h];simp only[qO,an]
  have k1:=oO O h;have a1:=ou h;have a7:=Hi (f:=kP s) (e:=Wire.enc) (most:=64) h2 (by omega) (fun x V a r h=>oO (h3 x V) h) a1;have M:=ou (ou a1);rw[ei]at M;have a8:=oO h4 M;have a5:=ou M;have a9:=oO h5 a5;have a2:rP s (a,0)=_:=k1;have a3:p7 s (a,0)=_:=(congrArg (fun x:(Int)×RS=>nv (kP s) s 64 x.2) a2).trans a7;have a4:q6 s (a,0)=_:=(congrArg (fun x:(List Int)×RS=>kP s x.2) a3).trans a8;have b1:te s (a,0)=_:=(congrArg (fun x:(Int)×RS=>kP s x.2) a4).trans a9;show DW s (a,0)=_;rw[DW,a2,a3,a4,b1];simp only[af,and_true,qO,ae];refine⟨trivial,by omega⟩
theorem L6 {s:List UInt8}{f:dF}:∀(l:List k9) (g:dF) (a:Nat) (r:List UInt8),(∀x∈l,oF x.ty (f.get x))→s.drop a=l.flatMap f.put++r→
  l.foldl (ni s) (g,(a,0))=(l.foldl (fun g x=>g.set x (f.get x)) g,(a+(l.flatMap f.put).length,0))
 |[],g,a,r,_,h=>rfl
 |x::l,g,a,r,hv,h=>by
  rw[bq,an]at h;have M:=WS (hv x au) h;have O:ni s (g,(a,0)) x=(g.set x (f.get x),(a+(f.put x).length,0)):=by rw[ni,M];rfl
  rw[bS,O,L6 l _ _ r (fun y V=>hv y (ag _ V)) (ou h),bq,ae,ei];rfl
end Go.Eng
