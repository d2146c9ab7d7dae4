/- Parts of the proofs. -/
import Derived.Test.YtlchlddijclhjaaGreatR9
import Derived.KernelRfl
import Derived.Test.YtlchlddijclhjaaGreatR13
import Derived.Test.YtlchlddijclhjaaGreatR7
import Derived.Test.YtlchlddijclhjaaGreatRZ
set_option linter.unusedVariables false
set_option linter.unusedSimpArgs false
set_option maxHeartbeats 4000000
namespace Go.Eng
open Go Go.RowKit
variable {P:Program}
def Ur(P:Program)(Y:AV)(h:A7)(z:Nat)(fs:List (List AV)):Prop:=
 ∀(C:Cfg) (sv:Value) (k:Nat),C.h=h->Rel C->VR C Y sv->k<=fs.length->(Builtin.lenOf sv).run P C.w = .ok fs.length C.w/\∃news:List Value,(Builtin.firstCells z k sv).run P C.w = .ok news.toArray C.w/\news.length=k*z /\
    (∀(i:Nat) (r:List AV),(fs.take k)[i]?=some r->∀(j:Nat) (u:AV),r[j]?=some u->∃v,news[i*z+j]?=some v/\VR C u v)/\(∀r,r∈fs.take k->r.length=z)
theorem Ur.list{h:A7}{z:Nat}{fs:List (List AV)}(hz:0<z):Ur P (.list z fs) h z fs:=by
 intro C sv k hC RC hY hk;have uV:(fs.take k).length=k:=by simp;omega
 rcases hY.lists with ⟨⟨a0,c0,k1⟩,k2⟩|⟨a,cap',f,k1,hcap',hsp,oZ,aS,aT,tX⟩
 ·subst k2
  have oH:k=0:=(by simpa using hk);refine⟨by rw[k1];simp[Builtin.lenOf],[],?_,by rw[oH];simp,λi r hr=>by simp at hr,λr hr=>by simp at hr⟩;rw[oH,k1]
  cases a0<;>simp[Builtin.firstCells,loadCells,loadCellsFrom]
 ·have hzz':∀r,r∈fs.take k->r.length=z:=λr hr=>oZ r (List.mem_of_mem_take hr)
  obtain⟨news,n1,n2,n3⟩:=VR.news (c:=C) (es:=fs.take k) (a:=a) (f:=f) hz hsp hzz' (λi j hi hj=>aS i j (by rw[uV] at hi;omega) hj) (λi r hr=>tX i r (by rw[List.getElem?_take] at hr;split at hr;exact hr;cases hr));rw[uV] at n1;rw[k1];exact⟨by simp[Builtin.lenOf],news,run_firstCells_some (P:=P) C.w z k a fs.length cap' news n1 n2,n1,n3,hzz'⟩
end Go.Eng
namespace Go.Proofs.YtlchlddijclhjaaGreat
open Go Go.RowKit Go.Eng
set_option maxRecDepth 100000
def bi(v:BitVec 16):Int:=(v.toNat:Int)
theorem Ph(v:BitVec 16):BitVec.ofInt 16 (bi v)=v:=by
 unfold bi;rw[BitVec.ofInt_natCast,BitVec.ofNat_toNat,BitVec.setWidth_eq]
theorem Hd(v:BitVec 16):0<=bi v/\bi v<65536:=by have:=v.isLt;unfold bi;omega
theorem Us(v w:BitVec 16):AF .xor .u16 (bi v) (bi w)=bi (v ^^^ w):=by
 show IntKind.u16.wrap (BitVec.ofInt 16 (bi v) ^^^ BitVec.ofInt 16 (bi w)).toNat=_;rw[Ph,Ph,IntKind.wrap_u16];have:=(v ^^^ w).isLt;unfold bi;omega
theorem Ut(v:BitVec 16)(n:Int)(k:Nat)(hn:n=k)(hk:k<=16):AF .shl .u16 (bi v) n=bi (v <<< k):=by
 subst hn;show IntKind.u16.wrap (bi v*2 ^ (min (k:Int).toNat 16))=_;rw[IntKind.wrap_u16,Int.toNat_natCast,Nat.min_eq_left hk];unfold bi;rw[BitVec.toNat_shiftLeft,Nat.shiftLeft_eq,Int.natCast_emod,Int.natCast_mul,Int.natCast_pow];rfl
theorem j6(v:BitVec 16):AF .and .u16 (bi v) 32768=if v.msb then 32768 else 0:=by
 show IntKind.u16.wrap (BitVec.ofInt 16 (bi v) &&& BitVec.ofInt 16 32768).toNat=_;rw[Ph,IntKind.wrap_u16]
 have h1:v &&& BitVec.ofInt 16 32768=if v.msb then 32768#16 else 0#16:=by
  apply BitVec.eq_of_getLsbD_eq;intro i hi;rw[BitVec.getLsbD_and,BitVec.msb_eq_getLsbD_last]
  have h2:(BitVec.ofInt 16 32768).getLsbD i=decide (i=15):=by
   have:i=0\/i=1\/i=2\/i=3\/i=4\/i=5\/i=6\/i=7\/i=8\/i=9\/i=10\/i=11\/i=12\/i=13\/i=14\/i=15:=(by omega);rcases this with h|h|h|h|h|h|h|h|h|h|h|h|h|h|h|h<;>(rw[h];rfl)
  rw[h2];by_cases h:i=15
  ·subst h;cases v.getLsbD 15<;>simp
  ·cases v.getLsbD (16-1)<;>simp[h]
   have h3:(32768#16).getLsbD i=decide (i=15):=h2;rw[h3];simp[h]
 rw[h1];cases v.msb<;>rfl
theorem Uu{b:Int}(h:0<=b/\b<=255):b=bi (BitVec.ofNat 16 b.toNat)/\(BitVec.ofNat 16 b.toNat).toNat<256:=by
 have:(BitVec.ofNat 16 b.toNat).toNat=b.toNat:=by rw[BitVec.toNat_ofNat];omega
 unfold bi;omega
def Cj(b:Int):BitVec 16:=BitVec.ofNat 16 b.toNat
theorem jA:∀(n:Nat) (a:BitVec 16),crN (n+1) a=crS (crN n a):=λn a=>by rw[Jw n 1 a];rfl
theorem jB(v:BitVec 16)(s b r:Int)(es:s=bi v)(hb:0<=b/\b<=255)(er:r=bi (crB v (Cj b))):A9 Tryz.prog 184 [.int .u16 s,.int .u8 b] (· = .int .u16 r):=by
 refine Z.y Tryz.func184 λzB zE _ zD _ _ hw zC zA _ zG _ _ hz R hR P hP=>?_;cbv;refine Nn.mk Z.d ?_;obtain⟨x0,ex0⟩:=Z.e (v ^^^ (Cj b <<< 8));obtain⟨y0,ey0⟩:=Z.e (bi x0)
 have a1:zB .xor .u16 s (zB .shl .u16 (zD .u16 b) 8)=y0:=by
  have h1:zD .u16 b=bi (Cj b):=by rw[zG];show IntKind.u16.wrap b=_;rw[IntKind.wrap_u16];have:=(Uu hb).1;unfold Cj;omega
  rw[h1,zC,Ut _ 8 8 rfl Z.d,es,Us,ey0,ex0]
 simp only[a1]
 refine Ae.data hw (S:=Int×BitVec 16×Int) (λs=>fr 22 [(0,.int .u16 s.2.2),(10,s.1)]) (λ_=>[])
  (λs=>0<=s.1/\s.1<=8/\s.2.1=crN s.1.toNat x0/\s.2.2=bi s.2.1) (λs=>(8-s.1).toNat) (0,x0,y0) Z.i ⟨Int.le_refl _,(show (0:Int)<=8 by decide),rfl,ey0⟩ ?_
 rintro⟨i,x,y⟩ zJ Q' hN hE hR'
 have zJ:0<=i/\i<=8/\x=crN i.toNat x0/\y=bi x:=zJ;cbv;obtain⟨zW,yZ,hx,hy⟩:=zJ;(split<;>rename_i hc<;>(try (simp only[hz,Z.a,AF,AC,AO,AP,AL,reduceCtorEq] at hc))<;>(try cbv))
 ·obtain⟨i2,kW⟩:=Z.e (i+1)
  have a4:zB .add .i64 i 1=i2:=(by rw[zC,Ag Z.o Z.o,kW]);have hT:(8-i2).toNat<(8-i).toNat:=(by omega);obtain⟨x2,qx⟩:=Z.e (crS x);obtain⟨y2,mV⟩:=Z.e (bi x2);have hx2:x2=crN i2.toNat x0:=(by rw[qx,hx,show i2.toNat=i.toNat+1 by omega,jA]);have top:zB .and .u16 y 32768=if x.msb then 32768 else 0:=by rw[zC,hy,j6]
  have sh:zB .shl .u16 y 1=bi (x <<< 1):=by rw[zC,hy,Ut _ 1 1 rfl Z.d]
  have b1:x.msb=true->zB .xor .u16 (zB .shl .u16 y 1) 4129=y2:=λh=>by
   rw[sh,zC,show (4129:Int)=bi 4129#16 from rfl,Us,mV,qx];unfold crS;rw[h];rfl
  have b2:x.msb=false->zB .shl .u16 y 1=y2:=λh=>by
   rw[sh,mV,qx];unfold crS;rw[h];simp
  obtain⟨m,em⟩:=Z.f x.msb;rw[em] at b1 b2 top;have c1:zE .neq (zB .and .u16 y 32768) 0=m:=(by rw[top,zA];cases m<;>rfl);simp only[c1];cases m
  ·cbv
   refine Nn.mk Z.d ?_;simp only[b2 rfl,a4];refine hN (i2,x2,y2) _ _ ?hx ?hi hT
   case hx=>exact Z.i
   case hi=>exact⟨by simp only;omega,by simp only;omega,hx2,mV⟩
  ·cbv
   refine Nn.mk Z.d ?_;simp only[b1 rfl,a4];refine hN (i2,x2,y2) _ _ ?hx ?hi hT
   case hx=>exact Z.i
   case hi=>exact⟨by simp only;omega,by simp only;omega,hx2,mV⟩
 ·refine hE _ _ _ ?_
  cbv;have e8:i.toNat=8:=(by omega);refine⟨_,Vw.same rfl,hR _ ?_⟩;rw[hy,hx,e8,ex0,er];rfl
def AZ(b:Int):List AV:=[.int .u8 b]
theorem Ao(l:List Int):Up0 (l.map AZ):=BM (f:=AZ) (λd=>rfl) l
theorem LK{α: Type}{l:List α}{i:Int}{x: α}(h0:0<=i)(h:l[i.toNat]?=some x):l.take (i+1).toNat=l.take i.toNat++[x]:=by
 have e:(i+1).toNat=i.toNat+1:=by omega
 rw[e,List.take_add_one,h];rfl
def Ar(l:List Int):Prop:=∀b,b∈l->0<=b/\b<=255
def crF(v:BitVec 16)(l:List Int):BitVec 16:=crL v (l.map Cj)
theorem e_go(l:List Int)(hl:Ar l)(sP:l.length<=1099511627776)(v:BitVec 16)(s r:Int)(es:s=bi v)(rs:List (List AV))(yD:rs=l.map AZ)(er:r=bi (crF v l)):A9 Tryz.prog 129 [.int .u16 s,.list 1 rs] (· = .int .u16 r):=by
 have hu:Up0 rs:=by rw[yD];exact Ao l
 refine Z.y Tryz.func129 λzB _ _ _ _ _ hw zC _ _ _ _ zH hz R hR P hP=>?_;cbv;obtain⟨L,eL,L0,Ln⟩:=Z.l zH rs;simp only[eL];have oL:rs.length=l.length:=by rw[yD];simp
 refine Ae.data hw (S:=Int×BitVec 16×Int) (λs=>fr 18 [(0,.int .u16 s.2.2),(7,.list 1 rs),(8,L),(9,s.1)]) (λ_=>[])
  (λs=>0<=s.1/\s.1<=L/\s.2.1=crF v (l.take s.1.toNat)/\s.2.2=bi s.2.1) (λs=>(L-s.1).toNat) (0,v,s) Z.i ⟨Int.le_refl _,L0,rfl,es⟩ ?_
 rintro⟨i,x,y⟩ zJ Q' hN hE hR'
 have zJ:0<=i/\i<=L/\x=crF v (l.take i.toNat)/\y=bi x:=zJ;cbv;obtain⟨zW,yZ,hx,hy⟩:=zJ;(split<;>rename_i hc<;>(try (simp only[hz,Z.a,AF,AC,AO,AP,AL,reduceCtorEq] at hc))<;>(try cbv))
 ·obtain⟨i2,kW⟩:=Z.e (i+1)
  have a4:zB .add .i64 i 1=i2:=by rw[zC,kW];show IntKind.i64.wrap (i+1)=i+1;rw[IntKind.wrap_i64];omega
  have hT:(L-i2).toNat<(L-i).toNat:=(by omega);obtain⟨b,hb⟩:∃b,l[i.toNat]?=some b:=⟨_,List.getElem?_eq_getElem (show i.toNat<l.length by omega)⟩;have hbr:rs[i.toNat]?=some [.int .u8 b]:=(by rw[yD,List.getElem?_map,hb];rfl);have qw:=hl b (List.mem_of_getElem? hb);obtain⟨x2,qx⟩:=Z.e (crB x (Cj b));obtain⟨y2,mV⟩:=Z.e (bi x2)
  have hx2:x2=crF v (l.take i2.toNat):=by
   rw[qx,hx,kW,LK zW hb];unfold crF crL;rw[List.map_append,List.foldl_append];rfl
  refine Idx.mk _ zW hbr ?_;cbv;refine Call.stepE (by rw[<- hP];exact jB x y b y2 hy qw (by rw[mV,qx])) rfl ?_;cbv;simp only[a4];refine hN (i2,x2,y2) _ _ ?hx ?hi hT
  case hx=>exact Z.i
  case hi=>exact⟨by simp only;omega,by simp only;omega,hx2,mV⟩
 ·refine hE _ _ _ ?_
  cbv;refine⟨_,Vw.same rfl,hR _ ?_⟩;rw[hy,hx,er,List.take_of_length_le Z.o];rfl
theorem NF(l:List Int)(hl:Ar l)(sP:l.length<=1099511627776)(r:Int)(rs:List (List AV))(yD:rs=l.map AZ)(er:r=bi (crF 65535#16 l)):A9 Tryz.prog 74 [.list 1 rs] (· = .int .u16 r):=by
 have hu:Up0 rs:=by rw[yD];exact Ao l
 refine Z.y Tryz.func74 λ_ _ _ _ _ _ _ _ _ _ _ _ _ _ R hR P hP=>?_;cbv;refine Call.stepE (by rw[<- hP];exact e_go l hl sP 65535#16 65535 r rfl rs yD er) (by exact Up0.one hu rfl) ?_;cbv;exact Z.r hR
def JW(v:BitVec 16):List Int:=[bi (v >>> 8),bi (v &&& 255#16)]
theorem YP(l:List Int):crF 65535#16 (l++JW (crF 65535#16 l))=0#16:=by
 obtain⟨v,ev⟩:=Z.e (crF 65535#16 l);rw[<- ev]
 have e:crF 65535#16 (l++JW v)=crB (crB v (v >>> 8)) (v &&& 255#16):=by
  have h1:∀w:BitVec 16,Cj (bi w)=w:=λw=>(by unfold Cj bi;rw[Int.toNat_natCast];exact BitVec.eq_of_toNat_eq (by rw[BitVec.toNat_ofNat];have:=w.isLt;omega));rw[ev];unfold crF crL JW;rw[List.map_append,List.foldl_append];simp only[List.map_cons,List.map_nil,List.foldl_cons,List.foldl_nil,h1]
 rw[e];exact j3 v
theorem D8{a b:Int}(h0:0<=a):AF .rem .i64 a b=a%b:=by
 show a.tmod b=_;rw[Int.tmod_eq_emod_of_nonneg h0]
theorem Mi(v w:BitVec 16)(a b r:Int)(ea:a=bi v)(eb:b=bi w)(er:r=bi (v ^^^ w)):A9 Tryz.prog 85 [a,b] (· = jz r):=by
 refine Z.y Tryz.func85 λzB zE _ _ _ _ hw zC zA _ _ _ _ hz R hR P hP=>?_;cbv
 refine Ae.data hw (S:=Int×Int×Int) (λs=>fr 27 [(0,a),(1,b),(5,s.2.2),(6,s.2.1),(7,s.1)]) (λ_=>[])
  (λs=>0<=s.1/\s.1<=16/\0<=s.2.1/\s.2.1.toNat=2 ^ s.1.toNat/\0<=s.2.2/\s.2.2.toNat=(v ^^^ w).toNat%2 ^ s.1.toNat) (λs=>(16-s.1).toNat) (0,1,0) Z.i ⟨Int.le_refl _,(show (0:Int)<=16 by decide),(show (0:Int)<=1 by decide),rfl,Int.le_refl _,by simp[Nat.mod_one]⟩ ?_
 rintro⟨i,p,o⟩ zJ Q' hN hE hR'
 have zJ:0<=i/\i<=16/\0<=p/\p.toNat=2 ^ i.toNat/\0<=o/\o.toNat=(v ^^^ w).toNat%2 ^ i.toNat:=zJ;cbv;obtain⟨zW,yZ,ru,hpt,ho0,zf⟩:=zJ;obtain⟨k,ek⟩:=Z.e i.toNat;rw[<- ek] at hpt zf;obtain⟨pn,epn⟩:∃q:Nat,q=2 ^ k:=⟨_,rfl⟩;have ze:0<pn/\pn<=65536:=by rw[epn];exact⟨Nat.two_pow_pos _,Nat.pow_le_pow_right Z.d (show k<=16 by omega)⟩
 rw[<- epn] at hpt;obtain⟨on,eon⟩:∃q:Nat,q=(v ^^^ w).toNat%2 ^ k:=⟨_,rfl⟩;rw[<- eon] at zf;have tY:=v.isLt;have vz:=w.isLt;have xm:0<=a/\a<65536:=by rw[ea];exact Hd v
 have rJ:0<=b/\b<65536:=by rw[eb];exact Hd w
 (split<;>rename_i hc<;>(try (simp only[hz,Z.a,AF,AC,AO,AP,AL,reduceCtorEq] at hc))<;>(try cbv))
 ·have kY:a=(v.toNat:Int)/\b=(w.toNat:Int):=⟨ea,eb⟩
  have hp:p=(pn:Int):=(by omega);have ho:o=(on:Int):=(by omega);obtain⟨i2,kW⟩:=Z.e (i+1);have a4:zB .add .i64 i 1=i2:=(by rw[zC,Ag Z.o Z.o,kW]);obtain⟨p2,uM⟩:=Z.e (2*p);have a5:zB .mul .i64 2 p=p2:=(by rw[zC,M7 Z.o Z.o,uM]);have hT:(16-i2).toNat<(16-i).toNat:=(by omega);have wB:i2.toNat=k+1:=(by omega);have mH:p2.toNat=2 ^ i2.toNat:=by rw[wB,Nat.pow_succ,<- epn];omega
  have hol:o<65536:=by
   have:=Nat.mod_lt (v ^^^ w).toNat (Nat.two_pow_pos k);rw[<- eon,<- epn] at this;omega
  have q1:zB .quo .i64 a p=((v.toNat/pn:Nat):Int):=(by rw[zC,DX Z.o Z.o Z.o,kY.1,hp];rfl);have q2:zB .quo .i64 b p=((w.toNat/pn:Nat):Int):=(by rw[zC,DX Z.o Z.o Z.o,kY.2,hp];rfl);have q3:zB .rem .i64 ((v.toNat/pn:Nat):Int) 2=((v.toNat/pn%2:Nat):Int):=(by rw[zC,D8 (Int.natCast_nonneg _)];rfl);have q4:zB .rem .i64 ((w.toNat/pn:Nat):Int) 2=((w.toNat/pn%2:Nat):Int):=(by rw[zC,D8 (Int.natCast_nonneg _)];rfl);obtain⟨t,et⟩:∃t,t=(v ^^^ w).toNat.testBit k:=⟨_,rfl⟩
  have c1:zE .neq (zB .rem .i64 (zB .quo .i64 a p) 2) (zB .rem .i64 (zB .quo .i64 b p) 2)=t:=by
   rw[q1,q2,q3,q4,zA,et,BitVec.toNat_xor,Nat.testBit_xor,Nat.testBit_eq_decide_div_mod_eq,Nat.testBit_eq_decide_div_mod_eq,<- epn];show ((((v.toNat/pn%2:Nat):Int)) != ((w.toNat/pn%2:Nat):Int))=_;rcases Nat.mod_two_eq_zero_or_one (v.toNat/pn) with h1|h1<;>rcases Nat.mod_two_eq_zero_or_one (w.toNat/pn) with h2|h2<;>rw[h1,h2]<;>rfl
  have qB:∀o2,o2=(if t then o+p else o)->0<=o2/\o2.toNat=(v ^^^ w).toNat%2 ^ i2.toNat:=by
   intro o2 h;rw[wB,Nat.mod_pow_succ,<- eon,<- epn]
   have et2:((v ^^^ w).toNat/pn%2)=if t then 1 else 0:=by
    rw[et,Nat.testBit_eq_decide_div_mod_eq,<- epn];rcases Nat.mod_two_eq_zero_or_one ((v ^^^ w).toNat/pn) with h1|h1<;>rw[h1]<;>rfl
   rw[et2];cases t
   ·simp at h ⊢;omega
   ·simp at h ⊢;omega
  have hpz:p≠0:=(by omega);repeat' (first|refine Nz.mk hpz ?_|refine Nz.mk Z.d ?_)
  simp only[c1];cases t
  ·cbv
   repeat' (first|refine Nz.mk hpz ?_|refine Nz.mk Z.d ?_)
   simp only[a4,a5];refine hN (i2,p2,o) _ _ ?hx ?hi hT
   case hx=>exact Z.i
   case hi=>exact⟨by simp only;omega,by simp only;omega,by simp only;omega,mH,(qB o rfl).1,(qB o rfl).2⟩
  ·cbv
   obtain⟨o2,uj⟩:=Z.e (o+p);have a6:zB .add .i64 o p=o2:=(by rw[zC,Ag Z.o Z.o,uj]);simp only[a4,a5,a6];refine hN (i2,p2,o2) _ _ ?hx ?hi hT
   case hx=>exact Z.i
   case hi=>exact⟨by simp only;omega,by simp only;omega,by simp only;omega,mH,(qB o2 (by rw[uj];rfl)).1,(qB o2 (by rw[uj];rfl)).2⟩
 ·refine hE _ _ _ ?_
  cbv;have e16:k=16:=(by omega);refine⟨_,Vw.same rfl,hR _ ?_⟩;rw[e16,Nat.mod_eq_of_lt (v ^^^ w).isLt] at eon;have:o=r:=(by rw[er];unfold bi;omega);rw[this];rfl
def dig(l:List Int)(i:Nat):Bool:=(if i<8*l.length then (Cj (l.getD (i/8) 0)).getLsbD (7-i%8) else false) ^^ decide (i<16)
theorem Uv:∀(l:List (BitVec 16)) (i:Nat),i<8*l.length->(F9 l)[i]?=some ((l.getD (i/8) 0).getLsbD (7-i%8))
 | [],i,h=>absurd h (by simp)
 | b::l,i,h=>by
   unfold F9;rw[List.flatMap_cons];by_cases hi:i<8
   ·rw[List.getElem?_append_left (by simp[DL];exact hi),Nat.div_eq_of_lt hi,Nat.mod_eq_of_lt hi]
    simp[DL,hi]
   ·rw[List.getElem?_append_right (by simp[DL];omega)]
    have e:(DL b).length=8:=(by simp[DL]);rw[e];have ih:=Uv l (i-8) (by simp at h;omega);unfold F9 at ih;rw[ih];have h1:i/8=(i-8)/8+1:=(by omega);have h2:(i-8)%8=i%8:=(by omega);rw[h1,h2];rfl
theorem jF(l:List Int)(hl:Ar l):CL 0#16 ((List.range (8*l.length+16)).map (dig l))=crF 65535#16 l:=by
 have h:=j5 (l.map Cj) (λb hb=>by
  obtain⟨x,hx,rfl⟩:=List.mem_map.1 hb;exact(Uu (hl x hx)).2)
 unfold crF;rw[<- h];congr 1
 apply List.ext_getElem?;intro i;rw[List.getElem?_map,List.getElem?_zipWith];by_cases hi:i<8*l.length+16
 ·rw[List.getElem?_range hi]
  have e2:(List.replicate 16 true++List.replicate (8*(l.map Cj).length) false)[i]?=some (decide (i<16)):=by
   by_cases h16:i<16
   ·rw[List.getElem?_append_left (by simpa using h16),List.getElem?_replicate,if_pos h16];simp[h16]
   ·rw[List.getElem?_append_right (by simp;omega),List.getElem?_replicate,if_pos (by simp;omega)];simp[h16]
  have e1:(F9 (l.map Cj)++List.replicate 16 false)[i]?=some (if i<8*l.length then (Cj (l.getD (i/8) 0)).getLsbD (7-i%8) else false):=by
   by_cases h8:i<8*l.length
   ·rw[List.getElem?_append_left (by rw[Kz];simpa using h8),Uv _ _ (by simpa using h8),if_pos h8]
    have:(l.map Cj).getD (i/8) 0=Cj (l.getD (i/8) 0):=by
     have hd:i/8<l.length:=(by omega);simp[List.getD_eq_getElem?_getD,hd]
    rw[this]
   ·rw[List.getElem?_append_right (by rw[Kz];simp;omega),List.getElem?_replicate,if_pos (by rw[Kz];simp;omega),if_neg h8]
  rw[e1,e2];rfl
 ·rw[List.getElem?_eq_none (by simp;omega)]
  have:(F9 (l.map Cj)++List.replicate 16 false)[i]?=none:=List.getElem?_eq_none (by rw[List.length_append,Kz,List.length_replicate,List.length_map];omega);rw[this];rfl
theorem jG(x:BitVec 16)(t:Bool):((x <<< 1) ^^^ (if t then 1#16 else 0#16)).toNat=(2*x.toNat)%65536+(if t then 1 else 0):=by
 have h0:(x <<< 1).toNat=(2*x.toNat)%65536:=by rw[BitVec.toNat_shiftLeft,Nat.shiftLeft_eq];omega
 cases t
 ·simp[h0]
 ·have h1:(x <<< 1) ^^^ 1#16=(x <<< 1) ||| 1#16:=by
   apply BitVec.eq_of_getLsbD_eq;intro i hi;rw[BitVec.getLsbD_xor,BitVec.getLsbD_or,BitVec.getLsbD_shiftLeft];by_cases h:i=0
   ·subst h;simp
   ·have:(1#16).getLsbD i=false:=by rw[BitVec.getLsbD_one];simp[h]
    rw[this];simp
  have h2:(x <<< 1) &&& 1#16=0#16:=by
   apply BitVec.eq_of_getLsbD_eq;intro i hi;rw[BitVec.getLsbD_and,BitVec.getLsbD_shiftLeft];by_cases h:i=0
   ·subst h;simp
   ·have:(1#16).getLsbD i=false:=by rw[BitVec.getLsbD_one];simp[h]
    rw[this];simp
  simp only[if_true];rw[h1,<- BitVec.add_eq_or_of_and_eq_zero _ _ h2,BitVec.toNat_add,h0];show (_+1)%65536=_;omega
theorem Ll(l:List Int)(hl:Ar l)(sP:l.length<=1000000000)(r:Int)(rs:List (List AV))(yD:rs=l.map AZ)(er:r=bi (crF 65535#16 l)):A9 Tryz.prog 39 [.list 1 rs] (· = jz r):=by
 have hu:Up0 rs:=by rw[yD];exact Ao l
 have oL:rs.length=l.length:=by rw[yD];simp
 refine Z.y Tryz.func39 λzB zE _ zD _ _ hw zC zA yJ zG _ zH hz R hR P hP=>?_;cbv;obtain⟨L,eL,L0,Ln⟩:=Z.l zH rs;simp only[eL];obtain⟨m,em⟩:=Z.e (8*L);obtain⟨n,en⟩:=Z.e (m+16);have d1:zB .mul .i64 8 L=m:=by rw[zC,M7 Z.o Z.o,em]
 have d2:zB .add .i64 m 16=n:=by rw[zC,Ag Z.o Z.o,en]
 simp only[d1,d2]
 refine Ae.data hw (S:=Int×BitVec 16×Int) (λs=>fr 48 [(0,.list 1 rs),(3,n),(4,s.2.2),(5,s.1)]) (λ_=>[])
  (λs=>0<=s.1/\s.1<=n/\s.2.1=CL 0#16 ((List.range s.1.toNat).map (dig l))/\s.2.2=bi s.2.1) (λs=>(n-s.1).toNat) (0,0#16,0) Z.i ⟨Int.le_refl _,by simp only;omega,rfl,rfl⟩ ?_
 rintro⟨i,x,y⟩ zJ Q' hN hE hR'
 have zJ:0<=i/\i<=n/\x=CL 0#16 ((List.range i.toNat).map (dig l))/\y=bi x:=zJ;cbv;obtain⟨zW,yZ,hx,hy⟩:=zJ;have sS:=Hd x;rw[<- hy] at sS;(split<;>rename_i hc<;>(try (simp only[hz,Z.a,AF,AC,AO,AP,AL,reduceCtorEq] at hc))<;>(try cbv))
 ·obtain⟨i2,kW⟩:=Z.e (i+1)
  have a4:zB .add .i64 i 1=i2:=(by rw[zC,Ag Z.o Z.o,kW]);have hT:(n-i2).toNat<(n-i).toNat:=(by omega);obtain⟨t,et⟩:=Z.e (dig l i.toNat);obtain⟨x2,qx⟩:=Z.e (crI x t);obtain⟨y2,mV⟩:=Z.e (bi x2)
  have hx2:x2=CL 0#16 ((List.range i2.toNat).map (dig l)):=by
   rw[show i2.toNat=i.toNat+1 by omega,List.range_succ,List.map_append,Ky,<- hx,qx,et];rfl
  obtain⟨tn,etn⟩:∃z:Int,z=if t then 1 else 0:=⟨_,rfl⟩
  have htn:0<=tn/\tn<=1:=(by rw[etn];cases t<;>decide);obtain⟨z,ez⟩:=Z.e (2*y+tn);have m1:zB .mul .i64 2 y=2*y:=(by rw[zC,M7 Z.o Z.o]);have m2:zB .add .i64 (2*y) tn=z:=(by rw[zC,Ag Z.o Z.o,ez]);obtain⟨x1,oO⟩:∃q,q=(x <<< 1) ^^^ (if t then 1#16 else 0#16):=⟨_,rfl⟩;have p_:=jG x t;rw[<- oO] at p_;have hyx:y=(x.toNat:Int):=hy
  have sU:bi x1=(2*y)%65536+tn:=by
   unfold bi;rw[p_,etn,hyx];cases t<;>(simp;try omega)
  -- behind the digit: the step
  have big:65536<=z->x2=x1 ^^^ 4129#16/\z-65536=bi x1:=λh=>by
   have hm:x.msb=true:=(by rw[BitVec.msb_eq_decide];simp;omega);refine⟨?_,by rw[sU];omega⟩;rw[qx,oO];unfold crI crS;rw[hm,if_pos rfl];ac_rfl
  have small:z<65536->x2=x1/\z=bi x1:=λh=>by
   have hm:x.msb=false:=(by rw[BitVec.msb_eq_decide];simp;omega);refine⟨?_,by rw[sU];omega⟩;rw[qx,oO];unfold crI crS;rw[hm];simp
  have nx:∀(Y:Int),Y=y2->Q' .normal=Q' .normal:=λ_ _=>rfl
  -- the digit as the program has it
  have dn:¬i<m->(dig l i.toNat=decide (i.toNat<16)):=λh=>by
   unfold dig;rw[if_neg Z.o];simp
  have dy:i<m->dig l i.toNat=((Cj (l.getD (i.toNat/8) 0)).getLsbD (7-i.toNat%8) ^^ decide (i.toNat<16)):=λh=>by
   unfold dig;rw[if_pos Z.o]
  obtain⟨u,eu⟩:∃u:Bool,u=if i<m then (Cj (l.getD (i.toNat/8) 0)).getLsbD (7-i.toNat%8) else false:=⟨_,rfl⟩
  obtain⟨un,eun⟩:∃z:Int,z=if u then 1 else 0:=⟨_,rfl⟩
  have htu:t=(u ^^ decide (i<16)):=by
   rw[et,eu];by_cases h:i<m
   ·rw[dy h,if_pos h];congr 1;rw[decide_eq_decide];omega
   ·rw[dn h,if_neg h];simp
  have h1u:zB .sub .i64 1 un=1-un:=(by rw[zC,Bj (by rw[eun];cases u<;>decide) (by rw[eun];cases u<;>decide)]);have tn1:i<16->1-un=tn:=λh=>(by rw[etn,eun,htu];cases u<;>simp[h]);have tn2:¬i<16->un=tn:=λh=>by rw[etn,eun,htu];cases u<;>simp[h]
  have go:∀(b:Bool),(i<16↔b=true)->∀dv:Int,dv=un->(if b then zB .sub .i64 1 dv else dv)=tn:=λb hb dv hd=>by
   subst hd;cases b
   ·exact tn2 λh=>by have:=hb.1 h;cases this
   ·rw[if_pos rfl,h1u];exact tn1 (hb.2 rfl)
  have c16:∃b,zE .lss i 16=b/\(i<16↔b=true):=⟨_,rfl,by rw[zA];simp[AC]⟩;obtain⟨b16,e16,vk⟩:=c16;have go1:=λh:b16=true=>go b16 vk un rfl;have cz:∃b,zE .geq z 65536=b/\(65536<=z↔b=true):=⟨_,rfl,by rw[zA];simp[AC]⟩;obtain⟨bz,ecz,xe⟩:=cz;obtain⟨z2,wy⟩:=Z.e (z-65536);have m3:zB .sub .i64 z 65536=z2:=(by rw[zC,Bj Z.o Z.o,wy]);simp only[eL,d1];by_cases h8:i<m
  ·have c8:zE .lss i m=true:=by rw[zA];simp[AC];exact h8
   simp only[c8];cbv;obtain⟨iq,eiq⟩:=Z.e (i/8);obtain⟨ir,eir⟩:=Z.e (i%8);obtain⟨is,eis⟩:=Z.e (7-ir);have q1:zB .quo .i64 i 8=iq:=(by rw[zC,DX Z.o Z.o Z.o,eiq]);have q2:zB .rem .i64 i 8=ir:=(by rw[zC,D8 Z.o,eir]);have q3:zB .sub .i64 7 ir=is:=(by rw[zC,Bj Z.o Z.o,eis]);have q4:zD .u64 is=is:=by rw[zG];show IntKind.u64.wrap is=is;rw[IntKind.wrap_u64];omega
   obtain⟨bb,qw⟩:∃bb,l[iq.toNat]?=some bb:=⟨_,List.getElem?_eq_getElem (show iq.toNat<l.length by omega)⟩;have hbr:rs[iq.toNat]?=some [.int .u8 bb]:=(by rw[yD,List.getElem?_map,qw];rfl);have hbk:=hl bb (List.mem_of_getElem? qw)
   have q5:zB .rem .i64 (zD .i64 (zB .shr .u8 bb is)) 2=un:=by
    have e1:l.getD (i.toNat/8) 0=bb:=by rw[show i.toNat/8=iq.toNat by omega,List.getD_eq_getElem?_getD,qw];rfl
    have e2:zB .shr .u8 bb is=((bb.toNat/2 ^ is.toNat:Nat):Int):=by
     rw[zC];show bb.fdiv (2 ^ (min is.toNat 8))=_;rw[Nat.min_eq_left Z.o,Int.fdiv_eq_ediv_of_nonneg _ (by exact Int.le_of_lt (Int.pow_pos Z.d))];rw[Int.natCast_ediv,Int.toNat_of_nonneg hbk.1,Int.natCast_pow];rfl
    have e3:bb.toNat/2 ^ is.toNat<=255:=Nat.le_trans (Nat.div_le_self _ _) Z.o
    have e4:zD .i64 ((bb.toNat/2 ^ is.toNat:Nat):Int)=((bb.toNat/2 ^ is.toNat:Nat):Int):=by
     obtain⟨q,eq⟩:∃q:Nat,q=bb.toNat/2 ^ is.toNat:=⟨_,rfl⟩;rw[<- eq] at e3 ⊢;rw[zG];show IntKind.i64.wrap _=_;rw[IntKind.wrap_i64];omega
    rw[e2,e4,zC,D8 (Int.natCast_nonneg _),eun,eu,if_pos h8,e1]
    have e5:(Cj bb).getLsbD (7-i.toNat%8)=decide (bb.toNat/2 ^ is.toNat%2=1):=by
     rw[show 7-i.toNat%8=is.toNat by omega];unfold Cj;rw[BitVec.getLsbD,BitVec.toNat_ofNat,Nat.mod_eq_of_lt Z.o,Nat.testBit_eq_decide_div_mod_eq]
    rw[e5];obtain⟨q,eq⟩:∃q:Nat,q=bb.toNat/2 ^ is.toNat:=⟨_,rfl⟩;rw[<- eq];rcases Nat.mod_two_eq_zero_or_one q with h1|h1
    ·rw[h1];simp;omega
    ·rw[h1];simp;omega
   repeat' (first
    | (refine Nz.mk Z.d ?_)
    | (refine Nn.mk Z.o ?_)
    | (refine Idx.mk _ Z.o hbr ?_;cbv)
    | (simp only[q1])
    | (simp only[q2,q3,q4]))
   simp only[q5,e16];cases b16
   ·have yJ:un=tn:=go false vk un rfl
    rw[yJ];cbv;simp only[m1,m2,ecz];cases bz
    ·have hs:=small (by rcases Int.lt_or_le z 65536 with h|h;exact h;exact absurd (xe.1 h) Z.d)
     have hz2:z=y2:=(by rw[mV,hs.1];exact hs.2);cbv;simp only[a4];refine hN (i2,x2,y2) _ _ ?hx ?hi hT
     case hx=>exact Z.i
     case hi=>exact⟨by simp only;omega,by simp only;omega,hx2,mV⟩
    ·have hs:=big (xe.2 rfl)
     cbv;simp only[m3];refine Call.stepE (by rw[<- hP];exact Mi x1 4129#16 z2 4129 y2 (by rw[wy];exact hs.2) rfl (by rw[mV,hs.1])) rfl ?_;cbv;simp only[a4];refine hN (i2,x2,y2) _ _ ?hx ?hi hT
     case hx=>exact Z.i
     case hi=>exact⟨by simp only;omega,by simp only;omega,hx2,mV⟩
   ·have yJ:zB .sub .i64 1 un=tn:=go true vk un rfl
    cbv;simp only[yJ];cbv;simp only[m1,m2,ecz];cases bz
    ·have hs:=small (by rcases Int.lt_or_le z 65536 with h|h;exact h;exact absurd (xe.1 h) Z.d)
     have hz2:z=y2:=(by rw[mV,hs.1];exact hs.2);cbv;simp only[a4];refine hN (i2,x2,y2) _ _ ?hx ?hi hT
     case hx=>exact Z.i
     case hi=>exact⟨by simp only;omega,by simp only;omega,hx2,mV⟩
    ·have hs:=big (xe.2 rfl)
     cbv;simp only[m3];refine Call.stepE (by rw[<- hP];exact Mi x1 4129#16 z2 4129 y2 (by rw[wy];exact hs.2) rfl (by rw[mV,hs.1])) rfl ?_;cbv;simp only[a4];refine hN (i2,x2,y2) _ _ ?hx ?hi hT
     case hx=>exact Z.i
     case hi=>exact⟨by simp only;omega,by simp only;omega,hx2,mV⟩
  ·have c8:zE .lss i m=false:=by rw[zA];simp[AC];omega
   have hu0:un=0:=(by rw[eun,eu,if_neg h8];rfl);simp only[c8];cbv;simp only[e16];cases b16
   ·have yJ:un=tn:=go false vk un rfl
    have yJ:0=tn:=(by rw[<- hu0];exact yJ);simp only[yJ];cbv;simp only[m1,m2,ecz];cases bz
    ·have hs:=small (by rcases Int.lt_or_le z 65536 with h|h;exact h;exact absurd (xe.1 h) Z.d)
     have hz2:z=y2:=(by rw[mV,hs.1];exact hs.2);cbv;simp only[a4];refine hN (i2,x2,y2) _ _ ?hx ?hi hT
     case hx=>exact Z.i
     case hi=>exact⟨by simp only;omega,by simp only;omega,hx2,mV⟩
    ·have hs:=big (xe.2 rfl)
     cbv;simp only[m3];refine Call.stepE (by rw[<- hP];exact Mi x1 4129#16 z2 4129 y2 (by rw[wy];exact hs.2) rfl (by rw[mV,hs.1])) rfl ?_;cbv;simp only[a4];refine hN (i2,x2,y2) _ _ ?hx ?hi hT
     case hx=>exact Z.i
     case hi=>exact⟨by simp only;omega,by simp only;omega,hx2,mV⟩
   ·have yJ:zB .sub .i64 1 0=tn:=by rw[<- hu0];exact go true vk un rfl
    cbv;simp only[yJ];cbv;simp only[m1,m2,ecz];cases bz
    ·have hs:=small (by rcases Int.lt_or_le z 65536 with h|h;exact h;exact absurd (xe.1 h) Z.d)
     have hz2:z=y2:=(by rw[mV,hs.1];exact hs.2);cbv;simp only[a4];refine hN (i2,x2,y2) _ _ ?hx ?hi hT
     case hx=>exact Z.i
     case hi=>exact⟨by simp only;omega,by simp only;omega,hx2,mV⟩
    ·have hs:=big (xe.2 rfl)
     cbv;simp only[m3];refine Call.stepE (by rw[<- hP];exact Mi x1 4129#16 z2 4129 y2 (by rw[wy];exact hs.2) rfl (by rw[mV,hs.1])) rfl ?_;cbv;simp only[a4];refine hN (i2,x2,y2) _ _ ?hx ?hi hT
     case hx=>exact Z.i
     case hi=>exact⟨by simp only;omega,by simp only;omega,hx2,mV⟩
 ·refine hE _ _ _ ?_
  cbv;refine⟨_,Vw.same rfl,hR _ ?_⟩;have e1:i.toNat=8*l.length+16:=(by omega);rw[hy,hx,er,e1,jF l hl];rfl
def Em(b:List Int):List AV:=[.list 1 (b.map AZ)]
theorem IL(l:List (List Int)):Up0 (l.map Em):=BM (f:=Em) (λd=>by simp only[Em,Af,AV.upto,(Ao d).get];rfl) l
def Al:Nat->Int->List Int
 | 0,_=>[]
 | n+1,v=>Al n (v/256)++[v%256]
theorem wrap_u8{b:Int}(h0:0<=b)(h1:b<=255):IntKind.u8.wrap b=b:=by
 rw[IntKind.wrap_u8];omega
theorem Ez:∀n v,(Al n v).length=n
 | 0,_=>rfl
 | n+1,v=>by simp[Al,Ez n]
theorem Fh:∀n v,Ar (Al n v)
 | 0,_=>λx h=>by simp[Al] at h
 | n+1,v=>λx h=>by
   rcases List.mem_append.1 h with h|h
   ·exact Fh n _ x h
   ·simp at h;omega
theorem R8(k:Nat)(tl:List Int)(b:Int):((List.replicate (k+1) 0++tl).map AZ).set k (AZ b)=((List.replicate k 0++b::tl).map AZ):=by
 apply List.ext_getElem?;intro i;rw[List.getElem?_set];simp only[List.getElem?_map,List.length_map,List.length_append,List.length_replicate];by_cases h:k=i
 ·subst h
  rw[if_pos rfl,if_pos Z.o,List.getElem?_append_right (by simp)];simp
 ·rw[if_neg h]
  congr 1
  by_cases h2:i<k
  ·rw[List.getElem?_append_left (by simp;omega),List.getElem?_append_left (by simp;omega),List.getElem?_replicate,List.getElem?_replicate,if_pos Z.o,if_pos h2]
  ·rw[List.getElem?_append_right (by simp;omega),List.getElem?_append_right (by simp;omega)]
   simp only[List.length_replicate];rw[show i-k=(i-(k+1))+1 by omega,List.getElem?_cons_succ]
theorem R9(k:Nat)(tl:List Int):((List.replicate (k+1) 0++tl).map AZ)[k]?=some (AZ 0):=by
 rw[List.getElem?_map,List.getElem?_append_left (by simp),List.getElem?_replicate,if_pos Z.o];rfl
theorem GQ(v n:Int)(hv: -9223372036854775808<=v/\v<=9223372036854775807)(xP:0<=n)(qC:n<=1000)(us:List (List AV))(kZ:us=(Al n.toNat v).map AZ):A9 Tryz.prog 66 [v,n] (· = .list 1 us):=by
 obtain⟨n0,en0⟩:=Z.f n.toNat;rw[en0] at kZ;have hl:=Ez n0 v;refine Z.y Tryz.func66 λzB _ _ zD _ _ hw zC zA _ zG _ _ hz R hR P hP=>?_;cbv;refine Mk.mk (List.replicate n0 [.int .u8 0]) n0 xP (Int.le_refl _) Z.o Z.o en0.symm rfl ?_;obtain⟨os,eos⟩:=Z.f (List.replicate n0 [AV.int .u8 0]);have kV:os=(List.replicate n0 0++([]:List Int)).map AZ:=by rw[<- eos,List.append_nil,List.map_replicate];rfl
 have lY:Up0 os:=by rw[kV];exact Ao _
 rw[eos];clear eos;obtain⟨i0,ei0⟩:=Z.e (n-1);have s0:zB .sub .i64 n 1=i0:=by rw[zC,Bj Z.o Z.o,ei0]
 cbv;by_cases hs:v<0
 ·have d1:=W.lt zA hs
  obtain⟨w0,ew0⟩:∃x,x = -1-v:=⟨_,rfl⟩;have s1:zB .sub .i64 (-1) v=w0:=(by rw[zC,Bj Z.o Z.o,ew0]);simp only[d1,s0,s1];cbv;simp only[s0,s1]
  refine Ae.data hw (S:=Int×Int×List (List AV)) (λs=>fr 46 [(5,.sl 0 1 0 n0),(6,s.2.1),(7,s.1)]) (λs=>[.live 1 s.2.2])
   (λs=> -1<=s.1/\s.1<n/\0<=s.2.1/\s.2.1<=9223372036854775807/\∃tl:List Int,s.2.2=(List.replicate (s.1+1).toNat 0++tl).map AZ/\Al (s.1+1).toNat (-1-s.2.1)++tl=Al n0 v) (λs=>(s.1+1).toNat) (i0,w0,os) Z.i
   ⟨by simp only;omega,by simp only;omega,by simp only;omega,by simp only;omega,[],by simp only;rw[kV,show (i0+1).toNat=n0 by omega],by simp only;rw[List.append_nil,show (i0+1).toNat=n0 by omega,show -1-w0=v by omega]⟩ ?_
  rintro⟨i,w,o⟩ zJ Q' hN hE hR'
  have zJ: -1<=i/\i<n/\0<=w/\w<=9223372036854775807/\∃tl:List Int,o=(List.replicate (i+1).toNat 0++tl).map AZ/\Al (i+1).toNat (-1-w)++tl=Al n0 v:=zJ;obtain⟨zW,yZ,ny,lU,tl,ho,hp⟩:=zJ;have lY:Up0 o:=(by rw[ho];exact Ao _);by_cases hc:0<=i
  ·obtain⟨k,ek⟩:=Z.f i.toNat
   rw[show (i+1).toNat=k+1 by omega] at ho hp;obtain⟨r,er⟩:=Z.e (w%256);obtain⟨b,eb⟩:=Z.e (255-r);obtain⟨w2,lN⟩:=Z.e (w/256);obtain⟨i2,kW⟩:=Z.e (i-1);have hT:(i2+1).toNat<(i+1).toNat:=(by omega);obtain⟨o2,uj⟩:=Z.e (o.set k (AZ b));have qB:o2=(List.replicate k 0++b::tl).map AZ:=(by rw[uj,ho];exact R8 k tl b);have huo2:Up0 o2:=(by rw[qB];exact Ao _);have zL:o[k]?=some [.int .u8 0]:=by rw[ho];exact R9 k tl
   have mH:Al k (-1-w2)++b::tl=Al n0 v:=by
    rw[<- hp];show _=(Al k ((-1-w)/256)++[(-1-w)%256])++tl;rw[show (-1-w)/256 = -1-w2 by omega,show (-1-w)%256=b by omega,List.append_assoc];rfl
   have hk:k<n0:=(by omega);have mX:0<=w2/\w2<=9223372036854775807:=(by omega);have d2:=W.ge zA hc;have r1:zB .rem .i64 w 256=r:=(by rw[zC,er];exact D8 ny);have r2:zB .sub .i64 255 r=b:=(by rw[zC,Bj Z.o Z.o,eb]);have r3:zD .u8 b=b:=(by rw[zG];exact wrap_u8 Z.o Z.o);have r4:zB .quo .i64 w 256=w2:=(by rw[zC,DX ny Z.d Z.o,lN]);have r5:zB .sub .i64 i 1=i2:=(by rw[zC,Bj Z.o Z.o,kW]);clear ho hp er lN;cbv;repeat' (first|(simp only[d2,r1,r2,r3,r4,r5];cbv)|(refine Nz.mk Z.d ?_;cbv)|(refine At.mk k hc Z.o (by rw[Nat.zero_add];exact ek) ?_;cbv)|(refine Ie.mk [.int .u8 0] o2 zL uj ?_;cbv)|fail)
   refine hN (i2,w2,o2) _ _ ?hx ?hi hT
   case hx=>exact Z.i
   case hi=>exact⟨by simp only;omega,by simp only;omega,by simp only;omega,by simp only;omega,b::tl,by simp only;rw[qB,show (i2+1).toNat=k by omega],by simp only;rw[show (i2+1).toNat=k by omega];exact mH⟩
  ·have d2:=W.nge zA (show i<0 by omega)
   rw[show (i+1).toNat=0 by omega] at ho hp;have yP:o=us:=(by rw[ho,kZ,<- hp];rfl);have hol:o.length=n0:=(by rw[yP,kZ,List.length_map,hl]);clear ho hp;cbv;simp only[d2];refine hE _ _ _ ?_;cbv;refine⟨_,Vw.sl rfl lY.get Z.o,hR _ ?_⟩;rw[List.drop_zero,List.take_of_length_le Z.o,yP]
 ·have d1:=W.nlt zA (show 0<=v by omega)
  simp only[d1,s0];cbv;simp only[s0]
  refine Ae.data hw (S:=Int×Int×List (List AV)) (λs=>fr 46 [(0,s.2.1),(5,.sl 0 1 0 n0),(8,s.1)]) (λs=>[.live 1 s.2.2])
   (λs=> -1<=s.1/\s.1<n/\0<=s.2.1/\s.2.1<=9223372036854775807/\∃tl:List Int,s.2.2=(List.replicate (s.1+1).toNat 0++tl).map AZ/\Al (s.1+1).toNat s.2.1++tl=Al n0 v) (λs=>(s.1+1).toNat) (i0,v,os) Z.i
   ⟨by simp only;omega,by simp only;omega,by simp only;omega,by simp only;omega,[],by simp only;rw[kV,show (i0+1).toNat=n0 by omega],by simp only;rw[List.append_nil,show (i0+1).toNat=n0 by omega]⟩ ?_
  rintro⟨i,w,o⟩ zJ Q' hN hE hR'
  have zJ: -1<=i/\i<n/\0<=w/\w<=9223372036854775807/\∃tl:List Int,o=(List.replicate (i+1).toNat 0++tl).map AZ/\Al (i+1).toNat w++tl=Al n0 v:=zJ;obtain⟨zW,yZ,ny,lU,tl,ho,hp⟩:=zJ;have lY:Up0 o:=(by rw[ho];exact Ao _);by_cases hc:0<=i
  ·obtain⟨k,ek⟩:=Z.f i.toNat
   rw[show (i+1).toNat=k+1 by omega] at ho hp;obtain⟨b,eb⟩:=Z.e (w%256);obtain⟨w2,lN⟩:=Z.e (w/256);obtain⟨i2,kW⟩:=Z.e (i-1);have hT:(i2+1).toNat<(i+1).toNat:=(by omega);obtain⟨o2,uj⟩:=Z.e (o.set k (AZ b));have qB:o2=(List.replicate k 0++b::tl).map AZ:=(by rw[uj,ho];exact R8 k tl b);have huo2:Up0 o2:=(by rw[qB];exact Ao _);have zL:o[k]?=some [.int .u8 0]:=by rw[ho];exact R9 k tl
   have mH:Al k w2++b::tl=Al n0 v:=by
    rw[<- hp];show _=(Al k (w/256)++[w%256])++tl;rw[<- lN,<- eb,List.append_assoc];rfl
   have hk:k<n0:=(by omega);have mX:0<=w2/\w2<=9223372036854775807:=(by omega);have d2:=W.ge zA hc;have r1:zB .rem .i64 w 256=b:=(by rw[zC,eb];exact D8 ny);have r3:zD .u8 b=b:=(by rw[zG];exact wrap_u8 Z.o Z.o);have r4:zB .quo .i64 w 256=w2:=(by rw[zC,DX ny Z.d Z.o,lN]);have r5:zB .sub .i64 i 1=i2:=(by rw[zC,Bj Z.o Z.o,kW]);clear ho hp eb lN;cbv;repeat' (first|(simp only[d2,r1,r3,r4,r5];cbv)|(refine Nz.mk Z.d ?_;cbv)|(refine At.mk k hc Z.o (by rw[Nat.zero_add];exact ek) ?_;cbv)|(refine Ie.mk [.int .u8 0] o2 zL uj ?_;cbv)|fail)
   refine hN (i2,w2,o2) _ _ ?hx ?hi hT
   case hx=>exact Z.i
   case hi=>exact⟨by simp only;omega,by simp only;omega,by simp only;omega,by simp only;omega,b::tl,by simp only;rw[qB,show (i2+1).toNat=k by omega],by simp only;rw[show (i2+1).toNat=k by omega];exact mH⟩
  ·have d2:=W.nge zA (show i<0 by omega)
   rw[show (i+1).toNat=0 by omega] at ho hp;have yP:o=us:=(by rw[ho,kZ,<- hp];rfl);have hol:o.length=n0:=(by rw[yP,kZ,List.length_map,hl]);clear ho hp;cbv;simp only[d2];refine hE _ _ _ ?_;cbv;refine⟨_,Vw.sl rfl lY.get Z.o,hR _ ?_⟩;rw[List.drop_zero,List.take_of_length_le Z.o,yP]
end Go.Proofs.YtlchlddijclhjaaGreat
