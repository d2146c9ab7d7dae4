/- Parts of the proofs. -/
import Derived.Test.YtlchlddijclhjaaGreatQ9
import Derived.KernelRfl
import Derived.Test.YtlchlddijclhjaaGreatQ13
import Derived.Test.YtlchlddijclhjaaGreatQ7
import Derived.Test.YtlchlddijclhjaaGreatQ8
import Derived.Test.YtlchlddijclhjaaGreatQZ
set_option linter.unusedVariables false
set_option linter.unusedSimpArgs false
set_option maxHeartbeats 4000000
namespace Go.Eng
open Go Go.RowKit
variable {P:Program}
def Ur(P:Program)(Y:AV)(h:A7)(z:Nat)(fs:List (List AV)):Prop:=
 ∀(C:Cfg) (sv:Value) (k:Nat),C.h=h->Rel C->VR C Y sv->k<=fs.length->(Builtin.lenOf sv).run P C.w = .ok fs.length C.w/\∃news:List Value,(Builtin.firstCells z k sv).run P C.w = .ok news.toArray C.w/\news.length=k*z /\
    (∀(i:Nat) (r:List AV),(fs.take k)[i]?=some r->∀(j:Nat) (u:AV),r[j]?=some u->∃v,news[i*z+j]?=some v/\VR C u v)/\(∀r,r∈fs.take k->r.length=z)
theorem Ur.list{h:A7}{z:Nat}{fs:List (List AV)}(hz:0<z):Ur P (.list z fs) h z fs:=by
 intro C sv k hC RC hY hk;have htl:(fs.take k).length=k:=by simp;omega
 rcases hY.lists with ⟨⟨a0,c0,k1⟩,k2⟩|⟨a,cap',f,k1,hcap',hsp,hzz,hcell,hown,hvv⟩
 ·subst k2
  have hk0:k=0:=(by simpa using hk);refine⟨by rw[k1];simp[Builtin.lenOf],[],?_,by rw[hk0];simp,λi r hr=>by simp at hr,λr hr=>by simp at hr⟩;rw[hk0,k1]
  cases a0<;>simp[Builtin.firstCells,loadCells,loadCellsFrom]
 ·have hzz':∀r,r∈fs.take k->r.length=z:=λr hr=>hzz r (List.mem_of_mem_take hr)
  obtain⟨news,n1,n2,n3⟩:=VR.news (c:=C) (es:=fs.take k) (a:=a) (f:=f) hz hsp hzz' (λi j hi hj=>hcell i j (by rw[htl] at hi;omega) hj) (λi r hr=>hvv i r (by rw[List.getElem?_take] at hr;split at hr;exact hr;cases hr));rw[htl] at n1;rw[k1];exact⟨by simp[Builtin.lenOf],news,run_firstCells_some (P:=P) C.w z k a fs.length cap' news n1 n2,n1,n3,hzz'⟩
end Go.Eng
namespace Go.Proofs.YtlchlddijclhjaaGreat
open Go Go.RowKit Go.Eng
set_option maxRecDepth 100000
def bi(v:BitVec 16):Int:=(v.toNat:Int)
theorem Ph(v:BitVec 16):BitVec.ofInt 16 (bi v)=v:=by
 unfold bi;rw[BitVec.ofInt_natCast,BitVec.ofNat_toNat,BitVec.setWidth_eq]
theorem Hd(v:BitVec 16):0<=bi v/\bi v<65536:=by have:=v.isLt;unfold bi;omega
theorem Us(v w:BitVec 16):AF .xor .u16 (bi v) (bi w)=bi (v ^^^ w):=by
 show IntKind.u16.wrap (BitVec.ofInt 16 (bi v) ^^^ BitVec.ofInt 16 (bi w)).toNat=_;rw[Ph,Ph,IntKind.wrap_u16];have:=(v ^^^ w).isLt;unfold bi;omega
theorem Ut(v:BitVec 16)(n:Int)(k:Nat)(hn:n=k)(hk:k<=16):AF .shl .u16 (bi v) n=bi (v <<< k):=by
 subst hn;show IntKind.u16.wrap (bi v*2 ^ (min (k:Int).toNat 16))=_;rw[IntKind.wrap_u16,Int.toNat_natCast,Nat.min_eq_left hk];unfold bi;rw[BitVec.toNat_shiftLeft,Nat.shiftLeft_eq,Int.natCast_emod,Int.natCast_mul,Int.natCast_pow];rfl
theorem j6(v:BitVec 16):AF .and .u16 (bi v) 32768=if v.msb then 32768 else 0:=by
 show IntKind.u16.wrap (BitVec.ofInt 16 (bi v) &&& BitVec.ofInt 16 32768).toNat=_;rw[Ph,IntKind.wrap_u16]
 have h1:v &&& BitVec.ofInt 16 32768=if v.msb then 32768#16 else 0#16:=by
  apply BitVec.eq_of_getLsbD_eq;intro i hi;rw[BitVec.getLsbD_and,BitVec.msb_eq_getLsbD_last]
  have h2:(BitVec.ofInt 16 32768).getLsbD i=decide (i=15):=by
   have:i=0\/i=1\/i=2\/i=3\/i=4\/i=5\/i=6\/i=7\/i=8\/i=9\/i=10\/i=11\/i=12\/i=13\/i=14\/i=15:=(by omega);rcases this with h|h|h|h|h|h|h|h|h|h|h|h|h|h|h|h<;>(rw[h];rfl)
  rw[h2];by_cases h:i=15
  ·subst h;cases v.getLsbD 15<;>simp
  ·cases v.getLsbD (16-1)<;>simp[h]
   have h3:(32768#16).getLsbD i=decide (i=15):=h2;rw[h3];simp[h]
 rw[h1];cases v.msb<;>rfl
theorem Uu{b:Int}(h:0<=b/\b<=255):b=bi (BitVec.ofNat 16 b.toNat)/\(BitVec.ofNat 16 b.toNat).toNat<256:=by
 have:(BitVec.ofNat 16 b.toNat).toNat=b.toNat:=by rw[BitVec.toNat_ofNat];omega
 unfold bi;omega
def Cj(b:Int):BitVec 16:=BitVec.ofNat 16 b.toNat
theorem jA:∀(n:Nat) (a:BitVec 16),crN (n+1) a=crS (crN n a):=λn a=>by rw[Jw n 1 a];rfl
theorem jB(v:BitVec 16)(s b r:Int)(es:s=bi v)(hb:0<=b/\b<=255)(er:r=bi (crB v (Cj b))):A9 Tryz.prog 184 [.int .u16 s,.int .u8 b] (· = .int .u16 r):=by
 refine Z.y Tryz.func184 λzB zE _ zD _ _ hw zC zA _ zG _ _ hz R hR P hP=>?_;cbv;refine Nn.mk Z.d ?_;obtain⟨x0,ex0⟩:=Z.e (v ^^^ (Cj b <<< 8));obtain⟨y0,ey0⟩:=Z.e (bi x0)
 have a1:zB .xor .u16 s (zB .shl .u16 (zD .u16 b) 8)=y0:=by
  have h1:zD .u16 b=bi (Cj b):=by rw[zG];show IntKind.u16.wrap b=_;rw[IntKind.wrap_u16];have:=(Uu hb).1;unfold Cj;omega
  rw[h1,zC,Ut _ 8 8 rfl Z.d,es,Us,ey0,ex0]
 simp only[a1]
 refine Ae.data hw (S:=Int×BitVec 16×Int) (λs=>fr 22 [(0,.int .u16 s.2.2),(10,s.1)]) (λ_=>[])
  (λs=>0<=s.1/\s.1<=8/\s.2.1=crN s.1.toNat x0/\s.2.2=bi s.2.1) (λs=>(8-s.1).toNat) (0,x0,y0) Z.i ⟨Int.le_refl _,(show (0:Int)<=8 by decide),rfl,ey0⟩ ?_
 rintro⟨i,x,y⟩ zJ Q' hN hE hR'
 have zJ:0<=i/\i<=8/\x=crN i.toNat x0/\y=bi x:=zJ;cbv;obtain⟨zW,yZ,hx,hy⟩:=zJ;(split<;>rename_i hc<;>(try (simp only[hz,Z.a,AF,AC,AO,AP,AL,reduceCtorEq] at hc))<;>(try cbv))
 ·obtain⟨i2,ei2⟩:=Z.e (i+1)
  have a4:zB .add .i64 i 1=i2:=(by rw[zC,Ag Z.o Z.o,ei2]);have hT:(8-i2).toNat<(8-i).toNat:=(by omega);obtain⟨x2,ex2⟩:=Z.e (crS x);obtain⟨y2,ey2⟩:=Z.e (bi x2);have hx2:x2=crN i2.toNat x0:=(by rw[ex2,hx,show i2.toNat=i.toNat+1 by omega,jA]);have top:zB .and .u16 y 32768=if x.msb then 32768 else 0:=by rw[zC,hy,j6]
  have sh:zB .shl .u16 y 1=bi (x <<< 1):=by rw[zC,hy,Ut _ 1 1 rfl Z.d]
  have b1:x.msb=true->zB .xor .u16 (zB .shl .u16 y 1) 4129=y2:=λh=>by
   rw[sh,zC,show (4129:Int)=bi 4129#16 from rfl,Us,ey2,ex2];unfold crS;rw[h];rfl
  have b2:x.msb=false->zB .shl .u16 y 1=y2:=λh=>by
   rw[sh,ey2,ex2];unfold crS;rw[h];simp
  obtain⟨m,em⟩:=Z.f x.msb;rw[em] at b1 b2 top;have c1:zE .neq (zB .and .u16 y 32768) 0=m:=(by rw[top,zA];cases m<;>rfl);simp only[c1];cases m
  ·cbv
   refine Nn.mk Z.d ?_;simp only[b2 rfl,a4];refine hN (i2,x2,y2) _ _ ?hx ?hi hT
   case hx=>exact Z.i
   case hi=>exact⟨by simp only;omega,by simp only;omega,hx2,ey2⟩
  ·cbv
   refine Nn.mk Z.d ?_;simp only[b1 rfl,a4];refine hN (i2,x2,y2) _ _ ?hx ?hi hT
   case hx=>exact Z.i
   case hi=>exact⟨by simp only;omega,by simp only;omega,hx2,ey2⟩
 ·refine hE _ _ _ ?_
  cbv;have e8:i.toNat=8:=(by omega);refine⟨_,Vw.same rfl,hR _ ?_⟩;rw[hy,hx,e8,ex0,er];rfl
def AZ(b:Int):List AV:=[.int .u8 b]
theorem Ao(l:List Int):Up0 (l.map AZ):=BM (f:=AZ) (λd=>rfl) l
theorem LK{α: Type}{l:List α}{i:Int}{x: α}(h0:0<=i)(h:l[i.toNat]?=some x):l.take (i+1).toNat=l.take i.toNat++[x]:=by
 have e:(i+1).toNat=i.toNat+1:=by omega
 rw[e,List.take_add_one,h];rfl
def Ar(l:List Int):Prop:=∀b,b∈l->0<=b/\b<=255
def crF(v:BitVec 16)(l:List Int):BitVec 16:=crL v (l.map Cj)
theorem e_go(l:List Int)(hl:Ar l)(h47:l.length<=1099511627776)(v:BitVec 16)(s r:Int)(es:s=bi v)(rs:List (List AV))(yD:rs=l.map AZ)(er:r=bi (crF v l)):A9 Tryz.prog 129 [.int .u16 s,.list 1 rs] (· = .int .u16 r):=by
 have hu:Up0 rs:=by rw[yD];exact Ao l
 refine Z.y Tryz.func129 λzB _ _ _ _ zK hw zC _ _ _ _ zH hz R hR P hP=>?_;cbv
 (obtain⟨L,eL,L0,Ln⟩:∃L:Int,zK rs=L/\0<=L/\L.toNat=rs.length:=⟨(rs.length:Int),by rw[zH],Int.natCast_nonneg _,Int.toNat_natCast _⟩)
 simp only[eL];have hrl:rs.length=l.length:=by rw[yD];simp
 refine Ae.data hw (S:=Int×BitVec 16×Int) (λs=>fr 18 [(0,.int .u16 s.2.2),(7,.list 1 rs),(8,L),(9,s.1)]) (λ_=>[])
  (λs=>0<=s.1/\s.1<=L/\s.2.1=crF v (l.take s.1.toNat)/\s.2.2=bi s.2.1) (λs=>(L-s.1).toNat) (0,v,s) Z.i ⟨Int.le_refl _,L0,rfl,es⟩ ?_
 rintro⟨i,x,y⟩ zJ Q' hN hE hR'
 have zJ:0<=i/\i<=L/\x=crF v (l.take i.toNat)/\y=bi x:=zJ;cbv;obtain⟨zW,yZ,hx,hy⟩:=zJ;(split<;>rename_i hc<;>(try (simp only[hz,Z.a,AF,AC,AO,AP,AL,reduceCtorEq] at hc))<;>(try cbv))
 ·obtain⟨i2,ei2⟩:=Z.e (i+1)
  have a4:zB .add .i64 i 1=i2:=by rw[zC,ei2];show IntKind.i64.wrap (i+1)=i+1;rw[IntKind.wrap_i64];omega
  have hT:(L-i2).toNat<(L-i).toNat:=(by omega);obtain⟨b,hb⟩:∃b,l[i.toNat]?=some b:=⟨_,List.getElem?_eq_getElem (show i.toNat<l.length by omega)⟩;have hbr:rs[i.toNat]?=some [.int .u8 b]:=(by rw[yD,List.getElem?_map,hb];rfl);have hbb:=hl b (List.mem_of_getElem? hb);obtain⟨x2,ex2⟩:=Z.e (crB x (Cj b));obtain⟨y2,ey2⟩:=Z.e (bi x2)
  have hx2:x2=crF v (l.take i2.toNat):=by
   rw[ex2,hx,ei2,LK zW hb];unfold crF crL;rw[List.map_append,List.foldl_append];rfl
  refine Idx.mk _ zW hbr ?_;cbv;refine Call.stepE (by rw[<- hP];exact jB x y b y2 hy hbb (by rw[ey2,ex2])) rfl ?_;cbv;simp only[a4];refine hN (i2,x2,y2) _ _ ?hx ?hi hT
  case hx=>exact Z.i
  case hi=>exact⟨by simp only;omega,by simp only;omega,hx2,ey2⟩
 ·refine hE _ _ _ ?_
  cbv;refine⟨_,Vw.same rfl,hR _ ?_⟩;rw[hy,hx,er,List.take_of_length_le Z.o];rfl
theorem NF(l:List Int)(hl:Ar l)(h47:l.length<=1099511627776)(r:Int)(rs:List (List AV))(yD:rs=l.map AZ)(er:r=bi (crF 65535#16 l)):A9 Tryz.prog 74 [.list 1 rs] (· = .int .u16 r):=by
 have hu:Up0 rs:=by rw[yD];exact Ao l
 refine Z.y Tryz.func74 λ_ _ _ _ _ _ _ _ _ _ _ _ _ _ R hR P hP=>?_;cbv;refine Call.stepE (by rw[<- hP];exact e_go l hl h47 65535#16 65535 r rfl rs yD er) (by exact Up0.one hu rfl) ?_;cbv;exact Z.r hR
def JW(v:BitVec 16):List Int:=[bi (v >>> 8),bi (v &&& 255#16)]
theorem YP(l:List Int):crF 65535#16 (l++JW (crF 65535#16 l))=0#16:=by
 obtain⟨v,ev⟩:=Z.e (crF 65535#16 l);rw[<- ev]
 have e:crF 65535#16 (l++JW v)=crB (crB v (v >>> 8)) (v &&& 255#16):=by
  have h1:∀w:BitVec 16,Cj (bi w)=w:=λw=>(by unfold Cj bi;rw[Int.toNat_natCast];exact BitVec.eq_of_toNat_eq (by rw[BitVec.toNat_ofNat];have:=w.isLt;omega));rw[ev];unfold crF crL JW;rw[List.map_append,List.foldl_append];simp only[List.map_cons,List.map_nil,List.foldl_cons,List.foldl_nil,h1]
 rw[e];exact j3 v
def Da(k:Int):Int:=if k=1\/k=2\/k=5 then 2 else if k=3\/k=4 then 4 else 0
def be(l:List Int):Int:=l.foldl (λv b=>v*256+b) 0
def D_(v:Int):Int:=if 2147483648<=v then v-4294967296 else v
structure Fm where
 k:Int
 s:Int
 v:Int
 e:Int
def frV(l:List Int):Fm:=
 if l.length<5 then ⟨0,0,0,14⟩
 else if Da (l.getD 0 0)=0 then ⟨0,0,0,30⟩
 else if l.getD 2 0≠Da (l.getD 0 0)\/(l.length:Int)≠5+Da (l.getD 0 0) then ⟨0,0,0,11⟩
 else if crF 65535#16 l≠0#16 then ⟨0,0,0,31⟩
 else ⟨l.getD 0 0,l.getD 1 0,if Da (l.getD 0 0)=4 then D_ (be ((l.drop 3).take 4)) else be ((l.drop 3).take 2),0⟩
theorem MJ(k:Int):Da k=0\/(Da k=2/\(k=1\/k=2\/k=5))\/(Da k=4/\(k=3\/k=4)):=by
 unfold Da;(repeat' split)<;>omega
theorem Jy{a b:Int}(h0:0<=a)(h1:a<16777216)(h2:0<=b)(h3:b<256):AF .or .u32 (AF .shl .u32 a 8) b=a*256+b:=by
 have e1:AF .shl .u32 a 8=a*256:=by
  show IntKind.u32.wrap (a*2 ^ (min (8:Int).toNat 32))=_;rw[IntKind.wrap_u32];show a*256%4294967296=_;omega
 rw[e1];show IntKind.u32.wrap (BitVec.ofInt 32 (a*256) ||| BitVec.ofInt 32 b).toNat=_;obtain⟨an,rfl⟩:=Int.eq_ofNat_of_zero_le h0;obtain⟨bn,rfl⟩:=Int.eq_ofNat_of_zero_le h2;have e2:((an:Int)*256)=((an*256:Nat):Int):=by omega
 rw[e2,BitVec.ofInt_natCast,BitVec.ofInt_natCast,BitVec.toNat_or,BitVec.toNat_ofNat,BitVec.toNat_ofNat,Nat.mod_eq_of_lt Z.o,Nat.mod_eq_of_lt Z.o]
 have e3:an*256 ||| bn=an*256+bn:=by
  rw[Nat.mul_comm];exact(Nat.two_pow_add_eq_or_of_lt (i:=8) Z.o an).symm
 rw[e3,IntKind.wrap_u32];omega
theorem jC(k n:Int)(hn:n=Da k):A9 Tryz.prog 199 [k] (· = .int .i64 n):=by
 have hk:=MJ k;rw[<- hn] at hk;have hk0:n=0->¬(k=1\/k=2\/k=5\/k=3\/k=4):=λh=>by rw[hn] at h;unfold Da at h;(repeat' split at h)<;>omega
 refine Z.y Tryz.func199 λ_ _ _ _ _ _ _ _ _ _ _ _ _ hz R hR P hP=>?_;cbv;repeat' (split<;>rename_i h1<;>(try (simp only[hz,Z.a,AF,AC,AO,AP,AL,reduceCtorEq] at h1))<;>(try cbv))
 all_goals first
  | (exfalso;omega)
  | (obtain rfl:n=2:=by omega
     exact Z.r hR)
  | (obtain rfl:n=4:=by omega
     exact Z.r hR)
  | (obtain rfl:n=0:=by omega
     exact Z.r hR)
theorem jD(k:Int)(o:Bool)(ho:o=decide (Da k=4)):A9 Tryz.prog 200 [k] (· = .bool o):=by
 have hk:Da k=4↔k=3\/k=4:=by unfold Da;(repeat' split)<;>omega
 have ho':o=true↔(k=3\/k=4):=by rw[ho,decide_eq_true_eq,hk]
 clear ho;refine Z.y Tryz.func200 λ_ _ _ _ _ _ _ _ zA _ _ _ _ hz R hR P hP=>?_;cbv;(split<;>rename_i h1<;>(try (simp only[hz,Z.a,AF,AC,AO,AP,AL,reduceCtorEq] at h1))<;>(try cbv))
 ·exact⟨_,Vw.same rfl,hR _ (congrArg AV.bool (ho'.2 (.inl h1)).symm)⟩
 ·refine⟨_,Vw.same rfl,hR _ (congrArg AV.bool ?_)⟩
  rw[zA,Bool.eq_iff_iff,ho'];show (k == 4)=true↔_;rw[beq_iff_eq];omega
theorem Sn:∀(l:List Int),l.length=7->∃a b c d e f g,l=[a,b,c,d,e,f,g]
 | [a,b,c,d,e,f,g],_=>⟨_,_,_,_,_,_,_,rfl⟩
theorem Sq:∀(l:List Int),l.length=9->∃a b c d e f g h i,l=[a,b,c,d,e,f,g,h,i]
 | [a,b,c,d,e,f,g,h,i],_=>⟨_,_,_,_,_,_,_,_,_,rfl⟩
theorem jE(l:List Int)(hl:Ar l)(h47:l.length<=1000000)(rs:List (List AV))(yD:rs=l.map AZ)(v:Fm)(hv:v=frV l) :
 A9 Tryz.prog 137 [.list 1 rs] (· = .tuple [.agg [v.k,v.s,v.v],v.e]):=by
 have hu:Up0 rs:=by rw[yD];exact Ao _
 have hrl:rs.length=l.length:=by rw[yD];simp
 unfold frV at hv;by_cases h1:l.length<5
 ·rw[if_pos h1] at hv
  subst hv;refine Z.y Tryz.func137 λ_ _ _ _ _ zK _ _ zA _ _ _ zH hz R hR P hP=>?_;cbv
  (obtain⟨L,eL,L0,Ln⟩:∃L:Int,zK rs=L/\0<=L/\L.toNat=rs.length:=⟨(rs.length:Int),by rw[zH],Int.natCast_nonneg _,Int.toNat_natCast _⟩)
  have d1:=W.lt zA (show L<5 by omega);repeat' (first|(simp only[eL,d1];cbv)|fail)
  exact Z.r hR
 rw[if_neg h1] at hv;obtain⟨ll,ell⟩:∃x:Int,x=l.length:=⟨_,rfl⟩;have hll:ll.toNat=l.length/\0<=ll:=by omega
 rw[<- ell] at hv;clear ell;obtain⟨k,ek⟩:=Z.e (l.getD 0 0);obtain⟨s,es⟩:=Z.e (l.getD 1 0);obtain⟨z,ez⟩:=Z.e (l.getD 2 0)
 have hget:∀i:Nat,i<5->rs[i]?=some [.int .u8 (l.getD i 0)]/\0<=l.getD i 0/\l.getD i 0<=255:=λi hi=>by
  obtain⟨b,hb⟩:∃b,l[i]?=some b:=⟨_,List.getElem?_eq_getElem (show i<l.length by omega)⟩;have e:l.getD i 0=b:=(by rw[List.getD_eq_getElem?_getD,hb];rfl);rw[e];exact⟨by rw[yD,List.getElem?_map,hb];rfl,hl b (List.mem_of_getElem? hb)⟩
 have g0:=hget 0 Z.o;have g1:=hget 1 Z.o;have g2:=hget 2 Z.o;rw[<- ek] at g0 hv;rw[<- es] at g1 hv;rw[<- ez] at g2 hv;obtain⟨n,en⟩:=Z.e (Da k);have hk:=MJ k;rw[<- en] at hv hk;have q1:=jC k n en;obtain⟨sg,esg⟩:=Z.e (decide (Da k=4));have q2:=jD k sg esg;rw[<- en] at esg;obtain⟨c,ec⟩:=Z.e (bi (crF 65535#16 l));have q3:=NF l hl Z.o c rs yD ec
 have hc0:c=0↔crF 65535#16 l=0#16:=by
  rw[ec];unfold bi;constructor
  ·intro h;exact BitVec.eq_of_toNat_eq (by simp;omega)
  ·intro h;rw[h];rfl
 clear ek es ez en ec;by_cases h2:n=0
 ·rw[if_pos h2] at hv
  subst hv h2;refine Z.y Tryz.func137 λ_ _ _ zD _ zK _ _ zA _ zG _ zH hz R hR P hP=>?_;cbv
  (obtain⟨L,eL,L0,Ln⟩:∃L:Int,zK rs=L/\0<=L/\L.toNat=rs.length:=⟨(rs.length:Int),by rw[zH],Int.natCast_nonneg _,Int.toNat_natCast _⟩)
  have d1:=W.nlt zA (show 5<=L by omega);have d2:=W.eq zA (a:=0) rfl;have v1:zD .i64 k=k:=by rw[zG];show IntKind.i64.wrap k=k;rw[IntKind.wrap_i64];omega
  repeat' (first|(simp only[eL,d1,d2,v1];cbv)|(refine Call.s hP q1 ?_;cbv)|(refine AB.s hP q1 ?_;cbv)|(refine Idx.mk _ Z.d g0.1 ?_;cbv)|fail)
  exact Z.r hR
 rw[if_neg h2] at hv;obtain⟨n5,en5⟩:=Z.e (5+n);obtain⟨n3,en3⟩:=Z.e (3+n);by_cases h3:z≠n\/ll≠5+n
 ·rw[if_pos h3] at hv
  subst hv;rw[<- en5] at h3;by_cases h4:z=n
  ·refine Z.y Tryz.func137 λzB _ _ zD _ zK _ zC zA _ zG _ zH hz R hR P hP=>?_;cbv
   (obtain⟨L,eL,L0,Ln⟩:∃L:Int,zK rs=L/\0<=L/\L.toNat=rs.length:=⟨(rs.length:Int),by rw[zH],Int.natCast_nonneg _,Int.toNat_natCast _⟩)
   have d1:=W.nlt zA (show 5<=L by omega);have d2:=W.neq zA h2;have d3:=W.nne zA h4;have v1:zD .i64 k=k:=by rw[zG];show IntKind.i64.wrap k=k;rw[IntKind.wrap_i64];omega
   have v2:zD .i64 z=z:=by rw[zG];show IntKind.i64.wrap z=z;rw[IntKind.wrap_i64];omega
   have a1:zB .add .i64 3 n=n3:=(by rw[zC,Ag Z.o Z.o,en3]);have a2:zB .add .i64 n3 2=n5:=(by rw[zC,Ag Z.o Z.o];omega);have d4:=W.ne zA (show L≠n5 by omega);repeat' (first|(simp only[eL,d1,d2,d3,d4,v1,v2,a1,a2];cbv)|(refine Call.s hP q1 ?_;cbv)|(refine AB.s hP q1 ?_;cbv)|(refine Idx.mk _ Z.d g0.1 ?_;cbv)|(refine Idx.mk _ Z.d g2.1 ?_;cbv)|fail)
   exact Z.r hR
  ·refine Z.y Tryz.func137 λ_ _ _ zD _ zK _ _ zA _ zG _ zH hz R hR P hP=>?_;cbv
   (obtain⟨L,eL,L0,Ln⟩:∃L:Int,zK rs=L/\0<=L/\L.toNat=rs.length:=⟨(rs.length:Int),by rw[zH],Int.natCast_nonneg _,Int.toNat_natCast _⟩)
   have d1:=W.nlt zA (show 5<=L by omega);have d2:=W.neq zA h2;have d3:=W.ne zA h4;have v1:zD .i64 k=k:=by rw[zG];show IntKind.i64.wrap k=k;rw[IntKind.wrap_i64];omega
   have v2:zD .i64 z=z:=by rw[zG];show IntKind.i64.wrap z=z;rw[IntKind.wrap_i64];omega
   repeat' (first|(simp only[eL,d1,d2,d3,v1,v2];cbv)|(refine Call.s hP q1 ?_;cbv)|(refine AB.s hP q1 ?_;cbv)|(refine Idx.mk _ Z.d g0.1 ?_;cbv)|(refine Idx.mk _ Z.d g2.1 ?_;cbv)|fail)
   exact Z.r hR
 rw[if_neg h3] at hv;have h4:z=n:=by omega
 have h5:ll=5+n:=by omega
 clear h3;by_cases h6:crF 65535#16 l=0#16
 rotate_left 1
 ·rw[if_pos h6] at hv
  subst hv;refine Z.y Tryz.func137 λzB _ _ zD _ zK _ zC zA _ zG _ zH hz R hR P hP=>?_;cbv
  (obtain⟨L,eL,L0,Ln⟩:∃L:Int,zK rs=L/\0<=L/\L.toNat=rs.length:=⟨(rs.length:Int),by rw[zH],Int.natCast_nonneg _,Int.toNat_natCast _⟩)
  have d1:=W.nlt zA (show 5<=L by omega);have d2:=W.neq zA h2;have d3:=W.nne zA h4;have v1:zD .i64 k=k:=by rw[zG];show IntKind.i64.wrap k=k;rw[IntKind.wrap_i64];omega
  have v2:zD .i64 z=z:=by rw[zG];show IntKind.i64.wrap z=z;rw[IntKind.wrap_i64];omega
  have a1:zB .add .i64 3 n=n3:=(by rw[zC,Ag Z.o Z.o,en3]);have a2:zB .add .i64 n3 2=n5:=(by rw[zC,Ag Z.o Z.o];omega);have d4:=W.nne zA (show L=n5 by omega);have d5:=W.ne zA (show c≠0 by rw[Ne,hc0];exact h6);repeat' (first|(simp only[eL,d1,d2,d3,d4,d5,v1,v2,a1,a2];cbv)|(refine Call.s hP q1 ?_;cbv)|(refine AB.s hP q1 ?_;cbv)|(refine Call.s hP q3 ?_;cbv)|(refine AB.s hP q3 ?_;cbv)|(refine Idx.mk _ Z.d g0.1 ?_;cbv)|(refine Idx.mk _ Z.d g2.1 ?_;cbv)|fail)
  exact Z.r hR
 rw[if_neg (λh=>h h6)] at hv;have q4:=NF l hl Z.o 0 rs yD (by rw[h6];rfl);clear hc0 h6 q3;rcases hk with hk|⟨hk,hkk⟩|⟨hk,hkk⟩
 ·exact absurd hk h2
 ·subst hk
  obtain⟨t0,t1,t2,x,y,t5,t6,el⟩:=Sn l Z.o;have hx:=hl x (by rw[el];simp);have hy:=hl y (by rw[el];simp);obtain⟨w,ew⟩:=Z.e (x*256+y);have hbe:be ((l.drop 3).take 2)=w:=(by rw[el,ew];simp[be]);rw[if_neg Z.d,hbe] at hv;subst hv;have hrs2:rs=[AZ t0,AZ t1,AZ t2,AZ x,AZ y,AZ t5,AZ t6]:=(by rw[yD,el];rfl);have esg:sg=false:=(by rw[esg];rfl);subst esg;clear hbe yD el;(refine A9.ofY Tryz.func137 (by kernel_rfl) (by kernel_rfl) (Z.w λzB _ _ zD _ _ _ _ _ _ _ _ zK _ _ zN zO _ _ _ hw zC zA _ zG _ _ _ _ _ _ _ _ zH _ _ yI yL _ _ _ hz R hR=>?_));(conv=>arg 2;cbv);(generalize hP:Tryz.prog=P);cbv
  (obtain⟨L,eL,L0,Ln⟩:∃L:Int,zK rs=L/\0<=L/\L.toNat=rs.length:=⟨(rs.length:Int),by rw[zH],Int.natCast_nonneg _,Int.toNat_natCast _⟩)
  have d1:=W.nlt zA (show 5<=L by omega);have d2:=W.neq zA h2;have d3:=W.nne zA h4;have v1:zD .i64 k=k:=by rw[zG];show IntKind.i64.wrap k=k;rw[IntKind.wrap_i64];omega
  have v2:zD .i64 z=z:=by rw[zG];show IntKind.i64.wrap z=z;rw[IntKind.wrap_i64];omega
  have v3:zD .i64 s=s:=by rw[zG];show IntKind.i64.wrap s=s;rw[IntKind.wrap_i64];omega
  have a1:zB .add .i64 3 2=5:=(by rw[zC];rfl);have a2:zB .add .i64 5 2=7:=(by rw[zC];rfl);have d4:=W.nne zA (show L=7 by omega);have d5:=W.nne zA (a:=0) rfl;have cut:zO (zN rs 5) 3=[[.int .u8 x],[.int .u8 y]]:=(by rw[yL,yI,hrs2];rfl);repeat' (first|(simp only[eL,d1,d2,d3,d4,d5,v1,v2,a1,a2,cut];cbv)|(refine Call.s hP q1 ?_;cbv)|(refine AB.s hP q1 ?_;cbv)|(refine Call.s hP q4 ?_;cbv)|(refine AB.s hP q4 ?_;cbv)|(refine Idx.mk _ Z.d g0.1 ?_;cbv)|(refine Idx.mk _ Z.d g2.1 ?_;cbv)|(refine Nn.mk Z.d ?_)|(refine Le.mk (by first|decide|(rw[eL];omega)|omega) ?_)|fail)
  have l2:zK [[.int .u8 x],[.int .u8 y]]=2:=(by rw[zH];rfl);have u1:zD .u32 x=x:=by rw[zG];show IntKind.u32.wrap x=x;rw[IntKind.wrap_u32];omega
  have u2:zD .u32 y=y:=by rw[zG];show IntKind.u32.wrap y=y;rw[IntKind.wrap_u32];omega
  have o1:zB .or .u32 (zB .shl .u32 0 8) x=x:=(by rw[zC,Jy Z.d Z.d hx.1 Z.o];omega);have o2:zB .or .u32 (zB .shl .u32 x 8) y=w:=(by rw[zC,Jy hx.1 Z.o hy.1 Z.o,ew]);have i1:zB .add .i64 0 1=1:=(by rw[zC];rfl);have i2:zB .add .i64 1 1=2:=(by rw[zC];rfl);have f0:=W.lt zA (show (0:Int)<2 by decide);have f1:=W.lt zA (show (1:Int)<2 by decide);have f2:=W.nlt zA (show (2:Int)<=2 by decide);have v4:zD .i64 w=w:=by rw[zG];show IntKind.i64.wrap w=w;rw[IntKind.wrap_i64];omega
  (refine Ae.rounds hw 3 ?_;cbv);repeat' (first|(simp only[l2,f0,f1,f2,u1,u2,o1,o2,i1,i2,v3,v4];cbv)|(refine Call.s hP q2 ?_;cbv)|(refine AB.s hP q2 ?_;cbv)|(refine Idx.mk [.int .u8 x] Z.d rfl ?_;cbv)|(refine Idx.mk [.int .u8 y] Z.d rfl ?_;cbv)|(refine Idx.mk _ Z.d g1.1 ?_;cbv)|(refine Nn.mk Z.d ?_)|fail)
  exact Z.r hR
 ·subst hk
  obtain⟨t0,t1,t2,x,y,p,q,t5,t6,el⟩:=Sq l Z.o;have hx:=hl x (by rw[el];simp);have hy:=hl y (by rw[el];simp);have hp:=hl p (by rw[el];simp);have hq:=hl q (by rw[el];simp);obtain⟨w2,ew2⟩:=Z.e (x*256+y);obtain⟨w3,ew3⟩:=Z.e (w2*256+p);obtain⟨w,ew⟩:=Z.e (w3*256+q);have hbe:be ((l.drop 3).take 4)=w:=(by rw[el,ew,ew3,ew2];simp[be]);rw[if_pos rfl,hbe] at hv;obtain⟨u,eu⟩:=Z.e (D_ w);rw[<- eu] at hv;have hu32:IntKind.i32.wrap w=u:=(by rw[IntKind.wrap_i32,eu];unfold D_;split<;>omega);have hui: -2147483648<=u/\u<=2147483647:=(by rw[eu];unfold D_;split<;>omega);subst hv;have hrs2:rs=[AZ t0,AZ t1,AZ t2,AZ x,AZ y,AZ p,AZ q,AZ t5,AZ t6]:=(by rw[yD,el];rfl);have esg:sg=true:=(by rw[esg];rfl);subst esg;clear hbe yD el eu;(refine A9.ofY Tryz.func137 (by kernel_rfl) (by kernel_rfl) (Z.w λzB _ _ zD _ _ _ _ _ _ _ _ zK _ _ zN zO _ _ _ hw zC zA _ zG _ _ _ _ _ _ _ _ zH _ _ yI yL _ _ _ _ R hR=>?_));(conv=>arg 2;cbv);(generalize hP:Tryz.prog=P);cbv
  (obtain⟨L,eL,L0,Ln⟩:∃L:Int,zK rs=L/\0<=L/\L.toNat=rs.length:=⟨(rs.length:Int),by rw[zH],Int.natCast_nonneg _,Int.toNat_natCast _⟩)
  have d1:=W.nlt zA (show 5<=L by omega);have d2:=W.neq zA h2;have d3:=W.nne zA h4;have v1:zD .i64 k=k:=by rw[zG];show IntKind.i64.wrap k=k;rw[IntKind.wrap_i64];omega
  have v2:zD .i64 z=z:=by rw[zG];show IntKind.i64.wrap z=z;rw[IntKind.wrap_i64];omega
  have v3:zD .i64 s=s:=by rw[zG];show IntKind.i64.wrap s=s;rw[IntKind.wrap_i64];omega
  have a1:zB .add .i64 3 4=7:=(by rw[zC];rfl);have a2:zB .add .i64 7 2=9:=(by rw[zC];rfl);have d4:=W.nne zA (show L=9 by omega);have d5:=W.nne zA (a:=0) rfl;have cut:zO (zN rs 7) 3=[[.int .u8 x],[.int .u8 y],[.int .u8 p],[.int .u8 q]]:=(by rw[yL,yI,hrs2];rfl);repeat' (first|(simp only[eL,d1,d2,d3,d4,d5,v1,v2,a1,a2,cut];cbv)|(refine Call.s hP q1 ?_;cbv)|(refine AB.s hP q1 ?_;cbv)|(refine Call.s hP q4 ?_;cbv)|(refine AB.s hP q4 ?_;cbv)|(refine Idx.mk _ Z.d g0.1 ?_;cbv)|(refine Idx.mk _ Z.d g2.1 ?_;cbv)|(refine Nn.mk Z.d ?_)|(refine Le.mk (by first|decide|(rw[eL];omega)|omega) ?_)|fail)
  have l2:zK [[.int .u8 x],[.int .u8 y],[.int .u8 p],[.int .u8 q]]=4:=(by rw[zH];rfl);have u1:zD .u32 x=x:=by rw[zG];show IntKind.u32.wrap x=x;rw[IntKind.wrap_u32];omega
  have u2:zD .u32 y=y:=by rw[zG];show IntKind.u32.wrap y=y;rw[IntKind.wrap_u32];omega
  have u3:zD .u32 p=p:=by rw[zG];show IntKind.u32.wrap p=p;rw[IntKind.wrap_u32];omega
  have u4:zD .u32 q=q:=by rw[zG];show IntKind.u32.wrap q=q;rw[IntKind.wrap_u32];omega
  have o1:zB .or .u32 (zB .shl .u32 0 8) x=x:=(by rw[zC,Jy Z.d Z.d hx.1 Z.o];omega);have o2:zB .or .u32 (zB .shl .u32 x 8) y=w2:=(by rw[zC,Jy hx.1 Z.o hy.1 Z.o,ew2]);have o3:zB .or .u32 (zB .shl .u32 w2 8) p=w3:=(by rw[zC,Jy Z.o Z.o hp.1 Z.o,ew3]);have o4:zB .or .u32 (zB .shl .u32 w3 8) q=w:=(by rw[zC,Jy Z.o Z.o hq.1 Z.o,ew]);have i1:zB .add .i64 0 1=1:=(by rw[zC];rfl);have i2:zB .add .i64 1 1=2:=(by rw[zC];rfl);have i3:zB .add .i64 2 1=3:=(by rw[zC];rfl);have i4:zB .add .i64 3 1=4:=(by rw[zC];rfl);have f0:=W.lt zA (show (0:Int)<4 by decide);have f1:=W.lt zA (show (1:Int)<4 by decide);have f2:=W.lt zA (show (2:Int)<4 by decide);have f3:=W.lt zA (show (3:Int)<4 by decide);have f4:=W.nlt zA (show (4:Int)<=4 by decide);have v4:zD .i64 w=w:=by rw[zG];show IntKind.i64.wrap w=w;rw[IntKind.wrap_i64];omega
  have v5:zD .i32 w=u:=(by rw[zG];exact hu32);have v6:zD .i64 u=u:=by rw[zG];show IntKind.i64.wrap u=u;rw[IntKind.wrap_i64];omega
  (refine Ae.rounds hw 5 ?_;cbv);repeat' (first|(simp only[l2,f0,f1,f2,f3,f4,u1,u2,u3,u4,o1,o2,o3,o4,i1,i2,i3,i4,v3,v4,v5,v6];cbv)|(refine Call.s hP q2 ?_;cbv)|(refine AB.s hP q2 ?_;cbv)|(refine Idx.mk [.int .u8 x] Z.d rfl ?_;cbv)|(refine Idx.mk [.int .u8 y] Z.d rfl ?_;cbv)|(refine Idx.mk [.int .u8 p] Z.d rfl ?_;cbv)|(refine Idx.mk [.int .u8 q] Z.d rfl ?_;cbv)|(refine Idx.mk _ Z.d g1.1 ?_;cbv)|(refine Nn.mk Z.d ?_)|fail)
  exact Z.r hR
theorem D8{a b:Int}(h0:0<=a):AF .rem .i64 a b=a%b:=by
 show a.tmod b=_;rw[Int.tmod_eq_emod_of_nonneg h0]
theorem Mi(v w:BitVec 16)(a b r:Int)(ea:a=bi v)(eb:b=bi w)(er:r=bi (v ^^^ w)):A9 Tryz.prog 85 [a,b] (· = .int .i64 r):=by
 refine Z.y Tryz.func85 λzB zE _ _ _ _ hw zC zA _ _ _ _ hz R hR P hP=>?_;cbv
 refine Ae.data hw (S:=Int×Int×Int) (λs=>fr 27 [(0,a),(1,b),(5,s.2.2),(6,s.2.1),(7,s.1)]) (λ_=>[])
  (λs=>0<=s.1/\s.1<=16/\0<=s.2.1/\s.2.1.toNat=2 ^ s.1.toNat/\0<=s.2.2/\s.2.2.toNat=(v ^^^ w).toNat%2 ^ s.1.toNat) (λs=>(16-s.1).toNat) (0,1,0) Z.i ⟨Int.le_refl _,(show (0:Int)<=16 by decide),(show (0:Int)<=1 by decide),rfl,Int.le_refl _,by simp[Nat.mod_one]⟩ ?_
 rintro⟨i,p,o⟩ zJ Q' hN hE hR'
 have zJ:0<=i/\i<=16/\0<=p/\p.toNat=2 ^ i.toNat/\0<=o/\o.toNat=(v ^^^ w).toNat%2 ^ i.toNat:=zJ;cbv;obtain⟨zW,yZ,hp0,hpt,ho0,hot⟩:=zJ;obtain⟨k,ek⟩:=Z.e i.toNat;rw[<- ek] at hpt hot;obtain⟨pn,epn⟩:∃q:Nat,q=2 ^ k:=⟨_,rfl⟩;have hpn:0<pn/\pn<=65536:=by rw[epn];exact⟨Nat.two_pow_pos _,Nat.pow_le_pow_right Z.d (show k<=16 by omega)⟩
 rw[<- epn] at hpt;obtain⟨on,eon⟩:∃q:Nat,q=(v ^^^ w).toNat%2 ^ k:=⟨_,rfl⟩;rw[<- eon] at hot;have hvl:=v.isLt;have hwl:=w.isLt;have ha0:0<=a/\a<65536:=by rw[ea];exact Hd v
 have hb0:0<=b/\b<65536:=by rw[eb];exact Hd w
 (split<;>rename_i hc<;>(try (simp only[hz,Z.a,AF,AC,AO,AP,AL,reduceCtorEq] at hc))<;>(try cbv))
 ·have hab:a=(v.toNat:Int)/\b=(w.toNat:Int):=⟨ea,eb⟩
  have hp:p=(pn:Int):=(by omega);have ho:o=(on:Int):=(by omega);obtain⟨i2,ei2⟩:=Z.e (i+1);have a4:zB .add .i64 i 1=i2:=(by rw[zC,Ag Z.o Z.o,ei2]);obtain⟨p2,ep2⟩:=Z.e (2*p);have a5:zB .mul .i64 2 p=p2:=(by rw[zC,M7 Z.o Z.o,ep2]);have hT:(16-i2).toNat<(16-i).toNat:=(by omega);have hk2:i2.toNat=k+1:=(by omega);have hp2:p2.toNat=2 ^ i2.toNat:=by rw[hk2,Nat.pow_succ,<- epn];omega
  have hol:o<65536:=by
   have:=Nat.mod_lt (v ^^^ w).toNat (Nat.two_pow_pos k);rw[<- eon,<- epn] at this;omega
  have q1:zB .quo .i64 a p=((v.toNat/pn:Nat):Int):=(by rw[zC,DX Z.o Z.o Z.o,hab.1,hp];rfl);have q2:zB .quo .i64 b p=((w.toNat/pn:Nat):Int):=(by rw[zC,DX Z.o Z.o Z.o,hab.2,hp];rfl);have q3:zB .rem .i64 ((v.toNat/pn:Nat):Int) 2=((v.toNat/pn%2:Nat):Int):=(by rw[zC,D8 (Int.natCast_nonneg _)];rfl);have q4:zB .rem .i64 ((w.toNat/pn:Nat):Int) 2=((w.toNat/pn%2:Nat):Int):=(by rw[zC,D8 (Int.natCast_nonneg _)];rfl);obtain⟨t,et⟩:∃t,t=(v ^^^ w).toNat.testBit k:=⟨_,rfl⟩
  have c1:zE .neq (zB .rem .i64 (zB .quo .i64 a p) 2) (zB .rem .i64 (zB .quo .i64 b p) 2)=t:=by
   rw[q1,q2,q3,q4,zA,et,BitVec.toNat_xor,Nat.testBit_xor,Nat.testBit_eq_decide_div_mod_eq,Nat.testBit_eq_decide_div_mod_eq,<- epn];show ((((v.toNat/pn%2:Nat):Int)) != ((w.toNat/pn%2:Nat):Int))=_;rcases Nat.mod_two_eq_zero_or_one (v.toNat/pn) with h1|h1<;>rcases Nat.mod_two_eq_zero_or_one (w.toNat/pn) with h2|h2<;>rw[h1,h2]<;>rfl
  have ho2:∀o2,o2=(if t then o+p else o)->0<=o2/\o2.toNat=(v ^^^ w).toNat%2 ^ i2.toNat:=by
   intro o2 h;rw[hk2,Nat.mod_pow_succ,<- eon,<- epn]
   have et2:((v ^^^ w).toNat/pn%2)=if t then 1 else 0:=by
    rw[et,Nat.testBit_eq_decide_div_mod_eq,<- epn];rcases Nat.mod_two_eq_zero_or_one ((v ^^^ w).toNat/pn) with h1|h1<;>rw[h1]<;>rfl
   rw[et2];cases t
   ·simp at h ⊢;omega
   ·simp at h ⊢;omega
  have hpz:p≠0:=(by omega);repeat' (first|refine Nz.mk hpz ?_|refine Nz.mk Z.d ?_)
  simp only[c1];cases t
  ·cbv
   repeat' (first|refine Nz.mk hpz ?_|refine Nz.mk Z.d ?_)
   simp only[a4,a5];refine hN (i2,p2,o) _ _ ?hx ?hi hT
   case hx=>exact Z.i
   case hi=>exact⟨by simp only;omega,by simp only;omega,by simp only;omega,hp2,(ho2 o rfl).1,(ho2 o rfl).2⟩
  ·cbv
   obtain⟨o2,eo2⟩:=Z.e (o+p);have a6:zB .add .i64 o p=o2:=(by rw[zC,Ag Z.o Z.o,eo2]);simp only[a4,a5,a6];refine hN (i2,p2,o2) _ _ ?hx ?hi hT
   case hx=>exact Z.i
   case hi=>exact⟨by simp only;omega,by simp only;omega,by simp only;omega,hp2,(ho2 o2 (by rw[eo2];rfl)).1,(ho2 o2 (by rw[eo2];rfl)).2⟩
 ·refine hE _ _ _ ?_
  cbv;have e16:k=16:=(by omega);refine⟨_,Vw.same rfl,hR _ ?_⟩;rw[e16,Nat.mod_eq_of_lt (v ^^^ w).isLt] at eon;have:o=r:=(by rw[er];unfold bi;omega);rw[this];rfl
def dig(l:List Int)(i:Nat):Bool:=(if i<8*l.length then (Cj (l.getD (i/8) 0)).getLsbD (7-i%8) else false) ^^ decide (i<16)
theorem Uv:∀(l:List (BitVec 16)) (i:Nat),i<8*l.length->(F9 l)[i]?=some ((l.getD (i/8) 0).getLsbD (7-i%8))
 | [],i,h=>absurd h (by simp)
 | b::l,i,h=>by
   unfold F9;rw[List.flatMap_cons];by_cases hi:i<8
   ·rw[List.getElem?_append_left (by simp[DL];exact hi),Nat.div_eq_of_lt hi,Nat.mod_eq_of_lt hi]
    simp[DL,hi]
   ·rw[List.getElem?_append_right (by simp[DL];omega)]
    have e:(DL b).length=8:=(by simp[DL]);rw[e];have ih:=Uv l (i-8) (by simp at h;omega);unfold F9 at ih;rw[ih];have h1:i/8=(i-8)/8+1:=(by omega);have h2:(i-8)%8=i%8:=(by omega);rw[h1,h2];rfl
theorem jF(l:List Int)(hl:Ar l):CL 0#16 ((List.range (8*l.length+16)).map (dig l))=crF 65535#16 l:=by
 have h:=j5 (l.map Cj) (λb hb=>by
  obtain⟨x,hx,rfl⟩:=List.mem_map.1 hb;exact(Uu (hl x hx)).2)
 unfold crF;rw[<- h];congr 1
 apply List.ext_getElem?;intro i;rw[List.getElem?_map,List.getElem?_zipWith];by_cases hi:i<8*l.length+16
 ·rw[List.getElem?_range hi]
  have e2:(List.replicate 16 true++List.replicate (8*(l.map Cj).length) false)[i]?=some (decide (i<16)):=by
   by_cases h16:i<16
   ·rw[List.getElem?_append_left (by simpa using h16),List.getElem?_replicate,if_pos h16];simp[h16]
   ·rw[List.getElem?_append_right (by simp;omega),List.getElem?_replicate,if_pos (by simp;omega)];simp[h16]
  have e1:(F9 (l.map Cj)++List.replicate 16 false)[i]?=some (if i<8*l.length then (Cj (l.getD (i/8) 0)).getLsbD (7-i%8) else false):=by
   by_cases h8:i<8*l.length
   ·rw[List.getElem?_append_left (by rw[Kz];simpa using h8),Uv _ _ (by simpa using h8),if_pos h8]
    have:(l.map Cj).getD (i/8) 0=Cj (l.getD (i/8) 0):=by
     have hd:i/8<l.length:=(by omega);simp[List.getD_eq_getElem?_getD,hd]
    rw[this]
   ·rw[List.getElem?_append_right (by rw[Kz];simp;omega),List.getElem?_replicate,if_pos (by rw[Kz];simp;omega),if_neg h8]
  rw[e1,e2];rfl
 ·rw[List.getElem?_eq_none (by simp;omega)]
  have:(F9 (l.map Cj)++List.replicate 16 false)[i]?=none:=List.getElem?_eq_none (by rw[List.length_append,Kz,List.length_replicate,List.length_map];omega);rw[this];rfl
theorem jG(x:BitVec 16)(t:Bool):((x <<< 1) ^^^ (if t then 1#16 else 0#16)).toNat=(2*x.toNat)%65536+(if t then 1 else 0):=by
 have h0:(x <<< 1).toNat=(2*x.toNat)%65536:=by rw[BitVec.toNat_shiftLeft,Nat.shiftLeft_eq];omega
 cases t
 ·simp[h0]
 ·have h1:(x <<< 1) ^^^ 1#16=(x <<< 1) ||| 1#16:=by
   apply BitVec.eq_of_getLsbD_eq;intro i hi;rw[BitVec.getLsbD_xor,BitVec.getLsbD_or,BitVec.getLsbD_shiftLeft];by_cases h:i=0
   ·subst h;simp
   ·have:(1#16).getLsbD i=false:=by rw[BitVec.getLsbD_one];simp[h]
    rw[this];simp
  have h2:(x <<< 1) &&& 1#16=0#16:=by
   apply BitVec.eq_of_getLsbD_eq;intro i hi;rw[BitVec.getLsbD_and,BitVec.getLsbD_shiftLeft];by_cases h:i=0
   ·subst h;simp
   ·have:(1#16).getLsbD i=false:=by rw[BitVec.getLsbD_one];simp[h]
    rw[this];simp
  simp only[if_true];rw[h1,<- BitVec.add_eq_or_of_and_eq_zero _ _ h2,BitVec.toNat_add,h0];show (_+1)%65536=_;omega
theorem Ll(l:List Int)(hl:Ar l)(h47:l.length<=1000000000)(r:Int)(rs:List (List AV))(yD:rs=l.map AZ)(er:r=bi (crF 65535#16 l)):A9 Tryz.prog 39 [.list 1 rs] (· = .int .i64 r):=by
 have hu:Up0 rs:=by rw[yD];exact Ao l
 have hrl:rs.length=l.length:=by rw[yD];simp
 refine Z.y Tryz.func39 λzB zE _ zD _ zK hw zC zA yJ zG _ zH hz R hR P hP=>?_;cbv
 (obtain⟨L,eL,L0,Ln⟩:∃L:Int,zK rs=L/\0<=L/\L.toNat=rs.length:=⟨(rs.length:Int),by rw[zH],Int.natCast_nonneg _,Int.toNat_natCast _⟩)
 simp only[eL];obtain⟨m,em⟩:=Z.e (8*L);obtain⟨n,en⟩:=Z.e (m+16);have d1:zB .mul .i64 8 L=m:=by rw[zC,M7 Z.o Z.o,em]
 have d2:zB .add .i64 m 16=n:=by rw[zC,Ag Z.o Z.o,en]
 simp only[d1,d2]
 refine Ae.data hw (S:=Int×BitVec 16×Int) (λs=>fr 48 [(0,.list 1 rs),(3,n),(4,s.2.2),(5,s.1)]) (λ_=>[])
  (λs=>0<=s.1/\s.1<=n/\s.2.1=CL 0#16 ((List.range s.1.toNat).map (dig l))/\s.2.2=bi s.2.1) (λs=>(n-s.1).toNat) (0,0#16,0) Z.i ⟨Int.le_refl _,by simp only;omega,rfl,rfl⟩ ?_
 rintro⟨i,x,y⟩ zJ Q' hN hE hR'
 have zJ:0<=i/\i<=n/\x=CL 0#16 ((List.range i.toNat).map (dig l))/\y=bi x:=zJ;cbv;obtain⟨zW,yZ,hx,hy⟩:=zJ;have hyb:=Hd x;rw[<- hy] at hyb;(split<;>rename_i hc<;>(try (simp only[hz,Z.a,AF,AC,AO,AP,AL,reduceCtorEq] at hc))<;>(try cbv))
 ·obtain⟨i2,ei2⟩:=Z.e (i+1)
  have a4:zB .add .i64 i 1=i2:=(by rw[zC,Ag Z.o Z.o,ei2]);have hT:(n-i2).toNat<(n-i).toNat:=(by omega);obtain⟨t,et⟩:=Z.e (dig l i.toNat);obtain⟨x2,ex2⟩:=Z.e (crI x t);obtain⟨y2,ey2⟩:=Z.e (bi x2)
  have hx2:x2=CL 0#16 ((List.range i2.toNat).map (dig l)):=by
   rw[show i2.toNat=i.toNat+1 by omega,List.range_succ,List.map_append,Ky,<- hx,ex2,et];rfl
  obtain⟨tn,etn⟩:∃z:Int,z=if t then 1 else 0:=⟨_,rfl⟩
  have htn:0<=tn/\tn<=1:=(by rw[etn];cases t<;>decide);obtain⟨z,ez⟩:=Z.e (2*y+tn);have m1:zB .mul .i64 2 y=2*y:=(by rw[zC,M7 Z.o Z.o]);have m2:zB .add .i64 (2*y) tn=z:=(by rw[zC,Ag Z.o Z.o,ez]);obtain⟨x1,ex1⟩:∃q,q=(x <<< 1) ^^^ (if t then 1#16 else 0#16):=⟨_,rfl⟩;have hsh:=jG x t;rw[<- ex1] at hsh;have hyx:y=(x.toNat:Int):=hy
  have hx1:bi x1=(2*y)%65536+tn:=by
   unfold bi;rw[hsh,etn,hyx];cases t<;>(simp;try omega)
  -- behind the digit: the step
  have big:65536<=z->x2=x1 ^^^ 4129#16/\z-65536=bi x1:=λh=>by
   have hm:x.msb=true:=(by rw[BitVec.msb_eq_decide];simp;omega);refine⟨?_,by rw[hx1];omega⟩;rw[ex2,ex1];unfold crI crS;rw[hm,if_pos rfl];ac_rfl
  have small:z<65536->x2=x1/\z=bi x1:=λh=>by
   have hm:x.msb=false:=(by rw[BitVec.msb_eq_decide];simp;omega);refine⟨?_,by rw[hx1];omega⟩;rw[ex2,ex1];unfold crI crS;rw[hm];simp
  have nx:∀(Y:Int),Y=y2->Q' .normal=Q' .normal:=λ_ _=>rfl
  -- the digit as the program has it
  have dn:¬i<m->(dig l i.toNat=decide (i.toNat<16)):=λh=>by
   unfold dig;rw[if_neg Z.o];simp
  have dy:i<m->dig l i.toNat=((Cj (l.getD (i.toNat/8) 0)).getLsbD (7-i.toNat%8) ^^ decide (i.toNat<16)):=λh=>by
   unfold dig;rw[if_pos Z.o]
  obtain⟨u,eu⟩:∃u:Bool,u=if i<m then (Cj (l.getD (i.toNat/8) 0)).getLsbD (7-i.toNat%8) else false:=⟨_,rfl⟩
  obtain⟨un,eun⟩:∃z:Int,z=if u then 1 else 0:=⟨_,rfl⟩
  have htu:t=(u ^^ decide (i<16)):=by
   rw[et,eu];by_cases h:i<m
   ·rw[dy h,if_pos h];congr 1;rw[decide_eq_decide];omega
   ·rw[dn h,if_neg h];simp
  have h1u:zB .sub .i64 1 un=1-un:=(by rw[zC,Bj (by rw[eun];cases u<;>decide) (by rw[eun];cases u<;>decide)]);have tn1:i<16->1-un=tn:=λh=>(by rw[etn,eun,htu];cases u<;>simp[h]);have tn2:¬i<16->un=tn:=λh=>by rw[etn,eun,htu];cases u<;>simp[h]
  have go:∀(b:Bool),(i<16↔b=true)->∀dv:Int,dv=un->(if b then zB .sub .i64 1 dv else dv)=tn:=λb hb dv hd=>by
   subst hd;cases b
   ·exact tn2 λh=>by have:=hb.1 h;cases this
   ·rw[if_pos rfl,h1u];exact tn1 (hb.2 rfl)
  have c16:∃b,zE .lss i 16=b/\(i<16↔b=true):=⟨_,rfl,by rw[zA];simp[AC]⟩;obtain⟨b16,e16,hb16⟩:=c16;have go1:=λh:b16=true=>go b16 hb16 un rfl;have cz:∃b,zE .geq z 65536=b/\(65536<=z↔b=true):=⟨_,rfl,by rw[zA];simp[AC]⟩;obtain⟨bz,ecz,hbz⟩:=cz;obtain⟨z2,ez2⟩:=Z.e (z-65536);have m3:zB .sub .i64 z 65536=z2:=(by rw[zC,Bj Z.o Z.o,ez2]);simp only[eL,d1];by_cases h8:i<m
  ·have c8:zE .lss i m=true:=by rw[zA];simp[AC];exact h8
   simp only[c8];cbv;obtain⟨iq,eiq⟩:=Z.e (i/8);obtain⟨ir,eir⟩:=Z.e (i%8);obtain⟨is,eis⟩:=Z.e (7-ir);have q1:zB .quo .i64 i 8=iq:=(by rw[zC,DX Z.o Z.o Z.o,eiq]);have q2:zB .rem .i64 i 8=ir:=(by rw[zC,D8 Z.o,eir]);have q3:zB .sub .i64 7 ir=is:=(by rw[zC,Bj Z.o Z.o,eis]);have q4:zD .u64 is=is:=by rw[zG];show IntKind.u64.wrap is=is;rw[IntKind.wrap_u64];omega
   obtain⟨bb,hbb⟩:∃bb,l[iq.toNat]?=some bb:=⟨_,List.getElem?_eq_getElem (show iq.toNat<l.length by omega)⟩;have hbr:rs[iq.toNat]?=some [.int .u8 bb]:=(by rw[yD,List.getElem?_map,hbb];rfl);have hbk:=hl bb (List.mem_of_getElem? hbb)
   have q5:zB .rem .i64 (zD .i64 (zB .shr .u8 bb is)) 2=un:=by
    have e1:l.getD (i.toNat/8) 0=bb:=by rw[show i.toNat/8=iq.toNat by omega,List.getD_eq_getElem?_getD,hbb];rfl
    have e2:zB .shr .u8 bb is=((bb.toNat/2 ^ is.toNat:Nat):Int):=by
     rw[zC];show bb.fdiv (2 ^ (min is.toNat 8))=_;rw[Nat.min_eq_left Z.o,Int.fdiv_eq_ediv_of_nonneg _ (by exact Int.le_of_lt (Int.pow_pos Z.d))];rw[Int.natCast_ediv,Int.toNat_of_nonneg hbk.1,Int.natCast_pow];rfl
    have e3:bb.toNat/2 ^ is.toNat<=255:=Nat.le_trans (Nat.div_le_self _ _) Z.o
    have e4:zD .i64 ((bb.toNat/2 ^ is.toNat:Nat):Int)=((bb.toNat/2 ^ is.toNat:Nat):Int):=by
     obtain⟨q,eq⟩:∃q:Nat,q=bb.toNat/2 ^ is.toNat:=⟨_,rfl⟩;rw[<- eq] at e3 ⊢;rw[zG];show IntKind.i64.wrap _=_;rw[IntKind.wrap_i64];omega
    rw[e2,e4,zC,D8 (Int.natCast_nonneg _),eun,eu,if_pos h8,e1]
    have e5:(Cj bb).getLsbD (7-i.toNat%8)=decide (bb.toNat/2 ^ is.toNat%2=1):=by
     rw[show 7-i.toNat%8=is.toNat by omega];unfold Cj;rw[BitVec.getLsbD,BitVec.toNat_ofNat,Nat.mod_eq_of_lt Z.o,Nat.testBit_eq_decide_div_mod_eq]
    rw[e5];obtain⟨q,eq⟩:∃q:Nat,q=bb.toNat/2 ^ is.toNat:=⟨_,rfl⟩;rw[<- eq];rcases Nat.mod_two_eq_zero_or_one q with h1|h1
    ·rw[h1];simp;omega
    ·rw[h1];simp;omega
   repeat' (first
    | (refine Nz.mk Z.d ?_)
    | (refine Nn.mk Z.o ?_)
    | (refine Idx.mk _ Z.o hbr ?_;cbv)
    | (simp only[q1])
    | (simp only[q2,q3,q4]))
   simp only[q5,e16];cases b16
   ·have yJ:un=tn:=go false hb16 un rfl
    rw[yJ];cbv;simp only[m1,m2,ecz];cases bz
    ·have hs:=small (by rcases Int.lt_or_le z 65536 with h|h;exact h;exact absurd (hbz.1 h) Z.d)
     have hz2:z=y2:=(by rw[ey2,hs.1];exact hs.2);cbv;simp only[a4];refine hN (i2,x2,y2) _ _ ?hx ?hi hT
     case hx=>exact Z.i
     case hi=>exact⟨by simp only;omega,by simp only;omega,hx2,ey2⟩
    ·have hs:=big (hbz.2 rfl)
     cbv;simp only[m3];refine Call.stepE (by rw[<- hP];exact Mi x1 4129#16 z2 4129 y2 (by rw[ez2];exact hs.2) rfl (by rw[ey2,hs.1])) rfl ?_;cbv;simp only[a4];refine hN (i2,x2,y2) _ _ ?hx ?hi hT
     case hx=>exact Z.i
     case hi=>exact⟨by simp only;omega,by simp only;omega,hx2,ey2⟩
   ·have yJ:zB .sub .i64 1 un=tn:=go true hb16 un rfl
    cbv;simp only[yJ];cbv;simp only[m1,m2,ecz];cases bz
    ·have hs:=small (by rcases Int.lt_or_le z 65536 with h|h;exact h;exact absurd (hbz.1 h) Z.d)
     have hz2:z=y2:=(by rw[ey2,hs.1];exact hs.2);cbv;simp only[a4];refine hN (i2,x2,y2) _ _ ?hx ?hi hT
     case hx=>exact Z.i
     case hi=>exact⟨by simp only;omega,by simp only;omega,hx2,ey2⟩
    ·have hs:=big (hbz.2 rfl)
     cbv;simp only[m3];refine Call.stepE (by rw[<- hP];exact Mi x1 4129#16 z2 4129 y2 (by rw[ez2];exact hs.2) rfl (by rw[ey2,hs.1])) rfl ?_;cbv;simp only[a4];refine hN (i2,x2,y2) _ _ ?hx ?hi hT
     case hx=>exact Z.i
     case hi=>exact⟨by simp only;omega,by simp only;omega,hx2,ey2⟩
  ·have c8:zE .lss i m=false:=by rw[zA];simp[AC];omega
   have hu0:un=0:=(by rw[eun,eu,if_neg h8];rfl);simp only[c8];cbv;simp only[e16];cases b16
   ·have yJ:un=tn:=go false hb16 un rfl
    have yJ:0=tn:=(by rw[<- hu0];exact yJ);simp only[yJ];cbv;simp only[m1,m2,ecz];cases bz
    ·have hs:=small (by rcases Int.lt_or_le z 65536 with h|h;exact h;exact absurd (hbz.1 h) Z.d)
     have hz2:z=y2:=(by rw[ey2,hs.1];exact hs.2);cbv;simp only[a4];refine hN (i2,x2,y2) _ _ ?hx ?hi hT
     case hx=>exact Z.i
     case hi=>exact⟨by simp only;omega,by simp only;omega,hx2,ey2⟩
    ·have hs:=big (hbz.2 rfl)
     cbv;simp only[m3];refine Call.stepE (by rw[<- hP];exact Mi x1 4129#16 z2 4129 y2 (by rw[ez2];exact hs.2) rfl (by rw[ey2,hs.1])) rfl ?_;cbv;simp only[a4];refine hN (i2,x2,y2) _ _ ?hx ?hi hT
     case hx=>exact Z.i
     case hi=>exact⟨by simp only;omega,by simp only;omega,hx2,ey2⟩
   ·have yJ:zB .sub .i64 1 0=tn:=by rw[<- hu0];exact go true hb16 un rfl
    cbv;simp only[yJ];cbv;simp only[m1,m2,ecz];cases bz
    ·have hs:=small (by rcases Int.lt_or_le z 65536 with h|h;exact h;exact absurd (hbz.1 h) Z.d)
     have hz2:z=y2:=(by rw[ey2,hs.1];exact hs.2);cbv;simp only[a4];refine hN (i2,x2,y2) _ _ ?hx ?hi hT
     case hx=>exact Z.i
     case hi=>exact⟨by simp only;omega,by simp only;omega,hx2,ey2⟩
    ·have hs:=big (hbz.2 rfl)
     cbv;simp only[m3];refine Call.stepE (by rw[<- hP];exact Mi x1 4129#16 z2 4129 y2 (by rw[ez2];exact hs.2) rfl (by rw[ey2,hs.1])) rfl ?_;cbv;simp only[a4];refine hN (i2,x2,y2) _ _ ?hx ?hi hT
     case hx=>exact Z.i
     case hi=>exact⟨by simp only;omega,by simp only;omega,hx2,ey2⟩
 ·refine hE _ _ _ ?_
  cbv;refine⟨_,Vw.same rfl,hR _ ?_⟩;have e1:i.toNat=8*l.length+16:=(by omega);rw[hy,hx,er,e1,jF l hl];rfl
def Em(b:List Int):List AV:=[.list 1 (b.map AZ)]
theorem IL(l:List (List Int)):Up0 (l.map Em):=BM (f:=Em) (λd=>by simp only[Em,Af,AV.upto,(Ao d).get];rfl) l
structure Ml where
 h1:Bool
 h2:Bool
 h3:Bool
 h4:Bool
 h5:Bool
 v1:Int
 v2:Int
 v3:Int
 v4:Int
 v5:Int
 bad:Int
 stale:Int
 twice:Int
 beyond:Int
def Ml.row(m:Ml):List AV:=[.bool false,m.h1,m.h2,m.h3,m.h4,m.h5,(0:Int),m.v1,m.v2,m.v3,m.v4,m.v5,m.bad,m.stale,m.twice,m.beyond]
def Ml.has(m:Ml)(k:Int):Bool:=if k=1 then m.h1 else if k=2 then m.h2 else if k=3 then m.h3 else if k=4 then m.h4 else if k=5 then m.h5 else false
def Ml.val(m:Ml)(k:Int):Int:=if k=1 then m.v1 else if k=2 then m.v2 else if k=3 then m.v3 else if k=4 then m.v4 else if k=5 then m.v5 else 0
def Ml.put(m:Ml)(k v:Int):Ml:=
 if k=1 then { m with h1:=true,v1:=v } else if k=2 then { m with h2:=true,v2:=v } else if k=3 then { m with h3:=true,v3:=v } else if k=4 then { m with h4:=true,v4:=v } else { m with h5:=true,v5:=v }
def Dy(seq:Int)(m:Ml)(f:Fm):Ml:=
 if f.e≠0 then { m with bad:=m.bad+1 } else if f.s≠seq then { m with stale:=m.stale+1 } else if m.has f.k then { m with twice:=m.twice+1 } else m.put f.k f.v
theorem jH{l:List Int}(h:(frV l).e=0):(frV l).k=1\/(frV l).k=2\/(frV l).k=3\/(frV l).k=4\/(frV l).k=5:=by
 unfold frV at *;split at h
 ·cases h
 ·split at h
  ·cases h
  ·split at h
   ·cases h
   ·split at h
    ·cases h
    ·rename_i h1 h2 h3 h4
     rw[if_neg h1,if_neg h2,if_neg h3,if_neg h4];have:=MJ (l.getD 0 0);simp only;omega
def Ml.Few(m:Ml):Prop:=(0<=m.bad/\m.bad<=1000)/\(0<=m.stale/\m.stale<=1000)/\0<=m.twice/\m.twice<=1000
theorem jI(l:List Int)(hl:Ar l)(h47:l.length<=1000000)(rs:List (List AV))(yD:rs=l.map AZ)(seq:Int)(m:Ml)(hm:m.Few)(v:Ml)(hv:v=Dy seq m (frV l)) :
 AJ Tryz.prog 89 [.ref 0 16 0 0,seq,.list 1 rs] [.live 16 [m.row]] (λr h=>r = .tuple []/\∃j,h = .live 16 [v.row]::j):=by
 have hu:Up0 rs:=by rw[yD];exact Ao _
 obtain⟨f,ef⟩:=Z.e (frV l);have q1:=jE l hl h47 rs yD f ef;have hk:f.e=0->f.k=1\/f.k=2\/f.k=3\/f.k=4\/f.k=5:=λh=>by rw[ef] at h ⊢;exact jH h
 rw[<- ef] at hv;clear ef yD hl h47;obtain⟨fk,fs,fv,fe⟩:=f;obtain⟨h1,h2,h3,h4,h5,v1,v2,v3,v4,v5,bad,stale,twice,beyond⟩:=m;obtain⟨m1,m2,m3⟩:=hm;simp only at m1 m2 m3 hk;unfold Dy at hv;simp only at hv;by_cases he:fe=0
 rotate_left 1
 ·rw[if_pos he] at hv
  obtain⟨b',eb⟩:=Z.e (bad+1);rw[<- eb] at hv;subst hv;refine Z.x Tryz.func89 λzB _ _ _ _ _ _ zC zA _ _ _ _ hz P hP=>?_;cbv;have d1:=W.ne zA he;have a1:zB .add .i64 bad 1=b':=(by rw[zC,Ag Z.o Z.o,eb]);repeat' (first|(simp only[d1,a1];cbv)|(refine Call.s hP q1 ?_;cbv)|(refine AB.s hP q1 ?_;cbv)|fail)
  exact⟨_,rfl⟩
 rw[if_neg (by simpa using he)] at hv;replace hk:=hk he;subst he;by_cases hs:fs=seq
 rotate_left 1
 ·rw[if_pos hs] at hv
  obtain⟨b',eb⟩:=Z.e (stale+1);rw[<- eb] at hv;subst hv;refine Z.x Tryz.func89 λzB _ _ _ _ _ _ zC zA _ _ _ _ hz P hP=>?_;cbv;have d1:=W.nne zA (a:=0) rfl;have d2:=W.ne zA hs;have a1:zB .add .i64 stale 1=b':=(by rw[zC,Ag Z.o Z.o,eb]);repeat' (first|(simp only[d1,d2,a1];cbv)|(refine Call.s hP q1 ?_;cbv)|(refine AB.s hP q1 ?_;cbv)|fail)
  exact⟨_,rfl⟩
 rw[if_neg (by simpa using hs)] at hv;subst hs;obtain⟨t',et⟩:=Z.e (twice+1);rw[<- et] at hv;have hit:∀(d:Bool),(if d=true then (⟨h1,h2,h3,h4,h5,v1,v2,v3,v4,v5,bad,stale,t',beyond⟩:Ml) else Ml.put ⟨h1,h2,h3,h4,h5,v1,v2,v3,v4,v5,bad,stale,twice,beyond⟩ fk fv)=match d with|true=>⟨h1,h2,h3,h4,h5,v1,v2,v3,v4,v5,bad,stale,t',beyond⟩|false=>Ml.put ⟨h1,h2,h3,h4,h5,v1,v2,v3,v4,v5,bad,stale,twice,beyond⟩ fk fv:=λd=>by cases d<;>rfl
 rw[hit] at hv;clear hit;rcases hk with hk|hk|hk|hk|hk<;>subst hk
 ·cases h1<;>simp[Ml.has,Ml.put] at hv<;>subst hv<;>(
   refine Z.x Tryz.func89 λzB _ _ _ _ _ _ zC zA _ _ _ _ hz P hP=>?_;cbv;have d1:=W.nne zA (a:=0) rfl;have d2:=W.nne zA (a:=fs) rfl;have a1:zB .add .i64 twice 1=t':=(by rw[zC,Ag Z.o Z.o,et]);repeat' (first|(simp only[d1,d2,a1];cbv)|(refine Call.s hP q1 ?_;cbv)|(refine AB.s hP q1 ?_;cbv)|(refine InN.mk Z.d Z.d ?_;(try cbv))|(refine And.intro ?_ ?_)|fail)
   all_goals exact⟨_,rfl⟩)
 ·cases h2<;>simp[Ml.has,Ml.put] at hv<;>subst hv<;>(
   refine Z.x Tryz.func89 λzB _ _ _ _ _ _ zC zA _ _ _ _ hz P hP=>?_;cbv;have d1:=W.nne zA (a:=0) rfl;have d2:=W.nne zA (a:=fs) rfl;have a1:zB .add .i64 twice 1=t':=(by rw[zC,Ag Z.o Z.o,et]);repeat' (first|(simp only[d1,d2,a1];cbv)|(refine Call.s hP q1 ?_;cbv)|(refine AB.s hP q1 ?_;cbv)|(refine InN.mk Z.d Z.d ?_;(try cbv))|(refine And.intro ?_ ?_)|fail)
   all_goals exact⟨_,rfl⟩)
 ·cases h3<;>simp[Ml.has,Ml.put] at hv<;>subst hv<;>(
   refine Z.x Tryz.func89 λzB _ _ _ _ _ _ zC zA _ _ _ _ hz P hP=>?_;cbv;have d1:=W.nne zA (a:=0) rfl;have d2:=W.nne zA (a:=fs) rfl;have a1:zB .add .i64 twice 1=t':=(by rw[zC,Ag Z.o Z.o,et]);repeat' (first|(simp only[d1,d2,a1];cbv)|(refine Call.s hP q1 ?_;cbv)|(refine AB.s hP q1 ?_;cbv)|(refine InN.mk Z.d Z.d ?_;(try cbv))|(refine And.intro ?_ ?_)|fail)
   all_goals exact⟨_,rfl⟩)
 ·cases h4<;>simp[Ml.has,Ml.put] at hv<;>subst hv<;>(
   refine Z.x Tryz.func89 λzB _ _ _ _ _ _ zC zA _ _ _ _ hz P hP=>?_;cbv;have d1:=W.nne zA (a:=0) rfl;have d2:=W.nne zA (a:=fs) rfl;have a1:zB .add .i64 twice 1=t':=(by rw[zC,Ag Z.o Z.o,et]);repeat' (first|(simp only[d1,d2,a1];cbv)|(refine Call.s hP q1 ?_;cbv)|(refine AB.s hP q1 ?_;cbv)|(refine InN.mk Z.d Z.d ?_;(try cbv))|(refine And.intro ?_ ?_)|fail)
   all_goals exact⟨_,rfl⟩)
 ·cases h5<;>simp[Ml.has,Ml.put] at hv<;>subst hv<;>(
   refine Z.x Tryz.func89 λzB _ _ _ _ _ _ zC zA _ _ _ _ _ P hP=>?_;cbv;have d1:=W.nne zA (a:=0) rfl;have d2:=W.nne zA (a:=fs) rfl;have a1:zB .add .i64 twice 1=t':=(by rw[zC,Ag Z.o Z.o,et]);repeat' (first|(simp only[d1,d2,a1];cbv)|(refine Call.s hP q1 ?_;cbv)|(refine AB.s hP q1 ?_;cbv)|(refine InN.mk Z.d Z.d ?_;(try cbv))|(refine And.intro ?_ ?_)|fail)
   all_goals exact⟨_,rfl⟩)
theorem G_(m:Ml)(k:Int)(hk:k=1\/k=2\/k=3\/k=4\/k=5)(v:Int)(o:Bool)(hv:v=m.val k)(ho:o=m.has k):A9 Tryz.prog 98 [.agg m.row,k] (· = .tuple [v,o]):=by
 obtain⟨h1,h2,h3,h4,h5,v1,v2,v3,v4,v5,bad,stale,twice,beyond⟩:=m
 rcases hk with hk|hk|hk|hk|hk<;>subst hk<;>subst hv<;>subst ho<;>(
  refine Z.y Tryz.func98 λ_ _ _ _ _ _ _ _ zA _ _ _ _ hz R hR P hP=>?_;cbv;have d1:=W.nlt zA (show (0:Int)<=1 by decide);have d2:=W.nlt zA (show (0:Int)<=2 by decide);have d3:=W.nlt zA (show (0:Int)<=3 by decide);have d4:=W.nlt zA (show (0:Int)<=4 by decide);have d5:=W.nlt zA (show (0:Int)<=5 by decide);have f1:=W.nge zA (show (1:Int)<6 by decide);have f2:=W.nge zA (show (2:Int)<6 by decide);have f3:=W.nge zA (show (3:Int)<6 by decide);have f4:=W.nge zA (show (4:Int)<6 by decide);have f5:=W.nge zA (show (5:Int)<6 by decide);repeat' (first|(simp only[d1,d2,d3,d4,d5,f1,f2,f3,f4,f5];cbv)|(refine InN.mk Z.d Z.d ?_;cbv)|fail)
  exact Z.r hR)
theorem jJ{c:Int}(h0:0<=c)(h1:c<9223372036854775808):AF .and .i64 c 255=c%256:=by
 show IntKind.i64.wrap (BitVec.ofInt 64 c &&& BitVec.ofInt 64 255).toNat=_;obtain⟨n,rfl⟩:=Int.eq_ofNat_of_zero_le h0;rw[show (255:Int)=((255:Nat):Int) from rfl,BitVec.ofInt_natCast,BitVec.ofInt_natCast,BitVec.toNat_and,BitVec.toNat_ofNat,BitVec.toNat_ofNat,Nat.mod_eq_of_lt Z.o,Nat.mod_eq_of_lt Z.d];have e:n &&& 255=n%256:=Nat.and_two_pow_sub_one_eq_mod n 8;rw[e,IntKind.wrap_i64];omega
def ml0(b:Int):Ml:=⟨false,false,false,false,false,0,0,0,0,0,0,0,0,b⟩
def Cc(c:Int)(l:List (List Int)):Ml:=(l.take 32).foldl (λm b=>Dy (c%256) m (frV b)) (ml0 ((l.length:Int)-(l.take 32).length))
def Ml.FewN(m:Ml)(n:Int):Prop:=(0<=m.bad/\m.bad<=n)/\(0<=m.stale/\m.stale<=n)/\0<=m.twice/\m.twice<=n
theorem jK{s:Int}{m:Ml}{f:Fm}{n:Int}(h:m.FewN n):(Dy s m f).FewN (n+1):=by
 unfold Ml.FewN at *;unfold Dy;split
 ·simp only;omega
 ·split
  ·simp only;omega
  ·split
   ·simp only;omega
   ·unfold Ml.put
    split
    ·simp only;omega
    ·split
     ·simp only;omega
     ·split
      ·simp only;omega
      ·split<;>(simp only;omega)
theorem Vj(c:Int)(hc:0<=c/\c<=1099511627776)(l:List (List Int))(hl:∀b,b∈l->Ar b/\b.length<=1000000)(hll:l.length<=1000000)(rs:List (List AV))(yD:rs=l.map Em)(v:Ml)(hv:v=Cc c l) :
 A9 Tryz.prog 45 [c,.list 1 rs] (· = .agg v.row):=by
 have hu:Up0 rs:=by rw[yD];exact IL _
 have hrl:rs.length=l.length:=by rw[yD];simp
 obtain⟨k,ek⟩:=Z.e (l.take 32);have hkl:k.length=min 32 l.length:=by rw[ek,List.length_take]
 obtain⟨ks,eks⟩:=Z.e (rs.take 32);have hks:ks=k.map Em:=by rw[eks,yD,ek,List.map_take]
 have huk:Up0 ks:=by rw[hks];exact IL _
 have hksl:ks.length=k.length:=by rw[hks];simp
 obtain⟨n,en⟩:∃n:Int,n=k.length:=⟨_,rfl⟩;obtain⟨bn,ebn⟩:∃n:Int,n=(l.length:Int)-k.length:=⟨_,rfl⟩;obtain⟨s,es⟩:=Z.e (c%256);unfold Cc at hv;rw[<- ek,<- ebn,<- es] at hv;have hk:∀b,b∈k->Ar b/\b.length<=1000000:=λb hb=>hl b (by rw[ek] at hb;exact List.mem_of_mem_take hb);have hnN:n.toNat=k.length:=by omega
 have hn32:0<=n/\n<=32:=by omega
 obtain⟨ll,ell⟩:∃x:Int,x=l.length:=⟨_,rfl⟩;have hbN:bn=ll-n/\ll.toNat=l.length/\0<=ll:=by omega
 clear hl ek ell;(refine A9.ofY Tryz.func45 (by kernel_rfl) (by kernel_rfl) (Z.w λzB _ _ _ _ _ yO _ _ _ _ _ zK _ _ zN _ _ _ _ hw zC zA _ _ _ _ yS _ _ _ _ _ zH _ _ yI _ _ _ _ hz R hR=>?_));(conv=>arg 2;cbv);(generalize hP:Tryz.prog=P);cbv
 (obtain⟨L,eL,L0,Ln⟩:∃L:Int,zK rs=L/\0<=L/\L.toNat=rs.length:=⟨(rs.length:Int),by rw[zH],Int.natCast_nonneg _,Int.toNat_natCast _⟩)
 have hLb:L-n=bn:=by omega
 have a0:yO false L 32=n:=by rw[yS,G5];omega
 have a1:zB .sub .i64 L n=bn:=by rw[zC,Bj Z.o Z.o,hLb]
 have a2:zB .and .i64 c 255=s:=by rw[zC,jJ hc.1 Z.o,es]
 have t1:zN rs n=ks:=by
  rw[yI,eks];show List.take n.toNat rs=List.take 32 rs;by_cases h:32<=l.length
  ·rw[show n.toNat=32 by omega]
  ·rw[List.take_of_length_le Z.o,List.take_of_length_le Z.o]
 clear en ebn eks yD;simp only[eL,a0,a1];cbv;refine Nn.mk hn32.1 ?_;refine Le.mk Z.o ?_;simp only[t1];have lk:zK ks=n:=by rw[zH];show (ks.length:Int)=n;omega
 simp only[lk];clear lk
 refine Ae.data hw (S:=Int×Ml) (λq=>fr 31 [(0,c),(4,.ref 0 16 0 0),(6,.ref 1 16 0 0),(19,.list 1 ks),(20,n),(21,q.1)])
  (λq=>[.live 16 [(ml0 0).row],.live 16 [q.2.row]])
  (λq=>0<=q.1/\q.1<=n/\q.2=(k.take q.1.toNat).foldl (λm b=>Dy s m (frV b)) (ml0 bn)/\q.2.FewN q.1) (λq=>(n-q.1).toNat) (0,ml0 bn) Z.i ⟨Int.le_refl _,hn32.1,rfl,by simp only[Ml.FewN,ml0];omega⟩ ?_
 rintro⟨i,m⟩ zJ Q' hN hE hR'
 obtain⟨zW,yZ,hm,hfew⟩:=zJ;simp only at zW yZ hm hfew;by_cases yC:i<n
 ·obtain⟨b,hb⟩:∃b,k[i.toNat]?=some b:=⟨_,List.getElem?_eq_getElem (show i.toNat<k.length by omega)⟩
  obtain⟨i2,ei2⟩:=Z.e (i+1);have htk:k.take i2.toNat=k.take i.toNat++[b]:=(by rw[ei2];exact LK zW hb);obtain⟨w,ew⟩:=Z.e (Dy s m (frV b));have hw2:w=(k.take i2.toNat).foldl (λm b=>Dy s m (frV b)) (ml0 bn):=(by rw[htk,List.foldl_append,<- hm,ew];rfl);have hfew2:w.FewN i2:=(by rw[ew,ei2];exact jK hfew);obtain⟨bs,ebs⟩:=Z.e (b.map AZ);have hub:Up0 bs:=(by rw[ebs];exact Ao _);have hbk:=hk b (List.mem_of_getElem? hb);have zL:ks[i.toNat]?=some [.list 1 bs]:=(by rw[hks,List.getElem?_map,hb,ebs];rfl);have q1:=jI b hbk.1 hbk.2 bs ebs s m (by unfold Ml.Few;unfold Ml.FewN at hfew;omega) w ew;have hum:∀m:Ml,Up0 [m.row]:=λm=>⟨rfl⟩;have hT:(n-i2).toNat<(n-i).toNat:=(by omega);clear hm ew htk hb hk hks ebs;have d1:=W.lt zA yC;have a4:zB .add .i64 i 1=i2:=(by rw[zC,Ag Z.o Z.o,ei2]);obtain⟨p1,p2,p3,p4,p5,x1,x2,x3,x4,x5,bad,stale,twice,beyond⟩:=m;obtain⟨p1',p2',p3',p4',p5',x1',x2',x3',x4',x5',bad',stale',twice',beyond'⟩:=w;cbv;repeat' (first|(simp only[d1];cbv)|(refine Idx.mk _ zW zL ?_;cbv)|fail)
  simp only[a2];refine Call.of (AJ.one (s:=1) (by rw[<- hP];exact q1) (hum _) rfl (by first|rfl|(repeat' (first|exact rfl|assumption|refine uc ?_ ?_|exact GU 1 _ (ul Z.m)|refine ua ?_))) (by simp only[BH,AV.ren,E_ hub]) ?_);rintro r hD ⟨rfl,j,rfl⟩;refine⟨rfl,_,_,rfl,hum _,?_⟩;cbv;simp only[a4];refine hN (i2,⟨p1',p2',p3',p4',p5',x1',x2',x3',x4',x5',bad',stale',twice',beyond'⟩) _ _ ?hx ?hi hT
  case hx=>exact Z.i
  case hi=>exact⟨by simp only;omega,by simp only;omega,hw2,hfew2⟩
 ·have d1:=W.nlt zA (show n<=i by omega)
  have hvm:v=m:=(by rw[hv,hm,List.take_of_length_le Z.o]);subst hvm;clear hv hm hfew hk;obtain⟨p1,p2,p3,p4,p5,x1,x2,x3,x4,x5,bad,stale,twice,beyond⟩:=v;cbv;simp only[d1];cbv;refine hE _ _ _ ?_;cbv;exact Z.r hR
structure Cf where
 c0:Int
 c1:Int
 c2:Int
 c3:Int
 c4:Int
 c5:Int
 c6:Int
 c7:Int
 c8:Int
 c9:Int
 c10:Int
 c11:Int
 c12:Int
 c13:Int
structure Pz where
 lo:Int
 hi:Int
 est:Int
 fr:Int
 rs:List (List AV)
structure Nv where
 c:Cf
 es:List (List AV)
 ds:List (List AV)
 cy:Int
 g0:Int
 g1:Int
 os:List (List AV)
 k0:Ct
 k1:Ct
 a0:Int
 b0:Int
 a1:Int
 b1:Int
 lo:Int
 hi:Int
 di:Int
 on:Bool
 gr:Int
 p:Pz
 cl:Bool
 o0:Int
 o1:Int
 s0:Int
 s1:Int
 sc:Int
 so:Bool
 ra:Bool
 ro:Bool
 m0:Int
 m1:Int
 w:Wt
def Nv.row(n:Nv):List AV:=.int .i64 n.c.c0 :: .int .i64 n.c.c1 :: .int .i64 n.c.c2 :: .int .i64 n.c.c3 :: .int .i64 n.c.c4 :: .int .i64 n.c.c5 :: .int .i64 n.c.c6 :: .int .i64 n.c.c7 :: .int .i64 n.c.c8 :: .int .i64 n.c.c9 :: .int .i64 n.c.c10 :: .int .i64 n.c.c11 :: .int .i64 n.c.c12 :: .int .i64 n.c.c13 ::
 .list 3 n.es :: .list 5 n.ds :: .bool false :: .int .i64 n.cy :: .int .i64 n.g0 :: .int .i64 n.g1 :: .list 1 n.os :: .bool n.k0.kn :: .int .u16 n.k0.la :: .int .i64 n.k0.su::[.bool n.k1.kn,.int .u16 n.k1.la,.int .i64 n.k1.su,.int .i64 n.a0,.int .i64 n.b0,.int .i64 n.a1,.int .i64 n.b1,.int .i64 n.lo,.int .i64 n.hi,.int .i64 n.di,
 .bool n.on,.int .i64 n.gr,.int .i64 n.p.lo,.int .i64 n.p.hi,.int .i64 n.p.est,.int .i64 n.p.fr,.list 13 n.p.rs,.bool n.cl,.int .i64 n.o0,.int .i64 n.o1,.int .i64 n.s0,.int .i64 n.s1,.int .i64 n.sc,.bool n.so,.bool n.ra,.bool n.ro,.int .i64 n.m0,.int .i64 n.m1,.int .i64 n.w.si,.int .i64 n.w.st,.bool n.w.fa]
structure NvU(n:Nv):Prop where
 es:Up0 n.es
 ds:Up0 n.ds
 os:Up0 n.os
 rs:Up0 n.p.rs
theorem NvU.row{n:Nv}(h:NvU n):Up0 [n.row]:=by
 obtain⟨h1,h2,h3,h4⟩:=h;exact⟨by simp only[Nv.row,BC,Af,AV.upto,h1.get,h2.get,h3.get,h4.get];rfl⟩
def Gl(n:Nv)(m:Ml):Nv×Bool×Int×Int:=
 let p:=pnV n.k0 (m.val 1) (m.has 1)
 ({ n with k0:=p.1 },p.2.2,if p.2.2 then I7 p.2.1 n.a0 n.b0 n.c.c0 else 0,if p.2.2 then I8 p.2.1 n.a0 n.b0 n.c.c0 else 0)
def Gm(n:Nv)(m:Ml):Nv×Bool×Int×Int:=
 let p:=pnV n.k1 (m.val 2) (m.has 2)
 ({ n with k1:=p.1 },p.2.2,if p.2.2 then I7 p.2.1 n.a1 n.b1 n.c.c0 else 0,if p.2.2 then I8 p.2.1 n.a1 n.b1 n.c.c0 else 0)
theorem fU(n:Nv)(hu:NvU n)(m:Ml)(hc:1<=n.c.c0/\n.c.c0<=1024)(hci:0<n.a0/\n.a0<=n.b0/\n.b0<=8388608)(hsu: -1099511627776<=n.k0.su/\n.k0.su<=1099511627776)(hv:m.has 1=true->0<=m.val 1/\m.val 1<=65535)(v:Nv)(f:Bool)(l h:Int)(e:(v,f,l,h)=Gl n m) :
 AJ Tryz.prog 90 [.ref 0 55 0 0,(0:Int),.agg m.row] [.live 55 [n.row]] (λr hp=>r = .agg [f,l,h]/\∃j,hp = .live 55 [v.row]::j):=by
 obtain⟨x,ex⟩:=Z.e (m.val 1);obtain⟨has,eh⟩:=Z.e (m.has 1);have q1:=G_ m 1 (.inl rfl) x has ex eh;rw[<- ex,<- eh] at hv;obtain⟨⟨⟨kn',la',su'⟩,d,o⟩,ek⟩:∃k:Ct×Int×Bool,k=pnV n.k0 x has:=⟨_,rfl⟩;have q2:=Ul n.k0 x has hv hsu _ d o ek
 have hd:o=true -> -32768<=d/\d<=32767:=λho=>by
  unfold pnV at ek;split at ek
  ·cases ek;cases ho
  ·split at ek
   ·cases ek;cases ho
   ·simp only[Prod.mk.injEq] at ek;rw[ek.2.1];unfold Gd;omega
 unfold Gl at e;rw[<- ex,<- eh,<- ek] at e;simp only[Prod.mk.injEq] at e;obtain⟨e1,e2,e3,e4⟩:=e;obtain⟨⟨c0,c1,c2,c3,c4,c5,c6,c7,c8,c9,c10,c11,c12,c13⟩,es,ds,cy,g0,g1,os,⟨kn0,la0,su0⟩,⟨kn1,la1,su1⟩,a0,b0,a1,b1,lo,hi,di,on,gr,⟨pl,ph,pe,fr,rs⟩,cl,o0,o1,s0,s1,sc,so,ra,ro,m0,m1,⟨wi,wt,wf⟩⟩:=n;simp only at hc hci q2 e1 e3 e4;have hup:NvU ⟨⟨c0,c1,c2,c3,c4,c5,c6,c7,c8,c9,c10,c11,c12,c13⟩,es,ds,cy,g0,g1,os,⟨kn0,la0,su0⟩,⟨kn1,la1,su1⟩,a0,b0,a1,b1,lo,hi,di,on,gr,⟨pl,ph,pe,fr,rs⟩,cl,o0,o1,s0,s1,sc,so,ra,ro,m0,m1,⟨wi,wt,wf⟩⟩:=hu;clear ex eh ek hv hsu;obtain⟨p1,p2,p3,p4,p5,x1,x2,x3,x4,x5,bad,stale,twice,beyond⟩:=m
 cases o with
 | false =>
   simp only[Bool.false_eq_true,if_false] at e3 e4;subst e1 e2 e3 e4;refine Z.x Tryz.func90 λzB _ _ _ zF _ _ zC _ _ _ zI _ hz P hP=>?_;cbv;have a1:zB .add .i64 1 0=1:=(by rw[zC];rfl);have n1:zF false=true:=(by rw[zI];rfl);repeat' (first|(simp only[n1,a1];cbv)|(refine Call.s hP q1 ?_;cbv)|(refine AB.s hP q1 ?_;cbv)|(refine Call.s hP q2 ?_;cbv)|(refine AB.s hP q2 ?_;cbv)|(refine InN.mk Z.d Z.d ?_;(try cbv))|(refine And.intro ?_ ?_)|fail)
   all_goals exact⟨_,rfl⟩
 | true =>
   simp only[if_true] at e3 e4;have hd:=hd rfl;have q3:=Uh (p:=c0) hd.1 hd.2 hci.1 hci.2.1 hci.2.2 hc.1 hc.2 e3 e4;subst e1 e2;clear e3 e4;refine Z.x Tryz.func90 λzB _ _ _ zF _ _ zC _ _ _ zI _ hz P hP=>?_;cbv;have a1:zB .add .i64 1 0=1:=(by rw[zC];rfl);have n1:zF true=false:=(by rw[zI];rfl);repeat' (first|(simp only[n1,a1];cbv)|(refine Call.s hP q1 ?_;cbv)|(refine AB.s hP q1 ?_;cbv)|(refine Call.s hP q2 ?_;cbv)|(refine AB.s hP q2 ?_;cbv)|(refine Call.s hP q3 ?_;cbv)|(refine AB.s hP q3 ?_;cbv)|(refine InN.mk Z.d Z.d ?_;(try cbv))|(refine And.intro ?_ ?_)|fail)
   all_goals exact⟨_,rfl⟩
theorem fV(n:Nv)(hu:NvU n)(m:Ml)(hc:1<=n.c.c0/\n.c.c0<=1024)(hci:0<n.a1/\n.a1<=n.b1/\n.b1<=8388608)(hsu: -1099511627776<=n.k1.su/\n.k1.su<=1099511627776)(hv:m.has 2=true->0<=m.val 2/\m.val 2<=65535)(v:Nv)(f:Bool)(l h:Int)(e:(v,f,l,h)=Gm n m) :
 AJ Tryz.prog 90 [.ref 0 55 0 0,(1:Int),.agg m.row] [.live 55 [n.row]] (λr hp=>r = .agg [f,l,h]/\∃j,hp = .live 55 [v.row]::j):=by
 obtain⟨x,ex⟩:=Z.e (m.val 2);obtain⟨has,eh⟩:=Z.e (m.has 2);have q1:=G_ m 2 (.inr (.inl rfl)) x has ex eh;rw[<- ex,<- eh] at hv;obtain⟨⟨⟨kn',la',su'⟩,d,o⟩,ek⟩:∃k:Ct×Int×Bool,k=pnV n.k1 x has:=⟨_,rfl⟩;have q2:=Ul n.k1 x has hv hsu _ d o ek
 have hd:o=true -> -32768<=d/\d<=32767:=λho=>by
  unfold pnV at ek;split at ek
  ·cases ek;cases ho
  ·split at ek
   ·cases ek;cases ho
   ·simp only[Prod.mk.injEq] at ek;rw[ek.2.1];unfold Gd;omega
 unfold Gm at e;rw[<- ex,<- eh,<- ek] at e;simp only[Prod.mk.injEq] at e;obtain⟨e1,e2,e3,e4⟩:=e;obtain⟨⟨c0,c1,c2,c3,c4,c5,c6,c7,c8,c9,c10,c11,c12,c13⟩,es,ds,cy,g0,g1,os,⟨kn0,la0,su0⟩,⟨kn1,la1,su1⟩,a0,b0,a1,b1,lo,hi,di,on,gr,⟨pl,ph,pe,fr,rs⟩,cl,o0,o1,s0,s1,sc,so,ra,ro,m0,m1,⟨wi,wt,wf⟩⟩:=n;simp only at hc hci q2 e1 e3 e4;have hup:NvU ⟨⟨c0,c1,c2,c3,c4,c5,c6,c7,c8,c9,c10,c11,c12,c13⟩,es,ds,cy,g0,g1,os,⟨kn0,la0,su0⟩,⟨kn1,la1,su1⟩,a0,b0,a1,b1,lo,hi,di,on,gr,⟨pl,ph,pe,fr,rs⟩,cl,o0,o1,s0,s1,sc,so,ra,ro,m0,m1,⟨wi,wt,wf⟩⟩:=hu;clear ex eh ek hv hsu;obtain⟨p1,p2,p3,p4,p5,x1,x2,x3,x4,x5,bad,stale,twice,beyond⟩:=m
 cases o with
 | false =>
   simp only[Bool.false_eq_true,if_false] at e3 e4;subst e1 e2 e3 e4;refine Z.x Tryz.func90 λzB _ _ _ zF _ _ zC _ _ _ zI _ hz P hP=>?_;cbv;have a1:zB .add .i64 1 1=2:=(by rw[zC];rfl);have n1:zF false=true:=(by rw[zI];rfl);repeat' (first|(simp only[n1,a1];cbv)|(refine Call.s hP q1 ?_;cbv)|(refine AB.s hP q1 ?_;cbv)|(refine Call.s hP q2 ?_;cbv)|(refine AB.s hP q2 ?_;cbv)|(refine InN.mk Z.d Z.d ?_;(try cbv))|(refine And.intro ?_ ?_)|fail)
   all_goals exact⟨_,rfl⟩
 | true =>
   simp only[if_true] at e3 e4;have hd:=hd rfl;have q3:=Uh (p:=c0) hd.1 hd.2 hci.1 hci.2.1 hci.2.2 hc.1 hc.2 e3 e4;subst e1 e2;clear e3 e4;refine Z.x Tryz.func90 λzB _ _ _ zF _ _ zC _ _ _ zI _ _ P hP=>?_;cbv;have a1:zB .add .i64 1 1=2:=(by rw[zC];rfl);have n1:zF true=false:=(by rw[zI];rfl);repeat' (first|(simp only[n1,a1];cbv)|(refine Call.s hP q1 ?_;cbv)|(refine AB.s hP q1 ?_;cbv)|(refine Call.s hP q2 ?_;cbv)|(refine AB.s hP q2 ?_;cbv)|(refine Call.s hP q3 ?_;cbv)|(refine AB.s hP q3 ?_;cbv)|(refine InN.mk Z.d Z.d ?_;(try cbv))|(refine And.intro ?_ ?_)|fail)
   all_goals exact⟨_,rfl⟩
def I6(n:Nv)(m:Ml):Bool×Int×Int:=if m.has 3 then (true,m.val 3-Gq n.c.c3 n.c.c4 (m.val 3),m.val 3+Gq n.c.c3 n.c.c4 (m.val 3)) else (false,0,0)
theorem fZ(n:Nv)(m:Ml)(h3:0<=n.c.c3/\n.c.c3<=1048576)(h4:0<=n.c.c4/\n.c.c4<=65536)(hv:m.has 3=true -> -2147483648<=m.val 3/\m.val 3<=2147483648)(f:Bool)(l h:Int)(e:(f,l,h)=I6 n m) :
 AJ Tryz.prog 91 [.ref 0 55 0 0,.agg m.row] [.live 55 [n.row]] (λr hp=>r = .agg [f,l,h]/\∃j,hp = .live 55 [n.row]::j):=by
 obtain⟨x,ex⟩:=Z.e (m.val 3);obtain⟨has,eh⟩:=Z.e (m.has 3);have q1:=G_ m 3 (.inr (.inr (.inl rfl))) x has ex eh;unfold I6 at e;rw[<- ex,<- eh] at e hv;obtain⟨⟨c0,c1,c2,c3,c4,c5,c6,c7,c8,c9,c10,c11,c12,c13⟩,es,ds,cy,g0,g1,os,⟨kn0,la0,su0⟩,⟨kn1,la1,su1⟩,a0,b0,a1,b1,lo,hi,di,on,gr,⟨pl,ph,pe,fr,rs⟩,cl,o0,o1,s0,s1,sc,so,ra,ro,m0,m1,⟨wi,wt,wf⟩⟩:=n;simp only at h3 h4 e;clear ex eh;obtain⟨p1,p2,p3,p4,p5,x1,x2,x3,x4,x5,bad,stale,twice,beyond⟩:=m
 cases has with
 | false =>
   simp only[Bool.false_eq_true,if_false,Prod.mk.injEq] at e;obtain⟨rfl,rfl,rfl⟩:=e;clear hv;refine Z.x Tryz.func91 λ_ _ _ _ zF _ _ _ _ _ _ zI _ hz P hP=>?_;cbv;have n1:zF false=true:=(by rw[zI];rfl);repeat' (first|(simp only[n1];cbv)|(refine Call.s hP q1 ?_;cbv)|(refine AB.s hP q1 ?_;cbv)|fail)
   exact⟨_,rfl⟩
 | true =>
   simp only[if_true,Prod.mk.injEq] at e;obtain⟨rfl,e1,e2⟩:=e;have q2:=ig c0 c1 c2 c3 c4 c5 c6 c7 c8 c9 c10 c11 c12 c13 x l h h3 h4 (hv rfl) e1.symm e2.symm;clear e1 e2 hv;refine Z.x Tryz.func91 λ_ _ _ _ zF _ _ _ _ _ _ zI _ _ P hP=>?_;cbv;have n1:zF true=false:=(by rw[zI];rfl);repeat' (first|(simp only[n1];cbv)|(refine Call.s hP q1 ?_;cbv)|(refine AB.s hP q1 ?_;cbv)|(refine Call.s hP q2 ?_;cbv)|(refine AB.s hP q2 ?_;cbv)|fail)
   exact⟨_,rfl⟩
structure Sg where
 len:Int
 ps:List (Int×Int)
 nx:List Int
structure Gr where
 id:Int
 seg:Int
 off:Int
 acc:Int
 sl:Int
def Ap(p:Int×Int):List AV:=[p.1,p.2]
def Ac(n:Int):List AV:=[n]
def Ah(s:Sg):List AV:=[s.len,.list 2 (s.ps.map Ap),.list 1 (s.nx.map Ac)]
def Ak(g:Gr):List AV:=[g.id,g.seg,g.off,g.acc,g.sl]
theorem RG{len:Int}{q n:List (List AV)}(hq:Up0 q)(hn:Up0 n):Af 0 [len,.list 2 q,.list 1 n]=true:=
 Bool.and_eq_true_iff.mpr ⟨rfl,Up0.one hq (Up0.one hn rfl)⟩
theorem E5(ps:List (Int×Int)):Up0 (ps.map Ap):=BM (f:=Ap) (λd=>rfl) ps
theorem CG(ns:List Int):Up0 (ns.map Ac):=BM (f:=Ac) (λd=>rfl) ns
theorem Bv(gs:List Gr):Up0 (gs.map Ak):=BM (f:=Ak) (λd=>rfl) gs
theorem Bu(ss:List Sg):Up0 (ss.map Ah):=BM (f:=Ah) (λs=>RG (E5 s.ps) (CG s.nx)) ss
def Ip(ps:List (Int×Int))(len:Int)(j:Nat):Prop:=
 ∀p,ps[j]?=some p -> -1048576<=p.2/\p.2<=1048576/\p.1<len/\(0<j->∀o,ps[j-1]?=some o->o.1<p.1)
structure Hl(ps:List (Int×Int))(len:Int):Prop where
 ne:1<=ps.length
 le:ps.length<=64
 zero:∀p,ps[0]?=some p->p.1=0
 all:∀j,j<ps.length->Ip ps len j
theorem Fj{P:Nat->Prop}{i:Int}(h0:0<=i)(h:∀j,j<i.toNat->P j)(hi:P i.toNat):∀j,j<(i+1).toNat->P j:=by
 intro j hj;by_cases e:j=i.toNat
 ·rw[e];exact hi
 ·exact h j Z.o
theorem jL(ps:List (Int×Int))(q:List (List AV))(hq:q=ps.map Ap)(len:Int):A9 Tryz.prog 136 [.list 2 q,len] (λr=>∃o:Bool,r = .bool o/\(o=true↔Hl ps len)):=by
 have hu:Up0 q:=by rw[hq];exact E5 ps
 have hql:q.length=ps.length:=by rw[hq];simp
 refine Z.y Tryz.func136 λzB _ _ _ _ zK hw zC _ yJ _ _ zH hz R hR P hP=>?_;cbv
 (obtain⟨L,eL,L0,Ln⟩:∃L:Int,zK q=L/\0<=L/\L.toNat=q.length:=⟨(q.length:Int),by rw[zH],Int.natCast_nonneg _,Int.toNat_natCast _⟩)
 have hF:¬Hl ps len->R (.bool false):=λhn=>hR _ ⟨_,rfl,⟨λh=>(by cases h),λh=>absurd h hn⟩⟩;(split<;>rename_i h1<;>(try (simp only[eL] at h1))<;>(try (simp only[hz,Z.a,AF,AC,AO,AP,AL,reduceCtorEq] at h1))<;>(try cbv))
 ·exact⟨_,Vw.same rfl,hF λhM=>(by have:=hM.ne;omega)⟩
 (split<;>rename_i h2<;>(try (simp only[eL] at h2))<;>(try (simp only[hz,Z.a,AF,AC,AO,AP,AL,reduceCtorEq] at h2))<;>(try cbv))
 ·exact⟨_,Vw.same rfl,hF λhM=>(by have:=hM.le;omega)⟩
 obtain⟨⟨x,y⟩,hd,zL⟩:=BI (f:=Ap) (ds:=ps) (i:=0) (Int.le_refl 0) Z.o;have zL:q[(0:Int).toNat]?=some [.int .i64 x,.int .i64 y]:=by rw[hq];exact zL
 refine Idx.mk [.int .i64 x,.int .i64 y] Z.d zL ?_;cbv;(split<;>rename_i h3<;>(try (simp only[hz,Z.a,AF,AC,AO,AP,AL,reduceCtorEq] at h3))<;>(try cbv))
 ·exact⟨_,Vw.same rfl,hF λhM=>h3 (hM.zero _ hd)⟩
 refine Ae.data hw (S:=Int) (λi=>fr 66 [(0,.list 2 q),(1,len),(5,i)]) (λi=>[]) (λi=>0<=i/\i<=L/\∀j,j<i.toNat->Ip ps len j) (λi=>(L-i).toNat) 0 Z.i ⟨Int.le_refl _,L0,λj hj=>(by simp at hj)⟩ ?_;rintro i zJ Q' hN hE hR';have zJ:0<=i/\i<=L/\∀j,j<i.toNat->Ip ps len j:=zJ;cbv;obtain⟨zW,yZ,hl⟩:=zJ;(split<;>rename_i hc<;>(try (simp only[eL] at hc))<;>(try (simp only[hz,Z.a,AF,AC,AO,AP,AL,reduceCtorEq] at hc))<;>(try cbv))
 ·obtain⟨⟨a,b⟩,hd2,yW⟩:=BI (f:=Ap) (ds:=ps) (i:=i) zW Z.o
  have yW:q[i.toNat]?=some [.int .i64 a,.int .i64 b]:=(by rw[hq];exact yW);obtain⟨i',ei'⟩:=Z.f (i+1);obtain⟨im,eim⟩:=Z.f (i-1);have ei:zB .add .i64 i 1=i':=(by rw[zC,Ag Z.o Z.o];exact ei');have em:zB .sub .i64 i 1=im:=(by rw[zC,Bj Z.o Z.o];exact eim);have hT:(L-i').toNat<(L-i).toNat:=by omega
  obtain⟨a',b',hp'⟩:∃a' b',0<i->0<=im/\ps[i.toNat-1]?=some (a',b')/\q[im.toNat]?=some [.int .i64 a',.int .i64 b']:=by
   by_cases h:0<i
   ·obtain⟨⟨a',b'⟩,k1,k2⟩:=BI (f:=Ap) (ds:=ps) (i:=im) Z.o Z.o
    exact⟨a',b',λ_=>⟨by omega,by rw[<- k1];congr 1;omega,by rw[hq];exact k2⟩⟩
   ·exact⟨0,0,λh'=>absurd h' h⟩
  have fin:(-1048576<=b/\b<=1048576/\a<len/\(0<i->a'<a))->∀j,j<i'.toNat->Ip ps len j:=by
   intro hh;rw[<- ei'];refine Fj zW hl λp hp=>?_;rw[hd2] at hp;obtain rfl:(a,b)=p:=(by simpa using hp);refine⟨hh.1,hh.2.1,hh.2.2.1,λhj o ho=>?_⟩;rw[(hp' Z.o).2.1] at ho;obtain rfl:(a',b')=o:=(by simpa using ho);exact hh.2.2.2 Z.o
  have bad:Hl ps len -> -1048576<=b/\b<=1048576/\a<len/\(0<i->a'<a):=by
   intro hM;obtain⟨m1,m2,m3,m4⟩:=hM.all i.toNat Z.o _ hd2;exact⟨m1,m2,m3,λh=>m4 Z.o _ (hp' h).2.1⟩
  repeat' (first
   | (refine hR' _ _ ⟨_,Vw.same rfl,hF λhM=>?_⟩;obtain⟨m1,m2,m3,m4⟩:=bad hM;clear hN hE hR' hR hF;omega)
   | (refine Idx.mk [.int .i64 a,.int .i64 b] zW yW ?_;cbv)
   | (simp only[em];refine Idx.mk [.int .i64 a',.int .i64 b'] (hp' Z.m).1 (hp' Z.m).2.2 ?_;cbv)
   | (split<;>rename_i h<;>(try (simp only[hz,Z.a,AF,AC,AO,AP,AL,reduceCtorEq] at h))<;>(try cbv)))
  all_goals
   refine hN i' _ _ ?hx ?hi hT
   case hx=>exact Z.i
   case hi=>exact⟨by omega,by omega,fin ⟨by omega,by omega,by omega,by omega⟩⟩
 ·refine hE _ _ _ ?_
  cbv;exact⟨_,Vw.same rfl,hR _ ⟨_,rfl,⟨λ_=>⟨by omega,by omega,λp hp=>(by rw[show ps[0]?=some (x,y) from hd] at hp;obtain rfl:(x,y)=p:=(by simpa using hp);exact h3),λj hj=>hl j Z.o⟩,λ_=>rfl⟩⟩⟩
structure Ci(s:Sg)(many:Int):Prop where
 pos:1<=s.len
 le:s.len<=1099511627776
 may:Hl s.ps s.len
 two:s.nx.length<=2
 nx:∀j,j<s.nx.length->∀n,s.nx[j]?=some n->0<=n/\n<many
 lt:∀a b,s.nx[0]?=some a->s.nx[1]?=some b->a<b
theorem Uw(s:Sg)(q n1:List (List AV))(hq:q=s.ps.map Ap)(hn1:n1=s.nx.map Ac)(many:Int):A9 Tryz.prog 87 [.agg [s.len,.list 2 q,.list 1 n1],many] (λr=>∃o:Bool,r = .bool o/\(o=true↔Ci s many)):=by
 obtain⟨len,ps,nx⟩:=s;have hq:q=ps.map Ap:=hq;have hn1:n1=nx.map Ac:=hn1;have hu:Up0 q:=by rw[hq];exact E5 ps
 have yJ:Up0 n1:=by rw[hn1];exact CG nx
 have hnl:n1.length=nx.length:=by rw[hn1];simp
 refine Z.y Tryz.func87 λzB _ _ _ _ zK hw zC zA _ _ _ zH hz R hR P hP=>?_;cbv
 (obtain⟨L,eL,L0,Ln⟩:∃L:Int,zK n1=L/\0<=L/\L.toNat=n1.length:=⟨(n1.length:Int),by rw[zH],Int.natCast_nonneg _,Int.toNat_natCast _⟩)
 have hF:¬Ci ⟨len,ps,nx⟩ many->R (.bool false):=λhn=>hR _ ⟨_,rfl,⟨λh=>(by cases h),λh=>absurd h hn⟩⟩;(split<;>rename_i h1<;>(try (simp only[hz,Z.a,AF,AC,AO,AP,AL,reduceCtorEq] at h1))<;>(try cbv))
 ·exact⟨_,Vw.same rfl,hF λhM=>(by have k:1<=len:=hM.pos;omega)⟩
 (split<;>rename_i h2<;>(try (simp only[hz,Z.a,AF,AC,AO,AP,AL,reduceCtorEq] at h2))<;>(try cbv))
 ·exact⟨_,Vw.same rfl,hF λhM=>(by have k:len<=1099511627776:=hM.le;omega)⟩
 refine Call.step (by rw[<- hP];exact jL ps q hq len) (by exact Up0.one hu rfl) ?_;rintro r ⟨o,rfl,hmay⟩;cbv;(split<;>rename_i h3<;>(try (simp only[hz,Z.a,AF,AC,AO,AP,AL,reduceCtorEq] at h3))<;>(try cbv))
 ·exact⟨_,Vw.same rfl,hF λhM=>(by rw[hmay.2 hM.may] at h3;cases h3)⟩
 have hmay:=hmay.1 Z.m;(split<;>rename_i h4<;>(try (simp only[eL] at h4))<;>(try (simp only[hz,Z.a,AF,AC,AO,AP,AL,reduceCtorEq] at h4))<;>(try cbv))
 ·exact⟨_,Vw.same rfl,hF λhM=>(by have k:nx.length<=2:=hM.two;omega)⟩
 refine Ae.data hw (S:=Int) (λi=>fr 65 [(1,many),(2,.ref 0 3 0 0),(5,i)]) (λi=>[.live 3 [[len,.list 2 q,.list 1 n1]]]) (λi=>0<=i/\i<=L/\∀j,j<i.toNat->∀n,nx[j]?=some n->0<=n/\n<many) (λi=>(L-i).toNat) 0 Z.i ⟨Int.le_refl _,L0,λj hj=>(by simp at hj)⟩ ?_;rintro i zJ Q' hN hE hR';have zJ:0<=i/\i<=L/\∀j,j<i.toNat->∀n,nx[j]?=some n->0<=n/\n<many:=zJ;cbv;obtain⟨zW,yZ,hl⟩:=zJ;(split<;>rename_i hc<;>(try (simp only[eL] at hc))<;>(try (simp only[hz,Z.a,AF,AC,AO,AP,AL,reduceCtorEq] at hc))<;>(try cbv))
 ·obtain⟨n,hd2,yW⟩:=BI (f:=Ac) (ds:=nx) (i:=i) zW Z.o
  have yW:n1[i.toNat]?=some [.int .i64 n]:=(by rw[hn1];exact yW);obtain⟨i',ei'⟩:=Z.f (i+1);have ei:zB .add .i64 i 1=i':=(by rw[zC,Ag Z.o Z.o];exact ei');have hT:(L-i').toNat<(L-i).toNat:=(by omega);have bad:Ci ⟨len,ps,nx⟩ many->0<=n/\n<many:=λhM=>hM.nx i.toNat (show i.toNat<nx.length by omega) n hd2
  repeat' (first
   | (refine hR' _ _ ⟨_,Vw.same rfl,hF λhM=>?_⟩;obtain⟨m1,m2⟩:=bad hM;clear hN hE hR' hR hF;omega)
   | (refine Idx.mk [.int .i64 n] zW yW ?_;cbv)
   | (split<;>rename_i h<;>(try (simp only[hz,Z.a,AF,AC,AO,AP,AL,reduceCtorEq] at h))<;>(try cbv)))
  refine hN i' _ _ ?hx ?hi hT
  case hx=>exact Z.i
  case hi =>
   refine⟨by omega,by omega,?_⟩;rw[<- ei'];refine Fj zW hl λm hm=>?_;rw[hd2] at hm;obtain rfl:n=m:=(by simpa using hm);exact⟨by omega,by omega⟩
 ·refine hE _ _ _ ?_
  cbv;have fin:(∀a b,nx[0]?=some a->nx[1]?=some b->a<b)->Ci ⟨len,ps,nx⟩ many:=λhlt=>⟨h1,by omega,hmay,by simp only;omega,λj hj n hn=>hl j (by simp only at hj;omega) n hn,hlt⟩;(split<;>rename_i h5<;>(try (simp only[eL] at h5))<;>(try (simp only[hz,Z.a,AF,AC,AO,AP,AL,reduceCtorEq] at h5))<;>(try cbv))
  ·refine⟨_,Vw.same rfl,hR _ ⟨_,rfl,⟨λ_=>fin λa b ha hb=>?_,λ_=>rfl⟩⟩⟩
   have:=(List.getElem?_eq_some_iff.1 hb).1;omega
  ·obtain⟨x,hdx,hrx⟩:=BI (f:=Ac) (ds:=nx) (i:=0) (Int.le_refl 0) Z.o
   obtain⟨y,hdy,hry⟩:=BI (f:=Ac) (ds:=nx) (i:=1) Z.d Z.o;refine Idx.mk [.int .i64 x] Z.d (by rw[hn1];exact hrx) ?_;cbv;refine Idx.mk [.int .i64 y] Z.d (by rw[hn1];exact hry) ?_;cbv;have k1:nx[0]?=some x:=hdx;have k2:nx[1]?=some y:=hdy;refine⟨_,Vw.same rfl,hR _ ⟨_,rfl,⟨λho=>fin λa b ha hb=>?_,λhM=>?_⟩⟩⟩
   rotate_left
   ·have:=hM.lt x y k1 k2
    rw[zA];simp[AC];omega
   rw[k1] at ha;rw[k2] at hb;rw[zA] at ho;simp[AC] at ho ha hb;omega
theorem YD(s:Sg)(q n1:List (List AV))(hq:q=s.ps.map Ap)(hn1:n1=s.nx.map Ac)(many:Int):∃o:Bool,A9 Tryz.prog 87 [.agg [s.len,.list 2 q,.list 1 n1],many] (· = .bool o)/\(o=true↔Ci s many):=by
 by_cases h:Ci s many
 ·refine⟨true,(Uw s q n1 hq hn1 many).mono ?_,by simp[h]⟩
  rintro r ⟨o,rfl,ho⟩;rw[ho.2 h]
 ·refine⟨false,(Uw s q n1 hq hn1 many).mono ?_,by simp[h]⟩
  rintro r ⟨o,rfl,ho⟩
  cases o with
  | false=>rfl
  | true=>exact absurd (ho.1 rfl) h
def Ig(ss:List Sg)(gs:List Gr)(j:Nat):Prop:=
 ∀g,gs[j]?=some g->0<g.id/\g.id<=65535/\0<=g.seg/\g.seg.toNat<ss.length/\0<=g.off/\(∀s,ss[g.seg.toNat]?=some s->g.off<=s.len)/\0<=g.acc/\g.acc<=1048576/\0<=g.sl/\g.sl<=16777216/\(0<j->∀o,gs[j-1]?=some o->o.id<g.id)
structure BN(ss:List Sg)(gs:List Gr):Prop where
 ne:1<=ss.length
 le:ss.length<=200
 gle:gs.length<=400
 seg:∀j,j<ss.length->∀s,ss[j]?=some s->Ci s ss.length
 grp:∀j,j<gs.length->Ig ss gs j
def BD(ss:List Sg)(n:Int):Int:=match ss[n.toNat]? with|some s=>s.len|none=>0
def D7(l:List Int):List AV:=[.list 1 (l.map Ac)]
theorem JQ(rs:List (List Int)):Up0 (rs.map D7):=BM (f:=D7) (λd=>Up0.one (CG d) rfl) rs
theorem Eu{α: Type}{l:List α}{i:Int}{a: α}(h0:0<=i)(hr:l[i.toNat]?=some a):l.take (i+1).toNat=l.take i.toNat++[a]:=by
 rw[show (i+1).toNat=i.toNat+1 by omega,List.take_add_one,hr];rfl
structure CS(ss:List Sg):Prop where
 pos:∀s,s∈ss->1<=s.len/\s.len<=1099511627776
theorem KC{a b c d l h:Int}(h1:a<=b)(h2:c<=d)(hl:min a c=l)(hh:max b d=h):A9 Tryz.prog 84 [.agg [a,b],.agg [c,d]] (· = .agg [l,h]):=by
 have r1:=Dt (a:=a) (b:=b) true (by simp[h1]);have r2:=Dt (a:=c) (b:=d) true (by simp[h2]);(refine A9.ofY Tryz.func84 (by kernel_rfl) (by kernel_rfl) (Z.w λ_ _ _ _ zF _ yO _ _ _ _ _ _ _ _ _ _ _ _ _ _ _ _ _ _ zI _ yS _ _ _ _ _ _ _ _ _ _ _ _ _ hz R hR=>?_));(conv=>arg 2;cbv);(generalize hP:Tryz.prog=P);cbv;have e1:yO false a c=l:=by rw[yS,G5,hl]
 have e2:yO true b d=h:=by rw[yS,I1,hh]
 have n1:zF true=false:=by rw[zI];rfl
 repeat' (first
  | (refine Call.stepE (by rw[<- hP];exact r1) rfl ?_;cbv)
  | (refine Call.stepE (by rw[<- hP];exact r2) rfl ?_;cbv)
  | (simp only[n1];cbv))
 simp only[e1,e2];exact Z.r hR
theorem PV(a:Int):A9 Tryz.prog 82 [a] (· = .agg [a,a]):=by
 refine Z.y Tryz.func82 λ_ _ _ _ _ _ _ _ _ _ _ _ _ hz R hR P hP=>?_;cbv;exact Z.r hR
def Gt(ps:List (Int×Int))(lo hi:Int)(i:Nat):Bool:=
 decide ((i=0\/∀p,ps[i]?=some p->p.1<=hi)/\(∀q,ps[i+1]?=some q->lo<=q.1))
def Jz(ps:List (Int×Int))(lo hi:Int)(s:Int×Int×Bool)(i:Nat):Int×Int×Bool:=
 if Gt ps lo hi i then (if s.2.2 then (min s.1 (ps.getD i (0,0)).2,max s.2.1 (ps.getD i (0,0)).2,true) else ((ps.getD i (0,0)).2,(ps.getD i (0,0)).2,true)) else s
def Bl(ps:List (Int×Int))(lo hi:Int)(n:Nat):Int×Int×Bool:=(List.range n).foldl (Jz ps lo hi) (0,0,false)
theorem Pi(ps:List (Int×Int))(lo hi:Int)(n:Nat):Bl ps lo hi (n+1)=Jz ps lo hi (Bl ps lo hi n) n:=by
 unfold Bl;rw[List.range_succ,List.foldl_append];rfl
theorem JK(ps:List (Int×Int))(lo hi:Int):∀n,(Bl ps lo hi n).1<=(Bl ps lo hi n).2.1
 | 0=>Int.le_refl _
 | n+1=>by
   have:=JK ps lo hi n;rw[Pi];unfold Jz;split
   ·split<;>simp only<;>omega
   ·exact this
theorem Oq{ps:List (Int×Int)}(hg:∀i,i<ps.length -> -1048576<=(ps.getD i (0,0)).2/\(ps.getD i (0,0)).2<=1048576)(lo hi:Int):∀n,n<=ps.length -> -1048576<=(Bl ps lo hi n).1/\(Bl ps lo hi n).2.1<=1048576/\(Bl ps lo hi n).1<=1048576 /\ -1048576<=(Bl ps lo hi n).2.1
 | 0,_=>by simp[Bl]
 | n+1,hn=>by
   have h1:=Oq hg lo hi n Z.o;have h2:=hg n Z.o;rw[Pi];unfold Jz;split
   ·split<;>simp only<;>omega
   ·exact h1
structure Ev(ps:List (Int×Int)):Prop where
 zero:∀p,ps[0]?=some p->p.1=0
 ne:1<=ps.length
 le:ps.length<=64
 gr:∀i,i<ps.length -> -1048576<=(ps.getD i (0,0)).2/\(ps.getD i (0,0)).2<=1048576
theorem QQ(ps:List (Int×Int))(hn:ps.length<=1000)(q:List (List AV))(hq:q=ps.map Ap)(lo hi:Int)(hlh:lo<=hi)(v:Int×Int×Bool)(ev:v=Bl ps lo hi ps.length) :
 A9 Tryz.prog 83 [.list 2 q,.agg [lo,hi]] (· = .tuple [.agg [v.1,v.2.1],v.2.2]):=by
 have huq:Up0 q:=by rw[hq];exact E5 ps
 have hql:q.length=ps.length:=by rw[hq];simp
 have hr:=Dt (a:=lo) (b:=hi) true (by simp[hlh]);obtain⟨v1,v2,v3⟩:=v;refine Z.y Tryz.func83 λzB _ _ _ zF zK hw zC _ _ _ zI zH hz R hR P hP=>?_;cbv
 (obtain⟨L,eL,L0,Ln⟩:∃L:Int,zK q=L/\0<=L/\L.toNat=q.length:=⟨(q.length:Int),by rw[zH],Int.natCast_nonneg _,Int.toNat_natCast _⟩)
 simp only[eL]
 refine Ae.data hw (S:=Int×Int×Int×Bool×Int×Int) (λs=>fr 66 [(0,.list 2 q),(3,.ref 0 2 0 0),(4,.ref 1 2 0 0),(6,.ref 2 2 0 0),(7,s.2.2.2.1),(12,.list 2 q),(13,L),(14,s.1)])
  (λs=>[.live 2 [[lo,hi]],.live 2 [[s.2.2.2.2.1,s.2.2.2.2.2]],.live 2 [[s.2.1,s.2.2.1]]])
  (λs=>0<=s.1/\s.1<=L/\(s.2.1,s.2.2.1,s.2.2.2.1)=Bl ps lo hi s.1.toNat) (λs=>(L-s.1).toNat) (0,0,0,false,0,0) Z.i ⟨Int.le_refl _,L0,rfl⟩ ?_
 rintro⟨i,a,b,f,x0,y0⟩ zJ Q' hN hE hR'
 have zJ:0<=i/\i<=L/\(a,b,f)=Bl ps lo hi i.toNat:=zJ;cbv;obtain⟨zW,yZ,hab⟩:=zJ;(split<;>rename_i hc<;>(try (simp only[hz,Z.a,AF,AC,AO,AP,AL,reduceCtorEq] at hc))<;>(try cbv))
 rotate_left 1
 ·refine hE _ _ _ ?_
  cbv;have e:(v1,v2,v3)=(a,b,f):=(by rw[ev,hab];congr 1;omega);simp only[Prod.mk.injEq] at e;obtain⟨rfl,rfl,rfl⟩:=e;repeat' (refine And.intro ?_ ?_)
  all_goals exact Z.r hR
 obtain⟨⟨x,y⟩,hd,zL⟩:=BI (f:=Ap) (ds:=ps) (i:=i) zW Z.o;have zL:q[i.toNat]?=some [.int .i64 x,.int .i64 y]:=by rw[hq];exact zL
 obtain⟨i2,ei2⟩:=Z.e (i+1);have a4:zB .add .i64 i 1=i2:=by rw[zC,ei2];show IntKind.i64.wrap (i+1)=i+1;rw[IntKind.wrap_i64];omega
 have hstep:Bl ps lo hi i2.toNat=Jz ps lo hi (a,b,f) i.toNat:=by rw[hab,<- Pi];congr 1;omega
 have hle:a<=b:=by
  have:=JK ps lo hi i.toNat;rw[<- hab] at this;exact this
 have hgy:(ps.getD i.toNat (0,0)).2=y:=by rw[List.getD_eq_getElem?_getD,hd];rfl
 have n1:zF true=false:=by rw[zI];rfl
 have n2:zF false=true:=by rw[zI];rfl
 obtain⟨l',el'⟩:=Z.f (min a y);obtain⟨h',eh'⟩:=Z.f (max b y);have k1:=KC hle (Int.le_refl y) el' eh';have k2:=KC (Int.le_refl y) (Int.le_refl y) (show min y y=y by omega) (show max y y=y by omega);have k3:=PV y
 have hgo:∀(o:Bool),Gt ps lo hi i.toNat=o->Bl ps lo hi i2.toNat=if o then (if f then (l',h',true) else (y,y,true)) else (a,b,f):=λo ho=>by
  rw[hstep];unfold Jz;rw[ho,hgy,el',eh']
 have hno:Gt ps lo hi i.toNat=false->(a,b,f)=Bl ps lo hi i2.toNat:=λh=>by rw[hgo _ h];rfl
 have hye:Gt ps lo hi i.toNat=true->f=true->(l',h',true)=Bl ps lo hi i2.toNat:=λh h2=>by rw[hgo _ h,h2];rfl
 have hyn:Gt ps lo hi i.toNat=true->f=false->(y,y,true)=Bl ps lo hi i2.toNat:=λh h2=>by rw[hgo _ h,h2];rfl
 clear hgo;have hT2:(L-i2).toNat<(L-i).toNat:=by omega
 refine Idx.mk _ zW zL ?_;cbv;simp only[eL,a4];rcases Int.lt_or_le i2 L with yK|yK
 ·obtain⟨⟨x2,y2⟩,hd2,yW⟩:=BI (f:=Ap) (ds:=ps) (i:=i2) Z.o Z.o
  have yW:q[i2.toNat]?=some [.int .i64 x2,.int .i64 y2]:=by rw[hq];exact yW
  have hre:Gt ps lo hi i.toNat=decide ((i=0\/x<=hi)/\lo<=x2):=by
   unfold Gt;rw[hd,show i.toNat+1=i2.toNat by omega,hd2];congr 1
   simp only[Option.some.injEq,forall_eq',eq_iff_iff];exact and_congr (or_congr Z.o Iff.rfl) Iff.rfl
  rw[hre] at hno hye hyn;clear hre hstep;simp only[decide_eq_true_eq,decide_eq_false_iff_not] at hno hye hyn
  repeat' (first
   | (refine Idx.mk _ (by rw[a4];omega) (by rw[a4];exact yW) ?_;cbv)
   | (refine Call.stepE (by rw[<- hP];exact hr) rfl ?_;cbv;simp only[n1];cbv)
   | (refine Call.stepE (by rw[<- hP];exact k3) rfl ?_;cbv)
   | (refine AB.stepE (by rw[<- hP];exact k3) rfl ?_;cbv)
   | (refine Call.stepE (by rw[<- hP];exact k2) rfl ?_;cbv)
   | (refine AB.stepE (by rw[<- hP];exact k2) rfl ?_;cbv)
   | (refine Call.stepE (by rw[<- hP];exact k1) rfl ?_;cbv)
   | (refine AB.stepE (by rw[<- hP];exact k1) rfl ?_;cbv)
   | (split<;>rename_i h<;>(try (simp only[eL,a4] at h))<;>(try (simp only[hz,Z.a,AF,AC,AO,AP,AL,reduceCtorEq] at h))<;>(try cbv)))
  all_goals (try simp only[a4])
  all_goals first
   | (exfalso;omega)
   | (refine hN (i2,a,b,f,x0,y0) _ _ ?hx ?hI hT2;(case hx=>exact Z.i);(case hI=>exact⟨by simp only;omega,by simp only;omega,hno Z.o⟩))
   | (refine hN (i2,l',h',f,x0,y0) _ _ ?hx ?hI hT2;(case hx=>exact Z.i);(case hI=>exact⟨by simp only;omega,by simp only;omega,by have:=hye Z.o Z.m;simp only[show f=true by assumption];exact this⟩))
   | (refine hN (i2,y,y,true,x0,y0) _ _ ?hx ?hI hT2;(case hx=>exact Z.i);(case hI=>exact⟨by simp only;omega,by simp only;omega,hyn Z.o Z.m⟩))
 ·have hre:Gt ps lo hi i.toNat=decide (i=0\/x<=hi):=by
   unfold Gt;rw[hd,List.getElem?_eq_none (show ps.length<=i.toNat+1 by omega)];congr 1
   simp only[Option.some.injEq,forall_eq',eq_iff_iff];refine⟨λh=>?_,λh=>⟨?_,λq hq=>by cases hq⟩⟩
   ·exact h.1.imp Z.o id
   ·exact h.imp Z.o id
  rw[hre] at hno hye hyn;clear hre hstep;simp only[decide_eq_true_eq,decide_eq_false_iff_not] at hno hye hyn
  repeat' (first
   | (refine Call.stepE (by rw[<- hP];exact hr) rfl ?_;cbv;simp only[n1];cbv)
   | (refine Call.stepE (by rw[<- hP];exact k3) rfl ?_;cbv)
   | (refine AB.stepE (by rw[<- hP];exact k3) rfl ?_;cbv)
   | (refine Call.stepE (by rw[<- hP];exact k2) rfl ?_;cbv)
   | (refine AB.stepE (by rw[<- hP];exact k2) rfl ?_;cbv)
   | (refine Call.stepE (by rw[<- hP];exact k1) rfl ?_;cbv)
   | (refine AB.stepE (by rw[<- hP];exact k1) rfl ?_;cbv)
   | (split<;>rename_i h<;>(try (simp only[eL,a4] at h))<;>(try (simp only[hz,Z.a,AF,AC,AO,AP,AL,reduceCtorEq] at h))<;>(try cbv)))
  all_goals (try simp only[a4])
  all_goals first
   | (exfalso;omega)
   | (refine hN (i2,a,b,f,x0,y0) _ _ ?hx ?hI hT2;(case hx=>exact Z.i);(case hI=>exact⟨by simp only;omega,by simp only;omega,hno Z.o⟩))
   | (refine hN (i2,l',h',f,x0,y0) _ _ ?hx ?hI hT2;(case hx=>exact Z.i);(case hI=>exact⟨by simp only;omega,by simp only;omega,by have:=hye Z.o Z.m;simp only[show f=true by assumption];exact this⟩))
   | (refine hN (i2,y,y,true,x0,y0) _ _ ?hx ?hI hT2;(case hx=>exact Z.i);(case hI=>exact⟨by simp only;omega,by simp only;omega,hyn Z.o Z.m⟩))
def plc(ss:List Sg)(sg off:Int):Int->List Int->List Int
 | _,[]=>[]
 | a,n::l=>(if n=sg then [a+off] else [])++plc ss sg off (a+BD ss n) l
def BS(ss:List Sg)(sg off from_:Int)(m:List (List Int)):List Int:=m.flatMap (plc ss sg off (-from_))
def EM:List Int->Int->List Int
 | [],x=>[x]
 | k::l,x=>if k<x then k::EM l x else if x<k then x::k::l else k::l
theorem Pj:∀(l:List Int) (x y:Int),y∈EM l x↔y∈l\/y=x
 | [],x,y=>by simp[EM]
 | k::l,x,y=>by
   simp only[EM];split
   ·rw[List.mem_cons,Pj l x y,List.mem_cons,or_assoc]
   ·split
    ·simp only[List.mem_cons]
     constructor
     ·rintro(h|h|h)
      ·exact .inr h
      ·exact .inl (.inl h)
      ·exact .inl (.inr h)
     ·rintro((h|h)|h)
      ·exact .inr (.inl h)
      ·exact .inr (.inr h)
      ·exact .inl h
    ·have:k=x:=by omega
     rw[List.mem_cons,this];constructor
     ·exact .inl
     ·rintro(h|h)
      ·exact h
      ·exact .inl h
theorem Ux:∀(l:List Int) (x:Int),l.Pairwise (· < ·)->(EM l x).Pairwise (· < ·)
 | [],x,_=>List.pairwise_singleton _ _
 | k::l,x,h=>by
   obtain⟨h1,h2⟩:=List.pairwise_cons.1 h;simp only[EM];split
   ·rename_i hk
    refine List.pairwise_cons.2 ⟨λy hy=>?_,Ux l x h2⟩;rcases (Pj l x y).1 hy with hy|hy
    ·exact h1 y hy
    ·omega
   ·split
    ·rename_i hk
     refine List.pairwise_cons.2 ⟨λy hy=>?_,h⟩;rcases List.mem_cons.1 hy with rfl|hy
     ·exact hk
     ·have:=h1 y hy;omega
    ·exact h
theorem Uy:∀(l:List Int) (x:Int),(EM l x).length<=l.length+1
 | [],x=>by simp[EM]
 | k::l,x=>by
   have:=Uy l x;simp only[EM];split
   ·simp only[List.length_cons];omega
   ·split<;>simp
theorem Mf:∀(l q:List Int),q.Pairwise (· < ·)->(l.foldl EM q).Pairwise (· < ·)/\(∀y,y∈l.foldl EM q↔y∈q\/y∈l)/\(l.foldl EM q).length<=q.length+l.length
 | [],q,h=>⟨h,λy=>by simp,by simp⟩
 | x::l,q,h=>by
   obtain⟨h1,h2,h3⟩:=Mf l (EM q x) (Ux q x h);have:=Uy q x;refine⟨h1,λy=>?_,by simp only[List.foldl_cons,List.length_cons];omega⟩;rw[List.foldl_cons,h2,Pj,List.mem_cons,or_assoc]
theorem Uz:∀(l m:List Int),l.Pairwise (· < ·)->m.Pairwise (· < ·)->(∀x,x∈l↔x∈m)->l=m
 | [],[],_,_,_=>rfl
 | [],b::m,_,_,h=>by have:=(h b).2 List.mem_cons_self;simp at this
 | a::l,[],_,_,h=>by have:=(h a).1 List.mem_cons_self;simp at this
 | a::l,b::m,h1,h2,h=>by
   obtain⟨a1,a2⟩:=List.pairwise_cons.1 h1;obtain⟨b1,b2⟩:=List.pairwise_cons.1 h2
   have e:a=b:=by
    have k1:=(h a).1 List.mem_cons_self;have k2:=(h b).2 List.mem_cons_self;rcases List.mem_cons.1 k1 with k1|k1
    ·exact k1
    ·rcases List.mem_cons.1 k2 with k2|k2
     ·exact k2.symm
     ·have:=b1 a k1;have:=a1 b k2;omega
   subst e;congr 1
   refine Uz l m a2 b2 λx=>⟨λhx=>?_,λhx=>?_⟩
   ·rcases List.mem_cons.1 ((h x).1 (List.mem_cons_of_mem _ hx)) with k|k
    ·have:=a1 x hx;omega
    ·exact k
   ·rcases List.mem_cons.1 ((h x).2 (List.mem_cons_of_mem _ hx)) with k|k
    ·have:=b1 x hx;omega
    ·exact k
def FK(ss:List Sg)(sg off from_:Int)(m:List (List Int)):List Int:=(BS ss sg off from_ m).foldl EM []
theorem WR{ss:List Sg}{sg off from_:Int}{m:List (List Int)}{os:List Int}(h1:os.Pairwise (· < ·))(h2:∀x,x∈os↔x∈BS ss sg off from_ m):os=FK ss sg off from_ m:=by
 obtain⟨k1,k2,_⟩:=Mf (BS ss sg off from_ m) [] List.Pairwise.nil;exact Uz _ _ h1 k1 λx=>by rw[h2];unfold FK at *;rw[k2];simp
theorem U_(ss:List Sg)(sg off:Int):∀(l:List Int) (a:Int),(plc ss sg off a l).length<=l.length
 | [],a=>by simp[plc]
 | n::l,a=>by
   have:=U_ ss sg off l (a+BD ss n);simp only[plc,List.length_append,List.length_cons];split<;>simp<;>omega
theorem K9(ss:List Sg)(sg off from_:Int):∀(m:List (List Int)),(∀l,l∈m->l.length<=12)->(BS ss sg off from_ m).length<=12*m.length
 | [],_=>by simp[BS]
 | l::m,h=>by
   have h1:=K9 ss sg off from_ m λx hx=>h x (List.mem_cons_of_mem _ hx);have h2:=U_ ss sg off l (-from_);have h3:=h l List.mem_cons_self;unfold BS at h1 ⊢;rw[List.flatMap_cons,List.length_append,List.length_cons];omega
theorem QP(ss:List Sg)(sg off from_:Int)(m:List (List Int))(l:List Int):BS ss sg off from_ (m++[l])=BS ss sg off from_ m++plc ss sg off (-from_) l:=by
 unfold BS;rw[List.flatMap_append];simp
end Go.Proofs.YtlchlddijclhjaaGreat
