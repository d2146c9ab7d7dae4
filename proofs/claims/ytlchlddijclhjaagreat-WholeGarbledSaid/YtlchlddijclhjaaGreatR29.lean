/- Parts of the proofs. -/
import Derived.Test.YtlchlddijclhjaaGreatR14
import Derived.Test.YtlchlddijclhjaaGreatR12
import Derived.Test.YtlchlddijclhjaaGreatR16
import Derived.Test.YtlchlddijclhjaaGreatR8
import Derived.Test.YtlchlddijclhjaaGreatR17
import Derived.Test.YtlchlddijclhjaaGreatR13
import Derived.Test.YtlchlddijclhjaaGreatR24
import Derived.Test.YtlchlddijclhjaaGreatR15
import Derived.Test.YtlchlddijclhjaaGreatRZ
set_option linter.unusedVariables false
set_option linter.unusedSimpArgs false
set_option maxHeartbeats 4000000
namespace Go.Proofs.YtlchlddijclhjaaGreat
open Go Go.RowKit Go.Eng
set_option maxRecDepth 100000
def pcB(p:Int×Int):List Int:=Al 8 p.1++Al 4 p.2
def EE(s:Sg):List Int:=Al 8 s.len++((s.ps.length:Int)%256::(s.ps.flatMap pcB++((s.nx.length:Int)%256::s.nx.map (· % 256))))
def EF(g:Gr):List Int:=Al 2 g.id++(g.seg%256::(Al 8 g.off++(Al 4 g.acc++Al 4 g.sl)))
def Cr(ss:List Sg)(gs:List Gr):List Int:=[79,68,79,49]++(Al 2 ss.length++(ss.flatMap EE++(Al 2 gs.length++gs.flatMap EF)))
def CZ(ss:List Sg)(gs:List Gr):List Int:=Cr ss gs++[bi (crF 65535#16 (Cr ss gs))/256,bi (crF 65535#16 (Cr ss gs))%256]
theorem Lr{α: Type}{l:List α}{i:Nat}{a: α}(h:l[i]?=some a):l.drop i=a::l.drop (i+1):=by
 obtain⟨h1,h2⟩:=List.getElem?_eq_some_iff.1 h;rw[List.drop_eq_getElem_cons h1,h2]
structure Pre(all:List Int)(o:List (List AV))(m:Nat)(rest:List Int):Prop where
 h:∃b:List Int,o=b.map AZ/\m=b.length/\b++rest=all
theorem Pre.up{all:List Int}{o:List (List AV)}{m:Nat}{rest:List Int}(h:Pre all o m rest):Up0 o:=by
 obtain⟨b,h1,_,_⟩:=h.h;rw[h1];exact Ao b
theorem Pre.len{all:List Int}{o:List (List AV)}{m:Nat}{rest:List Int}(h:Pre all o m rest):m=o.length/\m+rest.length=all.length:=by
 obtain⟨b,h1,h2,h3⟩:=h.h;rw[h1,h2,<- h3];simp
theorem Pre.step{all:List Int}{o:List (List AV)}{m:Nat}{x rest:List Int}(h:Pre all o m (x++rest)){u o2:List (List AV)}{m2:Nat}(hu:u=x.map AZ)(ho:o2=o++u)(hm:m2=m+u.length):Pre all o2 m2 rest:=by
 obtain⟨b,h1,h2,h3⟩:=h.h;exact⟨b++x,by rw[ho,h1,hu,List.map_append],by rw[hm,h2,hu];simp,by rw[List.append_assoc];exact h3⟩
theorem Pre.one{all:List Int}{o:List (List AV)}{m:Nat}{x:Int}{rest:List Int}(h:Pre all o m (x::rest)){o2:List (List AV)}{m2:Nat}(ho:o2=o++[[.int .u8 x]])(hm:m2=m+1):Pre all o2 m2 rest:=by
 obtain⟨b,h1,h2,h3⟩:=h.h;exact⟨b++[x],by rw[ho,h1,List.map_append];rfl,by rw[hm,h2];simp,by rw[List.append_assoc];exact h3⟩
theorem GR(l:List Int):DK (l.map AZ)=true:=by
 induction l with
 | nil=>rfl
 | cons a l ih=>exact ih
theorem He{h:A7}{s z n:Nat}{es:List (List AV)}(hs:h[s]?=some (.live z es))(hu:BC 0 es=true)(hn:n=es.length):Vw h (.sl s z 0 n) (.list z es):=by
 have:=Vw.sl (i:=0) (n:=n) hs hu Z.o
 rwa [List.drop_zero,List.take_of_length_le Z.o] at this
theorem O0:∀(ps:List (Int×Int)),(ps.flatMap pcB).length=12*ps.length
 | []=>rfl
 | p::ps=>by
   rw[List.flatMap_cons,List.length_append,O0 ps];unfold pcB;rw[List.length_append,Ez,Ez];simp only[List.length_cons];omega
theorem FM{a b:List Int}(ha:Ar a)(hb:Ar b):Ar (a++b):=λx h=>(List.mem_append.1 h).elim (ha x) (hb x)
theorem B_{x:Int}{b:List Int}(hx:0<=x/\x<=255)(hb:Ar b):Ar (x::b):=λy h=>by
 rcases List.mem_cons.1 h with rfl|h
 ·exact hx
 ·exact hb y h
theorem O3{α: Type}{f: α -> List Int}{l:List α}(h:∀a,Ar (f a)):Ar (l.flatMap f):=λx hx=>by
 obtain⟨a,_,ha⟩:=List.mem_flatMap.1 hx;exact h a x ha
theorem YA(l:List Int):Ar (l.map (· % 256)):=λx hx=>by
 obtain⟨a,_,rfl⟩:=List.mem_map.1 hx;omega
theorem RF(ss:List Sg)(gs:List Gr):Ar (Cr ss gs):=by
 unfold Cr;refine FM (λx hx=>by simp at hx;omega) (FM (Fh _ _) (FM (O3 λs=>?_) (FM (Fh _ _) (O3 λg=>?_))))
 ·unfold EE
  exact FM (Fh _ _) (B_ Z.o (FM (O3 λp=>by unfold pcB;exact FM (Fh _ _) (Fh _ _)) (B_ Z.o (YA _))))
 ·unfold EF
  exact FM (Fh _ _) (B_ Z.o (FM (Fh _ _) (FM (Fh _ _) (Fh _ _))))
structure HV(s:Sg):Prop where
 len:I64 s.len
 ps:∀p,p∈s.ps->I64 p.1/\I64 p.2
 nx:∀n,n∈s.nx->I64 n
structure HY(g:Gr):Prop where
 id:I64 g.id
 seg:I64 g.seg
 off:I64 g.off
 acc:I64 g.acc
 sl:I64 g.sl
theorem YB(ss:List Sg)(gs:List Gr)(es ds:List (List AV))(zQ:es=ss.map Ah)(zY:ds=gs.map Ak)(qG:ss.length<=1000000)(uF:gs.length<=1000000)(hB:(Cr ss gs).length<=100000000)(hsI:∀s,s∈ss->HV s)(hgI:∀g,g∈gs->HY g)(us:List (List AV))(kZ:us=(CZ ss gs).map AZ):A9 Tryz.prog 25 [.agg [.list 3 es,.list 5 ds]] (· = .list 1 us):=by
 have hu:Up0 es:=by rw[zQ];exact Bu ss
 have lH:Up0 ds:=by rw[zY];exact Bv gs
 have uG:es.length=ss.length:=by rw[zQ];simp
 have uH:ds.length=gs.length:=by rw[zY];simp
 obtain⟨all,eall⟩:=Z.e (Cr ss gs);rw[<- eall] at hB;obtain⟨T1,eT1⟩:=Z.e (Al 2 gs.length++gs.flatMap EF);have ru:Pre all [[.int .u8 79],[.int .u8 68],[.int .u8 79],[.int .u8 49]] 4 (Al 2 ss.length++(ss.flatMap EE++T1)):=⟨[79,68,79,49],rfl,rfl,by rw[eall,eT1];rfl⟩;(refine A9.ofL Tryz.func25 (by kernel_rfl) (by kernel_rfl) (Z.v λzB _ _ zD _ _ hw zC zA _ zG _ zH hz R hR=>?_));(conv=>arg 2;cbv);(generalize hP:Tryz.prog=P);cbv;obtain⟨L,eL,L0,Ln⟩:=Z.l zH es;obtain⟨J,eJ,J0,Jn⟩:=Z.l zH ds;have eJg:Al 2 (gs.length:Int)=Al 2 J:=by rw[show (gs.length:Int)=J by omega]
 obtain⟨u2,mW⟩:∃x,x=(Al 2 ss.length).map AZ:=⟨_,rfl⟩;have hu2l:u2.length=2:=by rw[mW];simp[Ez]
 have q1:=GQ L 2 ⟨by omega,by omega⟩ Z.d Z.d u2 (by rw[mW,show L=ss.length by omega];rfl);have pE:Up0 u2:=by rw[mW];exact Ao _
 have hru2:DK u2=true:=by rw[mW];exact GR _
 obtain⟨o1,eo1⟩:∃x,x=[[AV.int .u8 79],[.int .u8 68],[.int .u8 79],[.int .u8 49]]++u2:=⟨_,rfl⟩;obtain⟨m1,em1⟩:=Z.e (4+u2.length);have uA:=ru.step mW eo1 em1;have ho1:=uA.up;have ko:=uA.len;clear mW;simp only[eL];repeat' (first|(refine Call.s hP q1 ?_;cbv)|(refine Cq.mk o1 m1 eo1 rfl em1 hru2 Z.o Z.o ?_;cbv)|fail)
 refine Ae.data hw (S:=Int×List (List AV)×Nat) (λs=>fr 145 [(1,.ref 0 2 0 0),(3,.sl 1 1 0 s.2.2),(4,s.1)]) (λs=>[.live 2 [[.list 3 es,.list 5 ds]],.live 1 s.2.1])
  (λs=>0<=s.1/\s.1<=L/\Pre all s.2.1 s.2.2 ((ss.drop s.1.toNat).flatMap EE++T1)) (λs=>(L-s.1).toNat) (0,o1,m1) (by(refine Z.k (λj=>[0,2].getD j 0) ?_;cbv<;>exact Z.q)) ⟨Int.le_refl _,L0,uA⟩ ?_
 rintro⟨i,o,m⟩ zJ Q' hN hE hR'
 have zJ:0<=i/\i<=L/\Pre all o m ((ss.drop i.toNat).flatMap EE++T1):=zJ;obtain⟨zW,yZ,hp⟩:=zJ;have lY:=hp.up;have vL:=hp.len;by_cases yC:i<L
 ·obtain⟨⟨len,ps,nx⟩,hs⟩:∃s,ss[i.toNat]?=some s:=⟨_,List.getElem?_eq_getElem (show i.toNat<ss.length by omega)⟩
  have hsI:=hsI _ (List.mem_of_getElem? hs);obtain⟨hI1,xq,hI3⟩:=hsI;simp only at hI1 xq hI3;obtain⟨pq,epq⟩:=Z.e (ps.map Ap);obtain⟨xn,exn⟩:=Z.e (nx.map Ac);have wM:Up0 pq:=(by rw[epq];exact E5 ps);have huxn:Up0 xn:=(by rw[exn];exact CG nx);have zL:es[i.toNat]?=some [jz len,.list 2 pq,.list 1 xn]:=(by rw[zQ,List.getElem?_map,hs,epq,exn];rfl);obtain⟨i2,kW⟩:=Z.e (i+1);have hT:(L-i2).toNat<(L-i).toNat:=(by omega);have hpql:pq.length=ps.length:=(by rw[epq];simp);have hxnl:xn.length=nx.length:=(by rw[exn];simp);rw[Lr hs,show i.toNat+1=i2.toNat by omega] at hp;obtain⟨T2,eT2⟩:∃x,x=(ss.drop i2.toNat).flatMap EE++T1:=⟨_,rfl⟩
  have hp:Pre all o m (Al 8 len++((ps.length:Int)%256::(ps.flatMap pcB++((nx.length:Int)%256::(nx.map (· % 256)++T2))))):=by
   rw[eT2];simpa[EE,List.append_assoc] using hp
  obtain⟨u8,eu8⟩:∃x,x=(Al 8 len).map AZ:=⟨_,rfl⟩;have q2:=GQ len 8 hI1 Z.d Z.d u8 (by rw[eu8];rfl);have huu8:Up0 u8:=(by rw[eu8];exact Ao _);have hru8:DK u8=true:=(by rw[eu8];exact GR _);obtain⟨o2,uj⟩:=Z.e (o++u8);obtain⟨m2,mJ⟩:=Z.e (m+u8.length);have mH:=hp.step eu8 uj mJ;have qB:=mH.up;have nU:=mH.len;obtain⟨K,eK,K0,Kn⟩:=Z.l zH pq;obtain⟨M,eM,M0,Mn⟩:=Z.l zH xn;obtain⟨b1,rX⟩:=Z.e (K%256);obtain⟨b2,qM⟩:=Z.e (M%256);rw[show (ps.length:Int)%256=b1 by omega,show (nx.length:Int)%256=b2 by omega] at mH;obtain⟨o3,eo3⟩:=Z.e (o2++[[.int .u8 b1]]);obtain⟨m3,wz⟩:=Z.e (m2+1);have hp3:=mH.one eo3 wz;have ho3:=hp3.up;have hm3:=hp3.len
  have hKb:K<=100000000:=by
   have:=hm3.2;simp only[List.length_append,O0] at this;omega
  have hMb:M<=100000000:=by
   have:=hm3.2;simp only[List.length_append,List.length_cons,List.length_map] at this;omega
  have c1:zD .u8 K=b1:=by rw[zG];show IntKind.u8.wrap K=b1;rw[IntKind.wrap_u8,rX]
  have ck:=W.lt zA yC;clear hs eu8 ru uA hp mH;cbv;simp only[eL];repeat' (first|(simp only[ck,eK,c1];cbv)|(refine Call.s hP q2 ?_;cbv)|(refine Idx.mk _ zW zL ?_;cbv)|(refine Cq.mk o2 m2 uj Z.o mJ hru8 Z.o Z.o ?_;cbv)|(refine App.mk o3 m3 eo3 Z.o wz Z.o Z.o ?_;cbv)|fail)
  refine Ae.data hw (S:=Int×List (List AV)×Nat) (λs=>fr 145 [(1,.ref 0 2 0 0),(3,.sl 2 1 0 s.2.2),(4,i),(5,.ref 1 3 0 0),(6,s.1)]) (λs=>[.live 2 [[.list 3 es,.list 5 ds]],.live 3 [[len,.list 2 pq,.list 1 xn]],.live 1 s.2.1])
   (λs=>0<=s.1/\s.1<=K/\Pre all s.2.1 s.2.2 ((ps.drop s.1.toNat).flatMap pcB++(b2::(nx.map (· % 256)++T2)))) (λs=>(K-s.1).toNat) (0,o3,m3) (by(refine Z.k (λj=>[0,2,4].getD j 0) ?_;cbv<;>exact Z.q)) ⟨Int.le_refl _,K0,hp3⟩ ?_
  rintro⟨j,o,m⟩ yV Q2 nS sO hR2
  have yV:0<=j/\j<=K/\Pre all o m ((ps.drop j.toNat).flatMap pcB++(b2::(nx.map (· % 256)++T2))):=yV;obtain⟨qI,zq,hp⟩:=yV;have lY:=hp.up;have vL:=hp.len;by_cases mr:j<K
  ·obtain⟨⟨p1,p2⟩,hpj⟩:∃s,ps[j.toNat]?=some s:=⟨_,List.getElem?_eq_getElem (show j.toNat<ps.length by omega)⟩
   have hI:=xq _ (List.mem_of_getElem? hpj);simp only at hI;have hrowp:pq[j.toNat]?=some [jz p1,jz p2]:=(by rw[epq,List.getElem?_map,hpj];rfl);obtain⟨j2,sQ⟩:=Z.e (j+1);have pY:(K-j2).toNat<(K-j).toNat:=(by omega);rw[Lr hpj,show j.toNat+1=j2.toNat by omega] at hp;have hp:Pre all o m (Al 8 p1++(Al 4 p2++((ps.drop j2.toNat).flatMap pcB++(b2::(nx.map (· % 256)++T2))))):=(by simpa[pcB,List.append_assoc] using hp);obtain⟨xz,eup1⟩:∃x,x=(Al 8 p1).map AZ:=⟨_,rfl⟩;have qp1:=GQ p1 8 hI.1 Z.d Z.d xz (by rw[eup1];rfl);have huup1:Up0 xz:=(by rw[eup1];exact Ao _);have hrup1:DK xz=true:=(by rw[eup1];exact GR _);obtain⟨oa,eoa⟩:=Z.e (o++xz);obtain⟨ma,ema⟩:=Z.e (m+xz.length);have zh:=hp.step eup1 eoa ema;have huoa:=zh.up;have hloa:=zh.len;obtain⟨up2,eup2⟩:∃x,x=(Al 4 p2).map AZ:=⟨_,rfl⟩;have qp2:=GQ p2 4 hI.2 Z.d Z.d up2 (by rw[eup2];rfl);have huup2:Up0 up2:=(by rw[eup2];exact Ao _);have hrup2:DK up2=true:=(by rw[eup2];exact GR _);obtain⟨ob,eob⟩:=Z.e (oa++up2);obtain⟨mb,emb⟩:=Z.e (ma+up2.length);have hob:=zh.step eup2 eob emb;have huob:=hob.up;have hlob:=hob.len;have d2:=W.lt zA mr;have a5:zB .add .i64 j 1=j2:=(by rw[zC,Ag Z.o Z.o,sQ]);clear hpj eup1 eup2 hp zh;cbv;simp only[eK];repeat' (first|(simp only[d2,eK,a5];cbv)|(refine Call.s hP qp1 ?_;cbv)|(refine Call.s hP qp2 ?_;cbv)|(refine Idx.mk _ qI hrowp ?_;cbv)|(refine Cq.mk oa ma eoa Z.o ema hrup1 Z.o Z.o ?_;cbv)|(refine Cq.mk ob mb eob Z.o emb hrup2 Z.o Z.o ?_;cbv)|fail)
   refine nS (j2,ob,mb) _ _ ?hx2 ?hi2 pY
   case hx2=>(refine Z.k (λj=>[0,1,4].getD j 0) ?_;cbv<;>exact Z.q)
   case hi2=>exact⟨by simp only;omega,by simp only;omega,hob⟩
  ·have d2:=W.nlt zA (show K<=j by omega)
   rw[List.drop_of_length_le Z.o] at hp;have hp:Pre all o m (b2::(nx.map (· % 256)++T2)):=hp;obtain⟨oc,eoc⟩:=Z.e (o++[[.int .u8 b2]]);obtain⟨mc,emc⟩:=Z.e (m+1);have hoc:=hp.one eoc emc;have huoc:=hoc.up;have hloc:=hoc.len;have c2:zD .u8 M=b2:=by rw[zG];show IntKind.u8.wrap M=b2;rw[IntKind.wrap_u8,qM]
   cbv;simp only[eK];repeat' (first|(simp only[d2];cbv)|fail)
   refine sO _ _ _ ?_;cbv;repeat' (first|(simp only[eM,c2];cbv)|(refine App.mk oc mc eoc Z.o emc Z.o Z.o ?_;cbv)|fail)
   refine Ae.data hw (S:=Int×List (List AV)×Nat) (λs=>fr 145 [(1,.ref 0 2 0 0),(3,.sl 2 1 0 s.2.2),(4,i),(5,.ref 1 3 0 0),(7,s.1)]) (λs=>[.live 2 [[.list 3 es,.list 5 ds]],.live 3 [[len,.list 2 pq,.list 1 xn]],.live 1 s.2.1])
    (λs=>0<=s.1/\s.1<=M/\Pre all s.2.1 s.2.2 ((nx.drop s.1.toNat).map (· % 256)++T2)) (λs=>(M-s.1).toNat) (0,oc,mc) (by(refine Z.k (λj=>[0,1,3].getD j 0) ?_;cbv<;>exact Z.q)) ⟨Int.le_refl _,M0,hoc⟩ ?_
   rintro⟨j,o,m⟩ vT Q3 hN3 hE3 hR3
   have vT:0<=j/\j<=M/\Pre all o m ((nx.drop j.toNat).map (· % 256)++T2):=vT;obtain⟨qI,zq,hp⟩:=vT;have lY:=hp.up;have vL:=hp.len;by_cases mr:j<M
   ·obtain⟨x,tV⟩:∃s,nx[j.toNat]?=some s:=⟨_,List.getElem?_eq_getElem (show j.toNat<nx.length by omega)⟩
    have hrowx:xn[j.toNat]?=some [jz x]:=(by rw[exn,List.getElem?_map,tV];rfl);obtain⟨j2,sQ⟩:=Z.e (j+1);have pY:(M-j2).toNat<(M-j).toNat:=(by omega);rw[Lr tV,show j.toNat+1=j2.toNat by omega] at hp;obtain⟨xb,exb⟩:=Z.e (x%256);have hp:Pre all o m (xb::((nx.drop j2.toNat).map (· % 256)++T2)):=(by rw[exb];exact hp);obtain⟨od,eod⟩:=Z.e (o++[[.int .u8 xb]]);obtain⟨md,emd⟩:=Z.e (m+1);have hod:=hp.one eod emd;have huod:=hod.up;have hlod:=hod.len;have c3:zD .u8 x=xb:=by rw[zG];show IntKind.u8.wrap x=xb;rw[IntKind.wrap_u8,exb]
    have d2:=W.lt zA mr;have a5:zB .add .i64 j 1=j2:=(by rw[zC,Ag Z.o Z.o,sQ]);clear tV hp;cbv;simp only[eM];repeat' (first|(simp only[d2,c3,a5];cbv)|(refine Idx.mk _ qI hrowx ?_;cbv)|(refine App.mk od md eod Z.o emd Z.o Z.o ?_;cbv)|fail)
    refine hN3 (j2,od,md) _ _ ?hx3 ?hi3 pY
    case hx3=>(refine Z.k (λj=>[0,1,3].getD j 0) ?_;cbv<;>exact Z.q)
    case hi3=>exact⟨by simp only;omega,by simp only;omega,hod⟩
   ·have d2:=W.nlt zA (show M<=j by omega)
    rw[List.drop_of_length_le Z.o] at hp;have hp:Pre all o m T2:=hp;rw[eT2] at hp;have a4:zB .add .i64 i 1=i2:=(by rw[zC,Ag Z.o Z.o,kW]);cbv;simp only[eM];repeat' (first|(simp only[d2];cbv)|fail)
    refine hE3 _ _ _ ?_;cbv;repeat' (first|(simp only[a4];cbv)|fail)
    refine hN (i2,o,m) _ _ ?hx ?hi hT
    case hx=>(refine Z.k (λj=>[0,2].getD j 0) ?_;cbv<;>exact Z.q)
    case hi=>exact⟨by simp only;omega,by simp only;omega,hp⟩
 ·have ck:=W.nlt zA (show L<=i by omega)
  rw[List.drop_of_length_le Z.o,eT1] at hp;have hp:Pre all o m (Al 2 gs.length++gs.flatMap EF):=hp;obtain⟨ug,eug⟩:∃x,x=(Al 2 gs.length).map AZ:=⟨_,rfl⟩;have qg:=GQ J 2 ⟨by omega,by omega⟩ Z.d Z.d ug (by rw[eug,eJg];rfl);have huug:Up0 ug:=(by rw[eug];exact Ao _);have hrug:DK ug=true:=(by rw[eug];exact GR _);obtain⟨og,eog⟩:=Z.e (o++ug);obtain⟨mg,emg⟩:=Z.e (m+ug.length);have hog:=hp.step eug eog emg;have huog:=hog.up;have hlog:=hog.len;cbv;simp only[eL];repeat' (first|(simp only[ck];cbv)|fail)
  refine hE _ _ _ ?_;cbv;repeat' (first|(simp only[eJ];cbv)|(refine Call.s hP qg ?_;cbv)|(refine Cq.mk og mg eog Z.o emg hrug Z.o Z.o ?_;cbv)|fail)
  clear hN hE hR'
  refine Ae.data hw (S:=Int×List (List AV)×Nat) (λs=>fr 145 [(1,.ref 0 2 0 0),(3,.sl 1 1 0 s.2.2),(8,s.1)]) (λs=>[.live 2 [[.list 3 es,.list 5 ds]],.live 1 s.2.1])
   (λs=>0<=s.1/\s.1<=J/\Pre all s.2.1 s.2.2 ((gs.drop s.1.toNat).flatMap EF++[])) (λs=>(J-s.1).toNat) (0,og,mg) (by(refine Z.k (λj=>[0,2].getD j 0) ?_;cbv<;>exact Z.q)) ⟨Int.le_refl _,J0,by simp only;rw[List.append_nil];exact hog⟩ ?_
  rintro⟨i,o,m⟩ vS Q' hN hE hR'
  have vS:0<=i/\i<=J/\Pre all o m ((gs.drop i.toNat).flatMap EF++[]):=vS;obtain⟨zW,yZ,hp⟩:=vS;have lY:=hp.up;have vL:=hp.len;by_cases yC:i<J
  ·obtain⟨⟨g1,g2,g3,g4,g5⟩,hs⟩:∃s,gs[i.toNat]?=some s:=⟨_,List.getElem?_eq_getElem (show i.toNat<gs.length by omega)⟩
   obtain⟨hg1,hg2,hg3,hg4,hg5⟩:=hgI _ (List.mem_of_getElem? hs);simp only at hg1 hg2 hg3 hg4 hg5;have zL:ds[i.toNat]?=some [jz g1,jz g2,jz g3,jz g4,jz g5]:=(by rw[zY,List.getElem?_map,hs];rfl);obtain⟨i2,kW⟩:=Z.e (i+1);have hT:(J-i2).toNat<(J-i).toNat:=(by omega);rw[Lr hs,show i.toNat+1=i2.toNat by omega] at hp;obtain⟨sb,esb⟩:=Z.e (g2%256)
   have hp:Pre all o m (Al 2 g1++(sb::(Al 8 g3++(Al 4 g4++(Al 4 g5++((gs.drop i2.toNat).flatMap EF++[])))))):=by
    rw[esb];simpa[EF,List.append_assoc] using hp
   obtain⟨uk1,euk1⟩:∃x,x=(Al 2 g1).map AZ:=⟨_,rfl⟩;have qk1:=GQ g1 2 hg1 Z.d Z.d uk1 (by rw[euk1];rfl);have huuk1:Up0 uk1:=(by rw[euk1];exact Ao _);have hruk1:DK uk1=true:=(by rw[euk1];exact GR _);obtain⟨oe,eoe⟩:=Z.e (o++uk1);obtain⟨me,eme⟩:=Z.e (m+uk1.length);have hoe:=hp.step euk1 eoe eme;have huoe:=hoe.up;have hloe:=hoe.len;obtain⟨of,eof⟩:=Z.e (oe++[[.int .u8 sb]]);obtain⟨mf,emf⟩:=Z.e (me+1);have hof:=hoe.one eof emf;have huof:=hof.up;have hlof:=hof.len;obtain⟨uk3,euk3⟩:∃x,x=(Al 8 g3).map AZ:=⟨_,rfl⟩;have qk3:=GQ g3 8 hg3 Z.d Z.d uk3 (by rw[euk3];rfl);have huuk3:Up0 uk3:=(by rw[euk3];exact Ao _);have hruk3:DK uk3=true:=(by rw[euk3];exact GR _);obtain⟨oh,eoh⟩:=Z.e (of++uk3);obtain⟨mh,emh⟩:=Z.e (mf+uk3.length);have hoh:=hof.step euk3 eoh emh;have huoh:=hoh.up;have hloh:=hoh.len;obtain⟨uk4,euk4⟩:∃x,x=(Al 4 g4).map AZ:=⟨_,rfl⟩;have qk4:=GQ g4 4 hg4 Z.d Z.d uk4 (by rw[euk4];rfl);have huuk4:Up0 uk4:=(by rw[euk4];exact Ao _);have hruk4:DK uk4=true:=(by rw[euk4];exact GR _);obtain⟨oi,eoi⟩:=Z.e (oh++uk4);obtain⟨mi,emi⟩:=Z.e (mh+uk4.length);have ry:=hoh.step euk4 eoi emi;have huoi:=ry.up;have hloi:=ry.len;obtain⟨uk5,euk5⟩:∃x,x=(Al 4 g5).map AZ:=⟨_,rfl⟩;have qk5:=GQ g5 4 hg5 Z.d Z.d uk5 (by rw[euk5];rfl);have huuk5:Up0 uk5:=(by rw[euk5];exact Ao _);have hruk5:DK uk5=true:=(by rw[euk5];exact GR _);obtain⟨oj,eoj⟩:=Z.e (oi++uk5);obtain⟨mj,emj⟩:=Z.e (mi+uk5.length);have pW:=ry.step euk5 eoj emj;have huoj:=pW.up;have hloj:=pW.len;have c4:zD .u8 g2=sb:=by rw[zG];show IntKind.u8.wrap g2=sb;rw[IntKind.wrap_u8,esb]
   have c5:zD .i64 g1=g1:=by rw[zG];show IntKind.i64.wrap g1=g1;rw[IntKind.wrap_i64];unfold I64 at hg1;omega
   have d2:=W.lt zA yC;have a5:zB .add .i64 i 1=i2:=(by rw[zC,Ag Z.o Z.o,kW]);clear hs euk1 euk3 euk4 euk5 hp hoe hof hoh ry;cbv;simp only[eJ];repeat' (first|(simp only[d2,eJ,c4,c5,a5];cbv)|(refine Call.s hP qk1 ?_;cbv)|(refine Call.s hP qk3 ?_;cbv)|(refine Call.s hP qk4 ?_;cbv)|(refine Call.s hP qk5 ?_;cbv)|(refine Idx.mk _ zW zL ?_;cbv)|(refine Cq.mk oe me eoe Z.o eme hruk1 Z.o Z.o ?_;cbv)|(refine App.mk of mf eof Z.o emf Z.o Z.o ?_;cbv)|(refine Cq.mk oh mh eoh Z.o emh hruk3 Z.o Z.o ?_;cbv)|(refine Cq.mk oi mi eoi Z.o emi hruk4 Z.o Z.o ?_;cbv)|(refine Cq.mk oj mj eoj Z.o emj hruk5 Z.o Z.o ?_;cbv)|fail)
   refine hN (i2,oj,mj) _ _ ?hx4 ?hi4 hT
   case hx4=>(refine Z.k (λj=>[0,7].getD j 0) ?_;cbv<;>exact Z.q)
   case hi4=>exact⟨by simp only;omega,by simp only;omega,pW⟩
  ·have d2:=W.nlt zA (show J<=i by omega)
   rw[List.drop_of_length_le Z.o] at hp;have hp:Pre all o m []:=hp;cbv;simp only[eJ];repeat' (first|(simp only[d2];cbv)|fail)
   refine hE _ _ _ ?_;cbv
   have zh:o=all.map AZ:=by
    obtain⟨b,h1,_,h3⟩:=hp.h;rw[List.append_nil] at h3;rw[h1,h3]
   have kU:=RF ss gs;rw[<- eall] at kU;obtain⟨y,ey⟩:=Z.e (bi (crF 65535#16 all));have qs:=Ll all kU Z.o y o zh ey;have hy:=Hd (crF 65535#16 all);rw[<- ey] at hy;obtain⟨y1,nK⟩:=Z.e (y/256);obtain⟨y2,mV⟩:=Z.e (y%256);obtain⟨o9,eo9⟩:=Z.e (o++[[AV.int .u8 y1],[.int .u8 y2]]);obtain⟨m9,em9⟩:=Z.e (m+2)
   have ho9:o9=us:=by
    rw[eo9,kZ,zh];unfold CZ;rw[<- eall,<- ey,<- nK,<- mV,List.map_append];rfl
   have huo9:Up0 o9:=(by rw[ho9,kZ];exact Ao _);have hm9:m9=o9.length:=(by rw[em9,eo9,List.length_append,vL.1];rfl);have b1:zB .quo .i64 y 256=y1:=(by rw[zC,DX hy.1 Z.d Z.o,nK]);have b2:zB .rem .i64 y 256=y2:=(by rw[zC,D8 hy.1,mV]);have b3:zD .u8 y1=y1:=(by rw[zG];exact wrap_u8 Z.o Z.o);have b4:zD .u8 y2=y2:=(by rw[zG];exact wrap_u8 Z.o Z.o);refine Call.view (args':=[.list 1 o]) (by rw[<- hP];exact qs) ⟨He rfl lY.get vL.1,trivial⟩ ?_;rintro r rfl;refine⟨rfl,?_⟩;cbv;repeat' (first|(simp only[b1,b2,b3,b4];cbv)|(refine Nz.mk Z.d ?_;cbv)|(refine Cq.mk o9 m9 eo9 vL.1 em9 rfl Z.o Z.o ?_;cbv)|fail)
   refine⟨_,Vw.sl rfl huo9.get Z.o,hR _ ?_⟩;rw[List.drop_zero,List.take_of_length_le Z.o,ho9]
def szF(k:Int):Int:=if k=1\/k=2\/k=5 then 2 else if k=3\/k=4 then 4 else 0
theorem Nu(k:Int):A9 Tryz.prog 128 [k] (· = jz (szF k)):=by
 obtain⟨n,en⟩:=Z.e (szF k);rw[<- en];by_cases h1:k<1
 ·obtain rfl:n=0:=by rw[en];unfold szF;rw[if_neg Z.o,if_neg Z.o]
  refine Z.y Tryz.func128 λ_ _ _ _ _ _ _ _ zA _ _ _ _ hz R hR P hP=>?_;cbv;have d1:=W.lt zA h1;repeat' (first|(simp only[d1];cbv)|fail)
  exact Z.r hR
 ·by_cases h2:5<k
  ·obtain rfl:n=0:=by rw[en];unfold szF;rw[if_neg Z.o,if_neg Z.o]
   refine Z.y Tryz.func128 λ_ _ _ _ _ _ _ _ zA _ _ _ _ hz R hR P hP=>?_;cbv;have d1:=W.nlt zA (show 1<=k by omega);have d2:=W.gt zA h2;repeat' (first|(simp only[d1,d2];cbv)|fail)
   exact Z.r hR
  ·have h3:k=1\/k=2\/k=3\/k=4\/k=5:=by omega
   rcases h3 with rfl|rfl|rfl|rfl|rfl
   all_goals
    subst en;refine Z.y Tryz.func128 λ_ _ _ _ _ _ _ _ zA _ _ _ _ hz R hR P hP=>?_;cbv;simp only[hz,Z.a,AF,AC,AO,AP,AL,reduceCtorEq];cbv;repeat' (first|(simp only[zA];cbv)|(refine InN.mk Z.d Z.d ?_;(try cbv))|(refine And.intro ?_ ?_)|fail)
    exact Z.r hR
def frX(v:Int):Int:=if v<0 then v+4294967296 else v
def frH(k s v:Int):List Int:=[k,s,szF k]++((if szF k=4 then [frX v/16777216,frX v/65536%256] else [])++[frX v/256%256,frX v%256])
def frB(k s v:Int):List Int:=frH k s v++[bi (crF 65535#16 (frH k s v))/256,bi (crF 65535#16 (frH k s v))%256]
theorem Xh(k s v:Int)(hn:szF k=2)(hk:0<=k/\k<=5)(hs:0<=s/\s<=255)(hv:0<=v/\v<=65535)(us:List (List AV))(kZ:us=(frB k s v).map AZ):A9 Tryz.prog 72 [.agg [k,s,v]] (· = .tuple [.list 1 us,jz 0]):=by
 have q0:=Nu k;rw[hn] at q0;obtain⟨x,ex⟩:=Z.e (frX v);obtain rfl:x=v:=by rw[ex];exact if_neg Z.o
 have uS:0<=x/\x<=4294967295:=by omega
 obtain⟨d1,rW⟩:=Z.e (x/256);obtain⟨b1,rX⟩:=Z.e (d1%256);obtain⟨b0,wI⟩:=Z.e (x%256);have hH:frH k s x=[k,s,2,b1,b0]:=by unfold frH;rw[hn,<- ex,rX,rW,wI];rfl
 obtain⟨c,ec⟩:=Z.e (bi (crF 65535#16 [k,s,2,b1,b0]));have xY:0<=c/\c<=65535:=by rw[ec];have:=Hd (crF 65535#16 [k,s,2,b1,b0]);omega
 have kU:Ar [k,s,2,b1,b0]:=B_ Z.o (B_ Z.o (B_ Z.o (B_ Z.o (B_ Z.o (λx hx=>by cases hx)))));have q1:=Ll [k,s,2,b1,b0] kU (by simp) c _ rfl ec;obtain⟨c1,xw⟩:=Z.e (c/256);obtain⟨c0,xx⟩:=Z.e (c%256);have hB:frB k s x=[k,s,2,b1,b0,c1,c0]:=by unfold frB;rw[hH,<- ec,<- xw,<- xx];rfl
 rw[hB] at kZ;have rQ:Up0 us:=by rw[kZ];exact Ao _
 have yP:Up0 ([k,s,2,b1,b0].map AZ):=Ao _;simp only[List.map_cons,List.map_nil,AZ] at kZ q1 yP;clear hB hH kU ec ex;(refine A9.ofD Tryz.func72 (by kernel_rfl) (by kernel_rfl) (Z.v λzB zE _ zD _ _ _ zC zA _ zG _ _ hz R hR=>?_));(conv=>arg 2;cbv);(generalize hP:Tryz.prog=P);cbv;have t1:zE .eql 2 0=false:=W.neq zA Z.d;have t2:zE .eql 2 4=false:=W.neq zA Z.d;have t3:zE .lss s 0=false:=W.nlt zA Z.o;have t4:zE .gtr s 255=false:=W.ngt zA Z.o;have t6:zE .gtr x 65535=false:=W.ngt zA Z.o;have t7:zE .lss x 0=false:=W.nlt zA Z.o;have u1:zD .u8 k=k:=by rw[zG];exact wrap_u8 Z.o Z.o
 have u2:zD .u8 s=s:=by rw[zG];exact wrap_u8 Z.o Z.o
 have u3:zD .u8 2=2:=by rw[zG];exact wrap_u8 Z.o Z.o
 have u4:zD .u8 b1=b1:=by rw[zG];exact wrap_u8 Z.o Z.o
 have u5:zD .u8 b0=b0:=by rw[zG];exact wrap_u8 Z.o Z.o
 have u6:zD .u8 c1=c1:=by rw[zG];exact wrap_u8 Z.o Z.o
 have u7:zD .u8 c0=c0:=by rw[zG];exact wrap_u8 Z.o Z.o
 have r1:zB .quo .i64 x 256=d1:=by rw[zC,DX uS.1 Z.d Z.o,rW]
 have r2:zB .rem .i64 d1 256=b1:=by rw[zC,rX];exact D8 Z.o
 have r3:zB .rem .i64 x 256=b0:=by rw[zC,wI];exact D8 Z.o
 have r8:zB .quo .i64 c 256=c1:=by rw[zC,DX xY.1 Z.d Z.o,xw]
 have r9:zB .rem .i64 c 256=c0:=by rw[zC,xx];exact D8 xY.1
 repeat' (first|(simp only[t1,t2,t3,t4,t6,t7,u1,u2,u3,u4,u5,u6,u7,r1,r2,r3,r8,r9];cbv)|(refine Call.s hP q0 ?_;cbv)|(refine Nz.mk Z.d ?_;cbv)|(refine Cq.mk [[.int .u8 k],[.int .u8 s],[.int .u8 2],[.int .u8 b1],[.int .u8 b0]] 5 rfl rfl rfl rfl Z.d Z.d ?_;cbv)|fail)
 refine Call.view (args':=[.list 1 [[.int .u8 k],[.int .u8 s],[.int .u8 2],[.int .u8 b1],[.int .u8 b0]]]) (by rw[<- hP];exact q1) ⟨He rfl yP.get rfl,trivial⟩ ?_;rintro r rfl;refine⟨rfl,?_⟩;cbv;repeat' (first|(simp only[u6,u7,r8,r9];cbv)|(refine Nz.mk Z.d ?_;cbv)|(refine Cq.mk us 7 kZ rfl rfl rfl Z.d Z.d ?_;cbv)|fail)
 exact⟨_,Vw.tuple (rs:=[_,_]) ⟨He (es:=us) rfl rQ.get (by rw[kZ];rfl),Vw.same rfl,trivial⟩,hR _ rfl⟩
theorem Xi(k s v:Int)(hn:szF k=4)(hk:0<=k/\k<=5)(hs:0<=s/\s<=255)(hv:0<=v/\v<=2147483647)(us:List (List AV))(kZ:us=(frB k s v).map AZ):A9 Tryz.prog 72 [.agg [k,s,v]] (· = .tuple [.list 1 us,jz 0]):=by
 have q0:=Nu k;rw[hn] at q0;obtain⟨x,ex⟩:=Z.e (frX v);obtain rfl:x=v:=by rw[ex];exact if_neg Z.o
 have uS:0<=x/\x<=4294967295:=by omega
 obtain⟨b3,xB⟩:=Z.e (x/16777216);obtain⟨d2,w_⟩:=Z.e (x/65536);obtain⟨b2,qM⟩:=Z.e (d2%256);obtain⟨d1,rW⟩:=Z.e (x/256);obtain⟨b1,rX⟩:=Z.e (d1%256);obtain⟨b0,wI⟩:=Z.e (x%256);have hH:frH k s x=[k,s,4,b3,b2,b1,b0]:=by unfold frH;rw[hn,<- ex,rX,rW,wI,xB,qM,w_];rfl
 obtain⟨c,ec⟩:=Z.e (bi (crF 65535#16 [k,s,4,b3,b2,b1,b0]));have xY:0<=c/\c<=65535:=by rw[ec];have:=Hd (crF 65535#16 [k,s,4,b3,b2,b1,b0]);omega
 have kU:Ar [k,s,4,b3,b2,b1,b0]:=B_ Z.o (B_ Z.o (B_ Z.o (B_ Z.o (B_ Z.o (B_ Z.o (B_ Z.o (λx hx=>by cases hx)))))));have q1:=Ll [k,s,4,b3,b2,b1,b0] kU (by simp) c _ rfl ec;obtain⟨c1,xw⟩:=Z.e (c/256);obtain⟨c0,xx⟩:=Z.e (c%256);have hB:frB k s x=[k,s,4,b3,b2,b1,b0,c1,c0]:=by unfold frB;rw[hH,<- ec,<- xw,<- xx];rfl
 rw[hB] at kZ;have rQ:Up0 us:=by rw[kZ];exact Ao _
 have yP:Up0 ([k,s,4,b3,b2,b1,b0].map AZ):=Ao _;simp only[List.map_cons,List.map_nil,AZ] at kZ q1 yP;clear hB hH kU ec ex;(refine A9.ofD Tryz.func72 (by kernel_rfl) (by kernel_rfl) (Z.v λzB zE _ zD _ _ _ zC zA _ zG _ _ hz R hR=>?_));(conv=>arg 2;cbv);(generalize hP:Tryz.prog=P);cbv;have t1:zE .eql 4 0=false:=W.neq zA Z.d;have t2:zE .eql 4 4=true:=W.eq zA rfl;have t3:zE .lss s 0=false:=W.nlt zA Z.o;have t4:zE .gtr s 255=false:=W.ngt zA Z.o;have t5:zE .lss x (-2147483648)=false:=W.nlt zA Z.o;have t6:zE .gtr x 2147483647=false:=W.ngt zA Z.o;have t7:zE .lss x 0=false:=W.nlt zA Z.o;have u1:zD .u8 k=k:=by rw[zG];exact wrap_u8 Z.o Z.o
 have u2:zD .u8 s=s:=by rw[zG];exact wrap_u8 Z.o Z.o
 have u3:zD .u8 4=4:=by rw[zG];exact wrap_u8 Z.o Z.o
 have u4:zD .u8 b3=b3:=by rw[zG];exact wrap_u8 Z.o Z.o
 have u5:zD .u8 b2=b2:=by rw[zG];exact wrap_u8 Z.o Z.o
 have u6:zD .u8 b1=b1:=by rw[zG];exact wrap_u8 Z.o Z.o
 have u7:zD .u8 b0=b0:=by rw[zG];exact wrap_u8 Z.o Z.o
 have u8:zD .u8 c1=c1:=by rw[zG];exact wrap_u8 Z.o Z.o
 have u9:zD .u8 c0=c0:=by rw[zG];exact wrap_u8 Z.o Z.o
 have r1:zB .quo .i64 x 16777216=b3:=by rw[zC,DX uS.1 Z.d Z.o,xB]
 have r2:zB .quo .i64 x 65536=d2:=by rw[zC,DX uS.1 Z.d Z.o,w_]
 have r3:zB .rem .i64 d2 256=b2:=by rw[zC,qM];exact D8 Z.o
 have r4:zB .quo .i64 x 256=d1:=by rw[zC,DX uS.1 Z.d Z.o,rW]
 have r5:zB .rem .i64 d1 256=b1:=by rw[zC,rX];exact D8 Z.o
 have r6:zB .rem .i64 x 256=b0:=by rw[zC,wI];exact D8 Z.o
 have r8:zB .quo .i64 c 256=c1:=by rw[zC,DX xY.1 Z.d Z.o,xw]
 have r9:zB .rem .i64 c 256=c0:=by rw[zC,xx];exact D8 xY.1
 repeat' (first|(simp only[t1,t2,t3,t4,t6,t7,t5,u1,u2,u3,u4,u5,u6,u7,u8,u9,r1,r2,r3,r4,r5,r6,r8,r9];cbv)|(refine Call.s hP q0 ?_;cbv)|(refine Nz.mk Z.d ?_;cbv)|(refine Cq.mk [[.int .u8 k],[.int .u8 s],[.int .u8 4],[.int .u8 b3],[.int .u8 b2]] 5 rfl rfl rfl rfl Z.d Z.d ?_;cbv)|(refine Cq.mk [[.int .u8 k],[.int .u8 s],[.int .u8 4],[.int .u8 b3],[.int .u8 b2],[.int .u8 b1],[.int .u8 b0]] 7 rfl rfl rfl rfl Z.d Z.d ?_;cbv)|fail)
 refine Call.view (args':=[.list 1 [[.int .u8 k],[.int .u8 s],[.int .u8 4],[.int .u8 b3],[.int .u8 b2],[.int .u8 b1],[.int .u8 b0]]]) (by rw[<- hP];exact q1) ⟨He rfl yP.get rfl,trivial⟩ ?_;rintro r rfl;refine⟨rfl,?_⟩;cbv;repeat' (first|(simp only[u8,u9,r8,r9];cbv)|(refine Nz.mk Z.d ?_;cbv)|(refine Cq.mk us 9 kZ rfl rfl rfl Z.d Z.d ?_;cbv)|fail)
 exact⟨_,Vw.tuple (rs:=[_,_]) ⟨He (es:=us) rfl rQ.get (by rw[kZ];rfl),Vw.same rfl,trivial⟩,hR _ rfl⟩
theorem Xj(k s v:Int)(hn:szF k=4)(hk:0<=k/\k<=5)(hs:0<=s/\s<=255)(hv: -2147483648<=v/\v<0)(us:List (List AV))(kZ:us=(frB k s v).map AZ):A9 Tryz.prog 72 [.agg [k,s,v]] (· = .tuple [.list 1 us,jz 0]):=by
 have q0:=Nu k;rw[hn] at q0;obtain⟨x,ex⟩:=Z.e (frX v);have hx:x=v+4294967296:=by rw[ex];exact if_pos Z.o
 have uS:0<=x/\x<=4294967295:=by omega
 obtain⟨b3,xB⟩:=Z.e (x/16777216);obtain⟨d2,w_⟩:=Z.e (x/65536);obtain⟨b2,qM⟩:=Z.e (d2%256);obtain⟨d1,rW⟩:=Z.e (x/256);obtain⟨b1,rX⟩:=Z.e (d1%256);obtain⟨b0,wI⟩:=Z.e (x%256);have hH:frH k s v=[k,s,4,b3,b2,b1,b0]:=by unfold frH;rw[hn,<- ex,rX,rW,wI,xB,qM,w_];rfl
 obtain⟨c,ec⟩:=Z.e (bi (crF 65535#16 [k,s,4,b3,b2,b1,b0]));have xY:0<=c/\c<=65535:=by rw[ec];have:=Hd (crF 65535#16 [k,s,4,b3,b2,b1,b0]);omega
 have kU:Ar [k,s,4,b3,b2,b1,b0]:=B_ Z.o (B_ Z.o (B_ Z.o (B_ Z.o (B_ Z.o (B_ Z.o (B_ Z.o (λx hx=>by cases hx)))))));have q1:=Ll [k,s,4,b3,b2,b1,b0] kU (by simp) c _ rfl ec;obtain⟨c1,xw⟩:=Z.e (c/256);obtain⟨c0,xx⟩:=Z.e (c%256);have hB:frB k s v=[k,s,4,b3,b2,b1,b0,c1,c0]:=by unfold frB;rw[hH,<- ec,<- xw,<- xx];rfl
 rw[hB] at kZ;have rQ:Up0 us:=by rw[kZ];exact Ao _
 have yP:Up0 ([k,s,4,b3,b2,b1,b0].map AZ):=Ao _;simp only[List.map_cons,List.map_nil,AZ] at kZ q1 yP;clear hB hH kU ec ex;(refine A9.ofD Tryz.func72 (by kernel_rfl) (by kernel_rfl) (Z.v λzB zE _ zD _ _ _ zC zA _ zG _ _ _ R hR=>?_));(conv=>arg 2;cbv);(generalize hP:Tryz.prog=P);cbv;have t1:zE .eql 4 0=false:=W.neq zA Z.d;have t2:zE .eql 4 4=true:=W.eq zA rfl;have t3:zE .lss s 0=false:=W.nlt zA Z.o;have t4:zE .gtr s 255=false:=W.ngt zA Z.o;have t5:zE .lss v (-2147483648)=false:=W.nlt zA Z.o;have t6:zE .gtr v 2147483647=false:=W.ngt zA Z.o;have t7:zE .lss v 0=true:=W.lt zA Z.o;have t8:zB .add .i64 v 4294967296=x:=by rw[zC,Ag Z.o Z.o,hx]
 have u1:zD .u8 k=k:=by rw[zG];exact wrap_u8 Z.o Z.o
 have u2:zD .u8 s=s:=by rw[zG];exact wrap_u8 Z.o Z.o
 have u3:zD .u8 4=4:=by rw[zG];exact wrap_u8 Z.o Z.o
 have u4:zD .u8 b3=b3:=by rw[zG];exact wrap_u8 Z.o Z.o
 have u5:zD .u8 b2=b2:=by rw[zG];exact wrap_u8 Z.o Z.o
 have u6:zD .u8 b1=b1:=by rw[zG];exact wrap_u8 Z.o Z.o
 have u7:zD .u8 b0=b0:=by rw[zG];exact wrap_u8 Z.o Z.o
 have u8:zD .u8 c1=c1:=by rw[zG];exact wrap_u8 Z.o Z.o
 have u9:zD .u8 c0=c0:=by rw[zG];exact wrap_u8 Z.o Z.o
 have r1:zB .quo .i64 x 16777216=b3:=by rw[zC,DX uS.1 Z.d Z.o,xB]
 have r2:zB .quo .i64 x 65536=d2:=by rw[zC,DX uS.1 Z.d Z.o,w_]
 have r3:zB .rem .i64 d2 256=b2:=by rw[zC,qM];exact D8 Z.o
 have r4:zB .quo .i64 x 256=d1:=by rw[zC,DX uS.1 Z.d Z.o,rW]
 have r5:zB .rem .i64 d1 256=b1:=by rw[zC,rX];exact D8 Z.o
 have r6:zB .rem .i64 x 256=b0:=by rw[zC,wI];exact D8 Z.o
 have r8:zB .quo .i64 c 256=c1:=by rw[zC,DX xY.1 Z.d Z.o,xw]
 have r9:zB .rem .i64 c 256=c0:=by rw[zC,xx];exact D8 xY.1
 repeat' (first|(simp only[t1,t2,t3,t4,t6,t7,t5,t8,u1,u2,u3,u4,u5,u6,u7,u8,u9,r1,r2,r3,r4,r5,r6,r8,r9];cbv)|(refine Call.s hP q0 ?_;cbv)|(refine Nz.mk Z.d ?_;cbv)|(refine Cq.mk [[.int .u8 k],[.int .u8 s],[.int .u8 4],[.int .u8 b3],[.int .u8 b2]] 5 rfl rfl rfl rfl Z.d Z.d ?_;cbv)|(refine Cq.mk [[.int .u8 k],[.int .u8 s],[.int .u8 4],[.int .u8 b3],[.int .u8 b2],[.int .u8 b1],[.int .u8 b0]] 7 rfl rfl rfl rfl Z.d Z.d ?_;cbv)|fail)
 refine Call.view (args':=[.list 1 [[.int .u8 k],[.int .u8 s],[.int .u8 4],[.int .u8 b3],[.int .u8 b2],[.int .u8 b1],[.int .u8 b0]]]) (by rw[<- hP];exact q1) ⟨He rfl yP.get rfl,trivial⟩ ?_;rintro r rfl;refine⟨rfl,?_⟩;cbv;repeat' (first|(simp only[u8,u9,r8,r9];cbv)|(refine Nz.mk Z.d ?_;cbv)|(refine Cq.mk us 9 kZ rfl rfl rfl Z.d Z.d ?_;cbv)|fail)
 exact⟨_,Vw.tuple (rs:=[_,_]) ⟨He (es:=us) rfl rQ.get (by rw[kZ];rfl),Vw.same rfl,trivial⟩,hR _ rfl⟩
def Qz(k v:Int):Prop:=(szF k=2/\0<=v/\v<=65535)\/(szF k=4 /\ -2147483648<=v/\v<=2147483647)
theorem Nw{k:Int}(h:szF k≠0):0<=k/\k<=5:=by
 unfold szF at h;split at h
 ·omega
 ·split at h
  ·omega
  ·exact absurd rfl h
theorem Xk(k s v:Int)(hf:Qz k v)(hs:0<=s/\s<=255)(us:List (List AV))(kZ:us=(frB k s v).map AZ):A9 Tryz.prog 72 [.agg [k,s,v]] (· = .tuple [.list 1 us,jz 0]):=by
 rcases hf with ⟨h,hv⟩|⟨h,hv⟩
 ·exact Xh k s v h (Nw (by rw[h];decide)) hs hv us kZ
 ·by_cases h0:v<0
  ·exact Xj k s v h (Nw (by rw[h];decide)) hs ⟨hv.1,h0⟩ us kZ
  ·exact Xi k s v h (Nw (by rw[h];decide)) hs ⟨by omega,hv.2⟩ us kZ
theorem KV{n:Int}{x r:List Int}(h:x.length=n.toNat):rdN n ⟨x++r,false⟩=(Eo (be x),⟨r,false⟩):=by
 unfold rdN;rw[if_neg (by simp;omega)];rw[<- h,List.take_left,List.drop_left]
theorem Ls{v:Int}(h:v<=9223372036854775807):Eo v=v:=by
 unfold Eo;rw[if_neg Z.o]
theorem be_1(v:Int)(h0:0<=v)(h1:v<=255):Eo (be [v])=v:=by
 have e:be [v]=v:=by
  unfold be;simp only[List.foldl_cons,List.foldl_nil];omega
 rw[e,Ls Z.o]
theorem be_2(v:Int)(h0:0<=v)(h1:v<=65535):Eo (be (Al 2 v))=v:=by
 have e:be (Al 2 v)=v:=by
  unfold be;simp only[Al,List.nil_append,List.cons_append,List.foldl_cons,List.foldl_nil];omega
 rw[e,Ls Z.o]
theorem RI(v:Int)(h0:0<=v)(h1:v<=4294967295):Eo (be (Al 4 v))=v:=by
 have e:be (Al 4 v)=v:=by
  unfold be;simp only[Al,List.nil_append,List.cons_append,List.foldl_cons,List.foldl_nil];omega
 rw[e,Ls Z.o]
theorem YJ(v:Int)(h0: -2147483648<=v)(h1:v<=2147483647):D_ (Eo (be (Al 4 v)))=v:=by
 by_cases h:v<0
 ·have e:be (Al 4 v)=v+4294967296:=by
   unfold be;simp only[Al,List.nil_append,List.cons_append,List.foldl_cons,List.foldl_nil];omega
  rw[e,Ls Z.o];unfold D_;rw[if_pos Z.o];omega
 ·rw[RI v Z.o Z.o]
  unfold D_;rw[if_neg Z.o]
theorem be_8(v:Int)(h0:0<=v)(h1:v<=9223372036854775807):Eo (be (Al 8 v))=v:=by
 have e:be (Al 8 v)=v:=by
  unfold be;simp only[Al,List.nil_append,List.cons_append,List.foldl_cons,List.foldl_nil];omega
 rw[e];unfold Eo;rw[if_neg Z.o]
theorem Lt{v:Int}{r:List Int}(h0:0<=v)(h1:v<=255):rdN 1 ⟨v::r,false⟩=(v,⟨r,false⟩):=by
 have:=KV (n:=1) (x:=[v]) (r:=r) rfl;rw[be_1 v h0 h1] at this;exact this
theorem O6{v:Int}{r:List Int}(h0:0<=v)(h1:v<=65535):rdN 2 ⟨Al 2 v++r,false⟩=(v,⟨r,false⟩):=by
 rw[KV (by rw[Ez];rfl),be_2 v h0 h1]
theorem RJ{v:Int}{r:List Int}(h0:0<=v)(h1:v<=4294967295):rdN 4 ⟨Al 4 v++r,false⟩=(v,⟨r,false⟩):=by
 rw[KV (by rw[Ez];rfl),RI v h0 h1]
theorem O7{v:Int}{r:List Int}(h0:0<=v)(h1:v<=9223372036854775807):rdN 8 ⟨Al 8 v++r,false⟩=(v,⟨r,false⟩):=by
 rw[KV (by rw[Ez];rfl),be_8 v h0 h1]
theorem RN{D:Type}{st:Rd->D×Rd}{f:D->List Int}{l:List D}{r:List Int}(H:∀a,a∈l->∀t,st ⟨f a++t,false⟩=(a,⟨t,false⟩)):∀n,n<=l.length->AU st n ⟨l.flatMap f++r,false⟩=(l.take n,⟨(l.drop n).flatMap f++r,false⟩)
 | 0,_=>by simp[AU]
 | n+1,h=>by
   have ih:=RN (r:=r) H n Z.o;have hd:l.drop n=l[n]::l.drop (n+1):=List.drop_eq_getElem_cons Z.o;simp only[AU,ih];rw[hd,List.flatMap_cons,List.append_assoc,H _ (List.getElem_mem Z.o)];simp only[Prod.mk.injEq,and_true];exact List.take_append_getElem Z.o
theorem Lu{D:Type}{st:Rd->D×Rd}{f:D->List Int}{l:List D}{r:List Int}(H:∀a,a∈l->∀t,st ⟨f a++t,false⟩=(a,⟨t,false⟩)):AU st l.length ⟨l.flatMap f++r,false⟩=(l,⟨r,false⟩):=by
 rw[RN H _ (Nat.le_refl _)];simp
theorem YK(p:Int×Int)(h:0<=p.1/\p.1<=9223372036854775807 /\ -2147483648<=p.2/\p.2<=2147483647)(t:List Int):pcR ⟨pcB p++t,false⟩=(p,⟨t,false⟩):=by
 unfold pcR pcB;rw[List.append_assoc,O7 h.1 h.2.1];simp only;rw[KV (by rw[Ez];rfl)];simp only[YJ p.2 h.2.2.1 h.2.2.2]
structure SgB(s:Sg):Prop where
 len:0<=s.len/\s.len<=9223372036854775807
 n:s.ps.length<=64
 ps:∀p,p∈s.ps->0<=p.1/\p.1<=9223372036854775807 /\ -2147483648<=p.2/\p.2<=2147483647
 m:s.nx.length<=2
 nx:∀x,x∈s.nx->0<=x/\x<=255
theorem Lv{n most v:Int}{q q':Rd}(h:rdN n q=(v,q'))(hm:v<=most):rdC n most q=(v,q'):=by
 unfold rdC;rw[h,if_neg (by simp only;omega)]
theorem YL(s:Sg)(h:SgB s)(t:List Int):sgR ⟨EE s++t,false⟩=(s,⟨t,false⟩):=by
 have h1:=h.n;have h2:=h.m;have e1:((s.ps.length:Int)%256)=s.ps.length:=by omega
 have e2:((s.nx.length:Int)%256)=s.nx.length:=by omega
 unfold sgR EE;simp only[List.append_assoc,List.cons_append];rw[O7 h.len.1 h.len.2];simp only;rw[e1,Lv (Lt Z.o Z.o) Z.o];simp only[Int.toNat_natCast];rw[Lu (f:=pcB) λp hp t=>YK p (h.ps p hp) t];simp only;rw[e2,Lv (Lt Z.o Z.o) Z.o];simp only[Int.toNat_natCast]
 have e3:s.nx.map (· % 256)=s.nx.flatMap λx=>[x]:=by
  rw[List.flatMap_singleton' s.nx]
  conv=>rhs;rw[<- List.map_id s.nx]
  exact List.map_congr_left λx hx=>by have:=h.nx x hx;simp only[id];omega
 rw[e3,Lu (st:=nxR) (f:=λx=>[x]) λx hx t=>Lt (h.nx x hx).1 (h.nx x hx).2]
structure GrB(g:Gr):Prop where
 id:0<=g.id/\g.id<=65535
 seg:0<=g.seg/\g.seg<=255
 off:0<=g.off/\g.off<=9223372036854775807
 acc:0<=g.acc/\g.acc<=4294967295
 sl:0<=g.sl/\g.sl<=4294967295
theorem YM(g:Gr)(h:GrB g)(t:List Int):gpR ⟨EF g++t,false⟩=(g,⟨t,false⟩):=by
 have e1:g.seg%256=g.seg:=by have:=h.seg;omega
 unfold gpR EF;simp only[List.append_assoc,List.cons_append,e1,O6 h.id.1 h.id.2,Lt h.seg.1 h.seg.2,O7 h.off.1 h.off.2,RJ h.acc.1 h.acc.2,RJ h.sl.1 h.sl.2]
theorem YN(v:BitVec 16):[bi v/256,bi v%256]=JW v:=by
 have h1:(v >>> 8).toNat=v.toNat/256:=by rw[BitVec.toNat_ushiftRight,Nat.shiftRight_eq_div_pow]
 have h2:(v &&& 255#16).toNat=v.toNat%256:=by rw[BitVec.toNat_and];exact Nat.and_two_pow_sub_one_eq_mod (n:=8) _
 unfold JW bi;rw[h1,h2];simp only[List.cons.injEq,and_true];exact⟨by omega,by omega⟩
theorem YO(ss:List Sg)(gs:List Gr)(ht:BN ss gs)(hl:(Cr ss gs).length<=1048574)(hs:∀s,s∈ss->SgB s)(hg:∀g,g∈gs->GrB g):Ep (CZ ss gs) ss gs:=by
 have h1:=ht.le;have h2:=ht.gle;have hv:CZ ss gs=Cr ss gs++JW (crF 65535#16 (Cr ss gs)):=by unfold CZ;rw[YN]
 have zH:(CZ ss gs).length=(Cr ss gs).length+2:=by unfold CZ;simp
 have hb:4<=(Cr ss gs).length:=by unfold Cr;simp only[List.length_append,List.length_cons,List.length_nil];omega
 refine⟨by omega,by omega,?_,?_,?_,ht⟩
 ·unfold CZ Cr JJ;rfl
 ·rw[hv];exact YP _
 ·unfold K7
  have e:((CZ ss gs).take ((CZ ss gs).length-2)).drop 4=Al 2 ss.length++(ss.flatMap EE++(Al 2 gs.length++(gs.flatMap EF++[]))):=by
   rw[zH,Nat.add_sub_cancel,hv,List.take_left,List.append_nil];unfold Cr;rfl
  rw[e];simp only;rw[Lv (O6 Z.o Z.o) Z.o];simp only[Int.toNat_natCast];rw[Lu (f:=EE) λs h t=>YL s (hs s h) t];simp only;rw[Lv (O6 Z.o Z.o) Z.o];simp only[Int.toNat_natCast];rw[Lu (f:=EF) λg h t=>YM g (hg g h) t]
theorem RO{ps:List (Int×Int)}{len:Int}(h:Hl ps len):∀(j:Nat) (p:Int×Int),ps[j]?=some p->0<=p.1
 | 0,p,hp=>by rw[h.zero p hp];exact Int.le_refl _
 | j+1,p,hp=>by
   have hj:=(List.getElem?_eq_some_iff.1 hp).1;obtain⟨o,ho⟩:∃o,ps[j]?=some o:=⟨_,List.getElem?_eq_getElem (show j<ps.length by omega)⟩;have h1:=RO h j o ho;have h2:=(h.all (j+1) hj p hp).2.2.2 Z.o o ho;omega
theorem YQ{ss:List Sg}{gs:List Gr}(h:BN ss gs):∀s,s∈ss->SgB s:=λs hs=>by
 obtain⟨j,hj⟩:=List.mem_iff_getElem?.1 hs;have hm:=h.seg j (List.getElem?_eq_some_iff.1 hj).1 s hj;have h1:=hm.pos;have h2:=hm.le;have h3:=h.le;refine⟨by omega,hm.may.le,λp hp=>?_,hm.two,λx hx=>?_⟩
 ·obtain⟨i,hi⟩:=List.mem_iff_getElem?.1 hp
  have k1:=RO hm.may i p hi;have k2:=hm.may.all i (List.getElem?_eq_some_iff.1 hi).1 p hi;exact⟨k1,by omega,by omega,by omega⟩
 ·obtain⟨i,hi⟩:=List.mem_iff_getElem?.1 hx
  have:=hm.nx i (List.getElem?_eq_some_iff.1 hi).1 x hi;omega
theorem YR{ss:List Sg}{gs:List Gr}(h:BN ss gs):∀g,g∈gs->GrB g:=λg hg=>by
 obtain⟨j,hj⟩:=List.mem_iff_getElem?.1 hg;obtain⟨k1,k2,k3,k4,k5,k6,k7,k8,k9,qz,_⟩:=h.grp j (List.getElem?_eq_some_iff.1 hj).1 g hj;obtain⟨s,hs⟩:∃s,ss[g.seg.toNat]?=some s:=⟨_,List.getElem?_eq_getElem k4⟩;have h1:=k6 s hs;have h2:=(h.seg _ k4 s hs).le;have h3:=h.le;exact⟨by omega,by omega,by omega,by omega,by omega⟩
theorem YS{ss:List Sg}{gs:List Gr}(ht:BN ss gs)(hl:(Cr ss gs).length<=1048574):Ep (CZ ss gs) ss gs:=YO ss gs ht hl (YQ ht) (YR ht)
structure Se where
 c0:Int
 c1:Int
 sp:Int
 ac:Int
 gr:Int
 h0:Bool
 h1:Bool
 h2:Bool
 h3:Bool
 h4:Bool
 cm:Bool
def seL(x:Se)(k:Int):List (Bool×List Int):=[(x.h0,frB 1 k x.c0),(x.h1,frB 2 k x.c1),(x.h2,frB 3 k x.sp),(x.h3,frB 4 k x.ac),(x.h4,frB 5 k x.gr)]
def seF(l:List (Bool×List Int)):List (List Int):=(l.filter (·.1)).map (·.2)
def seC(x:Se)(k:Int):Cy:=(seF (seL x k),x.cm)
def Hf:Int->List Se->List Cy
 | _,[]=>[]
 | k,x::l=>seC x (k%256)::Hf (k+1) l
def IY:Se:=⟨0,0,0,0,7,true,true,true,true,true,false⟩
def IZ:Se:=⟨0,0,0,0,0,true,true,true,true,false,false⟩
theorem rf(k s v:Int)(hf:Qz k v)(hs:0<=s/\s<=255):∃a:List (List AV),a=(frB k s v).map AZ/\Up0 a/\A9 Tryz.prog 72 [.agg [k,s,v]] (· = .tuple [.list 1 a,jz 0]):=⟨_,rfl,Ao _,Xk k s v hf hs _ rfl⟩
theorem Xl(us:List (List AV))(kZ:us=(Hf 0 [IY,IZ]).map DJ):A9 Tryz.prog 30 [.list 11 [[.int .u16 0,.int .u16 0,.int .i32 0,.int .i32 0,.int .u16 7,.bool true,.bool true,.bool true,.bool true,.bool true,.bool false],[.int .u16 0,.int .u16 0,.int .i32 0,.int .i32 0,.int .u16 0,.bool true,.bool true,.bool true,.bool true,.bool false,.bool false]]] (· = .list 2 us):=by
 obtain⟨a0,f0,u0,q0⟩:=rf 1 0 0 (.inl ⟨rfl,by decide,by decide⟩) Z.d;obtain⟨a1,f1,u1,q1⟩:=rf 2 0 0 (.inl ⟨rfl,by decide,by decide⟩) Z.d;obtain⟨a2,f2,u2,q2⟩:=rf 3 0 0 (.inr ⟨rfl,by decide,by decide⟩) Z.d;obtain⟨a3,f3,u3,q3⟩:=rf 4 0 0 (.inr ⟨rfl,by decide,by decide⟩) Z.d;obtain⟨a4,f4,u4,q4⟩:=rf 5 0 7 (.inl ⟨rfl,by decide,by decide⟩) Z.d;obtain⟨a5,f5,u5,q5⟩:=rf 1 1 0 (.inl ⟨rfl,by decide,by decide⟩) Z.d;obtain⟨a6,f6,u6,q6⟩:=rf 2 1 0 (.inl ⟨rfl,by decide,by decide⟩) Z.d;obtain⟨a7,f7,u7,q7⟩:=rf 3 1 0 (.inr ⟨rfl,by decide,by decide⟩) Z.d;obtain⟨a8,f8,u8,q8⟩:=rf 4 1 0 (.inr ⟨rfl,by decide,by decide⟩) Z.d;obtain⟨a9,f9,u9,q9⟩:=rf 5 1 0 (.inl ⟨rfl,by decide,by decide⟩) Z.d
 have hR0:us=[[.list 1 [[.list 1 a0],[.list 1 a1],[.list 1 a2],[.list 1 a3],[.list 1 a4]],.bool false],[.list 1 [[.list 1 a5],[.list 1 a6],[.list 1 a7],[.list 1 a8]],.bool false]]:=by
  rw[kZ,f0,f1,f2,f3,f4,f5,f6,f7,f8];rfl
 clear kZ f0 f1 f2 f3 f4 f5 f6 f7 f8 f9;subst hR0;(refine A9.ofY Tryz.func30 (by kernel_rfl) (by kernel_rfl) λw hw R hR=>?_);(subst hw);(conv=>arg 2;cbv);(generalize hP:Tryz.prog=P);cbv;obtain⟨R0,eR0⟩:∃z:List AV,z=[.list 1 [[.list 1 a0],[.list 1 a1],[.list 1 a2],[.list 1 a3],[.list 1 a4]],.bool false]:=⟨_,rfl⟩;obtain⟨R1,eR1⟩:∃z:List AV,z=[.list 1 [[.list 1 a5],[.list 1 a6],[.list 1 a7],[.list 1 a8]],.bool false]:=⟨_,rfl⟩;rw[<- eR0,<- eR1] at hR;have v0:Up0 [R0]:=⟨by rw[eR0];simp only[BC,Af,AV.upto,u0.get,u1.get,u2.get,u3.get,u4.get]<;>rfl⟩;have v1:Up0 [R0,R1]:=⟨by rw[eR1];have:=v0.get;simp only[BC,Af,AV.upto,u5.get,u6.get,u7.get,u8.get,Bool.and_true] at this ⊢;rw[this]<;>rfl⟩;have w0:Up0 [[AV.list 1 a0],[.list 1 a1],[.list 1 a2],[.list 1 a3],[.list 1 a4]]:=⟨by simp only[BC,Af,AV.upto,u0.get,u1.get,u2.get,u3.get,u4.get]<;>rfl⟩;have w1:Up0 [[AV.list 1 a5],[.list 1 a6],[.list 1 a7],[.list 1 a8]]:=⟨by simp only[BC,Af,AV.upto,u5.get,u6.get,u7.get,u8.get]<;>rfl⟩
 refine Ae.data rfl (S:=Nat) (λs=>fr 74 [(3,match s with|0=>.nils|1=>.sl 0 2 0 1|_=>.sl 0 2 0 2),(11,.list 11 [[.int .u16 0,.int .u16 0,.int .i32 0,.int .i32 0,.int .u16 7,.bool true,.bool true,.bool true,.bool true,.bool true,.bool false],[.int .u16 0,.int .u16 0,.int .i32 0,.int .i32 0,.int .u16 0,.bool true,.bool true,.bool true,.bool true,.bool false,.bool false]]),(12,jz 2),(13,jz (match s with|0=>0|1=>1|_=>2))])
  (λs=>match s with|0=>[]|1=>[.live 2 [R0]]|_=>[.live 2 [R0,R1]]) (λs=>s=0\/s=1\/s=2) (λs=>2-s) 0 (by refine Wk.eqz id (by first|exact λi _ j _ e=>e|(simp only[List.length_cons,List.length_nil];decide)) ?_;cbv;(repeat' (first|exact trivial|rfl|exact⟨rfl⟩|apply And.intro))) (.inl rfl) ?_
 rintro s hs Q' hN hE hR';rcases hs with rfl|rfl|rfl
 ·subst eR0
  cbv;repeat' (first|(refine Call.s hP q0 ?_;cbv)|(refine Call.s hP q1 ?_;cbv)|(refine Call.s hP q2 ?_;cbv)|(refine Call.s hP q3 ?_;cbv)|(refine Call.s hP q4 ?_;cbv)|(refine Idx.mk _ Z.d rfl ?_;cbv)|(refine InN.mk Z.d Z.d ?_;(try cbv))|(refine Nz.mk Z.d ?_;cbv)|(refine Ob.mk Z.d ?_;cbv)|(refine App.mk _ _ rfl rfl rfl Z.d Z.d ?_;cbv)|(refine Ae.rounds rfl 6 ?_;cbv)|(refine And.intro ?_ ?_)|fail)
  refine hN 1 _ _ ?_ (.inr (.inl rfl)) Z.d;refine Wk.eqz (λ_=>7) (by simp only[List.length_cons,List.length_nil];omega) ?_;cbv;(repeat' (first|exact trivial|rfl|exact⟨rfl⟩|exact FzL.mk rfl rfl rfl w0 rfl Z.d|(refine Bn.one ?_;cbv)|apply And.intro))
 ·subst eR1
  cbv;repeat' (first|(refine Call.s hP q5 ?_;cbv)|(refine Call.s hP q6 ?_;cbv)|(refine Call.s hP q7 ?_;cbv)|(refine Call.s hP q8 ?_;cbv)|(refine Call.s hP q9 ?_;cbv)|(refine Idx.mk _ Z.d rfl ?_;cbv)|(refine InN.mk Z.d Z.d ?_;(try cbv))|(refine Nz.mk Z.d ?_;cbv)|(refine Ob.mk Z.d ?_;cbv)|(refine App.mk _ _ rfl rfl rfl Z.d Z.d ?_;cbv)|(refine Ae.rounds rfl 6 ?_;cbv)|(refine And.intro ?_ ?_)|fail)
  refine hN 2 _ _ ?_ (.inr (.inr rfl)) Z.d;refine Wk.eqz (λ_=>7) (by simp only[List.length_cons,List.length_nil];omega) ?_;cbv;(repeat' (first|exact trivial|rfl|exact⟨rfl⟩|exact FzL.mk rfl rfl rfl w1 rfl Z.d|(refine Bn.app (es0:=[R0]) v0 rfl rfl ?_;cbv)|apply And.intro))
 ·cbv
  refine hE _ _ _ ?_;cbv;exact⟨_,He rfl v1.get rfl,hR _ rfl⟩
theorem jb(k:Int):szF k=Da k:=rfl
theorem kK{l:List Int}{n:Int}(h5:5<=l.length)(hn:Da (l.getD 0 0)=n)(h0:n≠0)(h2:l.getD 2 0=n)(h3:(l.length:Int)=5+n)(hc:crF 65535#16 l=0#16):(frV l).e=0:=by
 unfold frV;rw[if_neg Z.o,if_neg (by rw[hn];exact h0),if_neg (by rw[hn];omega),if_neg (λh=>h hc)]
theorem jc(l:List Int)(x y:Int)(hx:0<=x/\x<=255)(hy:0<=y/\y<=255)(h:bi (crF 65535#16 l)=x*256+y):crF 65535#16 (l++[x,y])=0#16:=by
 have e:[x,y]=JW (crF 65535#16 l):=by
  obtain⟨v,ev⟩:=Z.e (crF 65535#16 l);rw[<- ev] at h ⊢;unfold JW bi;unfold bi at h;rw[BitVec.toNat_ushiftRight,Nat.shiftRight_eq_div_pow,BitVec.toNat_and,show (255#16).toNat=2 ^ 8-1 from rfl,Nat.and_two_pow_sub_one_eq_mod];have h1:x=((v.toNat/2 ^ 8:Nat):Int):=(by omega);have h2:y=((v.toNat%2 ^ 8:Nat):Int):=(by omega);rw[h1,h2]
 rw[e];exact YP l
def jd(l:List Int):Prop:=A9 Tryz.prog 70 [.list 1 (l.map AZ)] (λr=>∃k s v:Int,r = .tuple [.agg [k,s,v],jz 0])
def eF(l:List Int):Prop:=jd l/\(frV l).e=0
theorem kL(l:List Int)(hl:Ar l)(sP:l.length<=1000000)(rs:List (List AV))(yD:rs=l.map AZ):eF l\/A9 Tryz.prog 70 [.list 1 rs] (λr=>∃k s v e:Int,r = .tuple [.agg [k,s,v],jz e]/\e≠0):=by
 unfold eF jd;rw[<- yD];have hu:Up0 rs:=by rw[yD];exact Ao _
 have oL:rs.length=l.length:=by rw[yD];simp
 by_cases h1:l.length<5
 ·refine .inr ?_
  refine Z.y Tryz.func70 λ_ _ _ _ _ _ _ _ zA _ _ _ zH hz R hR P hP=>?_;cbv;obtain⟨L,eL,L0,Ln⟩:=Z.l zH rs;have d1:=W.lt zA (show L<5 by omega);repeat' (first|(simp only[eL,d1];cbv)|fail)
  exact⟨_,Vw.same rfl,hR _ ⟨_,_,_,_,rfl,by decide⟩⟩
 have nV:∀i:Nat,i<5->rs[i]?=some [.int .u8 (l.getD i 0)]/\0<=l.getD i 0/\l.getD i 0<=255:=λi hi=>by
  have mD:i<l.length:=(by omega);have e:l[i]?=some (l.getD i 0):=(by rw[List.getD_eq_getElem?_getD,List.getElem?_eq_getElem mD];rfl);exact⟨by rw[yD,List.getElem?_map,e];rfl,hl _ (List.mem_of_getElem? e)⟩
 have vW:=λn=>kK (l:=l) (n:=n) Z.o;obtain⟨k,ek⟩:=Z.e (l.getD 0 0);obtain⟨z,ez⟩:=Z.e (l.getD 2 0);have g0:=nV 0 Z.o;have g2:=nV 2 Z.o;rw[<- ek] at g0 vW;rw[<- ez] at g2 vW;obtain⟨n,en⟩:=Z.e (szF k);have q1:=Nu k;rw[<- en] at q1;have hk:=MJ k;rw[<- jb,<- en] at hk;have vW:=vW n (by rw[<- jb];exact en.symm);clear en nV ek ez;obtain⟨n5,en5⟩:=Z.e (5+n);obtain⟨n3,uN⟩:=Z.e (3+n);obtain⟨n4,en4⟩:=Z.e (4+n);by_cases h2:n=0
 ·subst h2
  refine .inr ?_;refine Z.y Tryz.func70 λ_ _ _ zD _ _ _ _ zA _ zG _ zH hz R hR P hP=>?_;cbv;obtain⟨L,eL,L0,Ln⟩:=Z.l zH rs;have d1:=W.nlt zA (show 5<=L by omega);have d2:=W.eq zA (a:=0) rfl;have v1:zD .i64 k=k:=by rw[zG];show IntKind.i64.wrap k=k;rw[IntKind.wrap_i64];omega
  repeat' (first|(simp only[eL,d1,d2,v1];cbv)|(refine Call.s hP q1 ?_;cbv)|(refine Idx.mk _ Z.d g0.1 ?_;cbv)|fail)
  exact⟨_,Vw.same rfl,hR _ ⟨_,_,_,_,rfl,by decide⟩⟩
 by_cases h4:z=n
 rotate_left 1
 ·refine .inr ?_
  refine Z.y Tryz.func70 λ_ _ _ zD _ _ _ _ zA _ zG _ zH hz R hR P hP=>?_;cbv;obtain⟨L,eL,L0,Ln⟩:=Z.l zH rs;have d1:=W.nlt zA (show 5<=L by omega);have d2:=W.neq zA h2;have d3:=W.ne zA h4;have v1:zD .i64 k=k:=by rw[zG];show IntKind.i64.wrap k=k;rw[IntKind.wrap_i64];omega
  have v2:zD .i64 z=z:=by rw[zG];show IntKind.i64.wrap z=z;rw[IntKind.wrap_i64];omega
  repeat' (first|(simp only[eL,d1,d2,d3,v1,v2];cbv)|(refine Call.s hP q1 ?_;cbv)|(refine Idx.mk _ Z.d g0.1 ?_;cbv)|(refine Idx.mk _ Z.d g2.1 ?_;cbv)|fail)
  exact⟨_,Vw.same rfl,hR _ ⟨_,_,_,_,rfl,by decide⟩⟩
 by_cases h5:rs.length=n5.toNat
 rotate_left 1
 ·refine .inr ?_
  refine Z.y Tryz.func70 λzB _ _ zD _ _ _ zC zA _ zG _ zH hz R hR P hP=>?_;cbv;obtain⟨L,eL,L0,Ln⟩:=Z.l zH rs;have d1:=W.nlt zA (show 5<=L by omega);have d2:=W.neq zA h2;have d3:=W.nne zA h4;have v1:zD .i64 k=k:=by rw[zG];show IntKind.i64.wrap k=k;rw[IntKind.wrap_i64];omega
  have v2:zD .i64 z=z:=by rw[zG];show IntKind.i64.wrap z=z;rw[IntKind.wrap_i64];omega
  have a2:zB .add .i64 5 n=n5:=(by rw[zC,Ag Z.o Z.o,en5]);have d4:=W.ne zA (show L≠n5 by omega);repeat' (first|(simp only[eL,d1,d2,d3,d4,v1,v2,a2];cbv)|(refine Call.s hP q1 ?_;cbv)|(refine Idx.mk _ Z.d g0.1 ?_;cbv)|(refine Idx.mk _ Z.d g2.1 ?_;cbv)|fail)
  exact⟨_,Vw.same rfl,hR _ ⟨_,_,_,_,rfl,by decide⟩⟩
 have hf2:=vW h2 h4 Z.o;clear vW;rcases hk with hk|⟨hk,pX⟩|⟨hk,pX⟩
 ·exact absurd hk h2
 ·subst hk
  obtain rfl:n5=7:=en5;obtain rfl:n3=5:=uN;obtain rfl:n4=6:=en4;obtain⟨t0,t1,t2,x,y,t5,t6,el⟩:=Sn l (by rw[<- oL,h5];rfl);have hb:=λb (h:b∈l)=>hl b h;have b5:=hl t5 (by rw[el];simp);have b6:=hl t6 (by rw[el];simp);obtain⟨c,ec⟩:=Z.e (bi (crF 65535#16 [t0,t1,t2,x,y]));have q3:=Ll [t0,t1,t2,x,y] (λb hb=>hl b (by rw[el];simp at hb ⊢;omega)) (by simp only[List.length_cons,List.length_nil];omega) c _ rfl ec;obtain⟨w1,tO⟩:=Z.e (t5*256);obtain⟨w,ew⟩:=Z.e (w1+t6);have zy:c=w->(frV l).e=0:=λh=>hf2 (by rw[el];exact jc [t0,t1,t2,x,y] t5 t6 b5 b6 (by rw[<- ec,h,ew,tO]));have qU:rs=[AZ t0,AZ t1,AZ t2,AZ x,AZ y,AZ t5,AZ t6]:=(by rw[yD,el];rfl);simp only[List.map_cons,List.map_nil] at q3;unfold AZ at qU q3;clear hf2 yD el ec hl hb;subst qU;simp only[List.getElem?_cons_zero,List.getElem?_cons_succ,Option.some.injEq,List.cons.injEq,AV.int.injEq,true_and,and_true] at g0 g2;obtain⟨rfl,g0⟩:=g0;obtain⟨rfl,g2⟩:=g2;subst h4;refine if hcw:c=w then .inl ⟨?_,zy hcw⟩ else .inr ?_
  all_goals
   (refine A9.ofY Tryz.func70 (by kernel_rfl) (by kernel_rfl) (Z.w λzB zE _ zD _ _ _ _ _ _ _ _ zK _ _ zN _ _ _ _ hw zC zA _ zG _ _ _ _ _ _ _ _ zH _ _ yI _ _ _ _ hz R hR=>?_));(conv=>arg 2;cbv);(generalize hP:Tryz.prog=P);cbv;have eL:zK [[AV.int .u8 t0],[.int .u8 t1],[.int .u8 2],[.int .u8 x],[.int .u8 y],[.int .u8 t5],[.int .u8 t6]]=7:=(by rw[zH];rfl);have d1:zE .lss 7 5=false:=W.nlt zA Z.d;have d2:zE .eql 2 0=false:=W.neq zA Z.d;have d3:zE .neq 2 2=false:=W.nne zA rfl;have d4:zE .neq 7 7=false:=W.nne zA rfl;have v1:zD .i64 t0=t0:=by rw[zG];show IntKind.i64.wrap t0=t0;rw[IntKind.wrap_i64];omega
   have v2:zD .i64 2=2:=(by rw[zG];rfl);have v5:zD .i64 t5=t5:=by rw[zG];show IntKind.i64.wrap t5=t5;rw[IntKind.wrap_i64];omega
   have v6:zD .i64 t6=t6:=by rw[zG];show IntKind.i64.wrap t6=t6;rw[IntKind.wrap_i64];omega
   have a5:zB .add .i64 5 2=7:=(by rw[zC];rfl);have a3:zB .add .i64 3 2=5:=(by rw[zC];rfl);have a4:zB .add .i64 4 2=6:=(by rw[zC];rfl);have m1:zB .mul .i64 t5 256=w1:=(by rw[zC,M7 Z.o Z.o,tO]);have m2:zB .add .i64 w1 t6=w:=(by rw[zC,Ag Z.o Z.o,ew]);have tk:zN [[AV.int .u8 t0],[.int .u8 t1],[.int .u8 2],[.int .u8 x],[.int .u8 y],[.int .u8 t5],[.int .u8 t6]] 5=[[.int .u8 t0],[.int .u8 t1],[.int .u8 2],[.int .u8 x],[.int .u8 y]]:=(by rw[yI];rfl);first|have d5:=W.nne zA hcw|have d5:=W.ne zA hcw
   have l3:zE .lss 3 5=true:=W.lt zA Z.d;have l4:zE .lss 4 5=true:=W.lt zA Z.d;have l5:zE .lss 5 5=false:=W.nlt zA Z.d;have i3:zB .add .i64 3 1=4:=(by rw[zC];rfl);have i4:zB .add .i64 4 1=5:=(by rw[zC];rfl);have d6:zE .eql 2 4=false:=W.neq zA Z.d;repeat' (first|(simp only[eL,d1,d2,d3,d4,v1,v2,v5,v6,a5,a3,a4,m1,m2,tk,d5,l3,l4,l5,i3,i4,d6];cbv)|(refine Call.s hP q1 ?_;cbv)|(refine AB.s hP q3 ?_;cbv)|(refine Idx.mk _ Z.d rfl ?_;cbv)|(refine Nn.mk Z.d ?_)|(refine Le.mk Z.d ?_)|(refine Ae.rounds hw 3 ?_;cbv)|(refine And.intro ?_ ?_)|(split<;>cbv)|fail)
   all_goals first|exact⟨_,Vw.same rfl,hR _ ⟨_,_,_,rfl⟩⟩|exact⟨_,Vw.same rfl,hR _ ⟨_,_,_,_,rfl,by decide⟩⟩
 ·subst hk
  obtain rfl:n5=9:=en5;obtain rfl:n3=7:=uN;obtain rfl:n4=8:=en4;obtain⟨t0,t1,t2,x,y,x2,y2,t5,t6,el⟩:=Sq l (by rw[<- oL,h5];rfl);have hb:=λb (h:b∈l)=>hl b h;have b5:=hl t5 (by rw[el];simp);have b6:=hl t6 (by rw[el];simp);obtain⟨c,ec⟩:=Z.e (bi (crF 65535#16 [t0,t1,t2,x,y,x2,y2]));have q3:=Ll [t0,t1,t2,x,y,x2,y2] (λb hb=>hl b (by rw[el];simp at hb ⊢;omega)) (by simp only[List.length_cons,List.length_nil];omega) c _ rfl ec;obtain⟨w1,tO⟩:=Z.e (t5*256);obtain⟨w,ew⟩:=Z.e (w1+t6);have zy:c=w->(frV l).e=0:=λh=>hf2 (by rw[el];exact jc [t0,t1,t2,x,y,x2,y2] t5 t6 b5 b6 (by rw[<- ec,h,ew,tO]));have qU:rs=[AZ t0,AZ t1,AZ t2,AZ x,AZ y,AZ x2,AZ y2,AZ t5,AZ t6]:=(by rw[yD,el];rfl);simp only[List.map_cons,List.map_nil] at q3;unfold AZ at qU q3;clear hf2 yD el ec hl hb;subst qU;simp only[List.getElem?_cons_zero,List.getElem?_cons_succ,Option.some.injEq,List.cons.injEq,AV.int.injEq,true_and,and_true] at g0 g2;obtain⟨rfl,g0⟩:=g0;obtain⟨rfl,g2⟩:=g2;subst h4;refine if hcw:c=w then .inl ⟨?_,zy hcw⟩ else .inr ?_
  all_goals
   (refine A9.ofY Tryz.func70 (by kernel_rfl) (by kernel_rfl) (Z.w λzB zE _ zD _ _ _ _ _ _ _ _ zK _ _ zN _ _ _ _ hw zC zA _ zG _ _ _ _ _ _ _ _ zH _ _ yI _ _ _ _ _ R hR=>?_));(conv=>arg 2;cbv);(generalize hP:Tryz.prog=P);cbv;have eL:zK [[AV.int .u8 t0],[.int .u8 t1],[.int .u8 4],[.int .u8 x],[.int .u8 y],[.int .u8 x2],[.int .u8 y2],[.int .u8 t5],[.int .u8 t6]]=9:=(by rw[zH];rfl);have d1:zE .lss 9 5=false:=W.nlt zA Z.d;have d2:zE .eql 4 0=false:=W.neq zA Z.d;have d3:zE .neq 4 4=false:=W.nne zA rfl;have d4:zE .neq 9 9=false:=W.nne zA rfl;have v1:zD .i64 t0=t0:=by rw[zG];show IntKind.i64.wrap t0=t0;rw[IntKind.wrap_i64];omega
   have v2:zD .i64 4=4:=(by rw[zG];rfl);have v5:zD .i64 t5=t5:=by rw[zG];show IntKind.i64.wrap t5=t5;rw[IntKind.wrap_i64];omega
   have v6:zD .i64 t6=t6:=by rw[zG];show IntKind.i64.wrap t6=t6;rw[IntKind.wrap_i64];omega
   have a5:zB .add .i64 5 4=9:=(by rw[zC];rfl);have a3:zB .add .i64 3 4=7:=(by rw[zC];rfl);have a4:zB .add .i64 4 4=8:=(by rw[zC];rfl);have m1:zB .mul .i64 t5 256=w1:=(by rw[zC,M7 Z.o Z.o,tO]);have m2:zB .add .i64 w1 t6=w:=(by rw[zC,Ag Z.o Z.o,ew]);have tk:zN [[AV.int .u8 t0],[.int .u8 t1],[.int .u8 4],[.int .u8 x],[.int .u8 y],[.int .u8 x2],[.int .u8 y2],[.int .u8 t5],[.int .u8 t6]] 7=[[.int .u8 t0],[.int .u8 t1],[.int .u8 4],[.int .u8 x],[.int .u8 y],[.int .u8 x2],[.int .u8 y2]]:=(by rw[yI];rfl);first|have d5:=W.nne zA hcw|have d5:=W.ne zA hcw
   have l3:zE .lss 3 7=true:=W.lt zA Z.d;have l4:zE .lss 4 7=true:=W.lt zA Z.d;have l5:zE .lss 5 7=true:=W.lt zA Z.d;have l6:zE .lss 6 7=true:=W.lt zA Z.d;have l7:zE .lss 7 7=false:=W.nlt zA Z.d;have i3:zB .add .i64 3 1=4:=(by rw[zC];rfl);have i4:zB .add .i64 4 1=5:=(by rw[zC];rfl);have i5:zB .add .i64 5 1=6:=(by rw[zC];rfl);have i6:zB .add .i64 6 1=7:=(by rw[zC];rfl);have d6:zE .eql 4 4=true:=W.eq zA rfl;repeat' (first|(simp only[eL,d1,d2,d3,d4,v1,v2,v5,v6,a5,a3,a4,m1,m2,tk,d5,l3,l4,l5,l6,l7,i3,i4,i5,i6,d6];cbv)|(refine Call.s hP q1 ?_;cbv)|(refine AB.s hP q3 ?_;cbv)|(refine Idx.mk _ Z.d rfl ?_;cbv)|(refine Nn.mk Z.d ?_)|(refine Le.mk Z.d ?_)|(refine Ae.rounds hw 5 ?_;cbv)|(refine And.intro ?_ ?_)|(split<;>cbv)|fail)
   all_goals first|exact⟨_,Vw.same rfl,hR _ ⟨_,_,_,rfl⟩⟩|exact⟨_,Vw.same rfl,hR _ ⟨_,_,_,_,rfl,by decide⟩⟩
def jM(at_:Int)(b:List Int):List Int:=b.set (at_%(b.length:Int)).toNat (AF .xor .u8 (b.getD (at_%(b.length:Int)).toNat 0) (AF .shl .u8 1 (at_/16%8)))
noncomputable def Vf(at_:Int)(l:List (List Int)):List (List Int):=by
 classical exact(l.filter λb=>decide (eF b)).map (jM at_)
theorem kM{at_:Int}{l:List (List Int)}{b:List Int}(h:eF b):Vf at_ (l++[b])=Vf at_ l++[jM at_ b]:=by
 classical
 unfold Vf;rw[List.filter_append,List.map_append,List.filter_cons_of_pos (by simpa using h)];rfl
theorem kN{at_:Int}{l:List (List Int)}{b:List Int}(h:¬eF b):Vf at_ (l++[b])=Vf at_ l:=by
 classical
 unfold Vf;rw[List.filter_append,List.map_append,List.filter_cons_of_neg (by simpa using h)];exact List.append_nil _
theorem jW(at_:Int)(l:List (List Int)):(Vf at_ l).length<=l.length:=by
 classical
 unfold Vf;rw[List.length_map];exact List.length_filter_le _ _
def MTu(L:List (List Int)):Option (List (List AV)×Nat)->Prop
 | none=>L=[]
 | some (u,m)=>u=L.map Em/\m=L.length
theorem jk(l:List (List Int))(at_:Int)(ow:0<=at_/\at_<=1073741824)(hl:∀b,b∈l->Ar b/\b.length<=300)(qi:l.length<=50)(rs:List (List AV))(yD:rs=l.map Em):A9 Tryz.prog 28 [.list 1 rs,at_] (· = .list 1 ((Vf at_ l).map Em)):=by
 have hu:Up0 rs:=by rw[yD];exact IL l
 (refine A9.ofY Tryz.func28 (by kernel_rfl) (by kernel_rfl) (Z.w λzB _ _ zD _ _ _ _ _ _ _ _ _ _ zM _ _ _ _ _ hw zC zA _ zG _ _ _ _ _ _ _ _ zH _ zV _ _ _ _ _ hz R hR=>?_));(conv=>arg 2;cbv);(generalize hP:Tryz.prog=P);cbv;have oL:rs.length=l.length:=by rw[yD];simp
 obtain⟨N,eN,N0,Nn⟩:=Z.l zH rs;simp only[eN]
 refine Ae.data hw (S:=Int×Option (List (List AV)×Nat)) (λs=>fr 47 [(1,at_),(4,.nils),(5,match s.2 with|none=>.nils|some (_,m)=>.sl 0 1 0 m),(11,.list 1 rs),(12,N),(13,s.1)]) (λs=>match s.2 with|none=>[]|some (u,_)=>[.live 1 u])
  (λs=>0<=s.1/\s.1<=N/\MTu (Vf at_ (l.take s.1.toNat)) s.2) (λs=>(N-s.1).toNat) (0,none) Z.i ⟨Int.le_refl _,N0,rfl⟩ ?_
 rintro⟨i,o⟩ zJ Q' hN hE hR'
 have zJ:0<=i/\i<=N/\MTu (Vf at_ (l.take i.toNat)) o:=zJ;obtain⟨zW,yZ,ho⟩:=zJ;have hLl:=jW at_ (l.take i.toNat);rw[List.length_take] at hLl;by_cases yC:i<N
 ·obtain⟨b,hb⟩:∃b,l[i.toNat]?=some b:=⟨_,List.getElem?_eq_getElem (show i.toNat<l.length by omega)⟩
  obtain⟨bs,ebs⟩:=Z.e (b.map AZ);have qd:Up0 bs:=(by rw[ebs];exact Ao _);have zL:rs[i.toNat]?=some [.list 1 bs]:=(by rw[yD,List.getElem?_map,hb,ebs];rfl);have qw:=hl b (List.mem_of_getElem? hb);obtain⟨i2,kW⟩:=Z.e (i+1);have a4:zB .add .i64 i 1=i2:=(by rw[zC,Ag Z.o Z.o,kW]);have ck:=W.lt zA yC;have hT:(N-i2).toNat<(N-i).toNat:=(by omega);have mU:=Eu zW hb;rw[<- kW] at mU;obtain⟨L,eL⟩:=Z.e (Vf at_ (l.take i.toNat));rw[<- eL] at ho hLl;by_cases hg:eF b
  ·have yK:Vf at_ (l.take i2.toNat)=L++[jM at_ b]:=by rw[mU,kM hg,eL]
   have q:A9 Tryz.prog 70 [.list 1 (b.map AZ)] (λr=>∃k s v:Int,r = .tuple [.agg [k,s,v],jz 0]):=hg.1;rw[<- ebs] at q;have h5:5<=b.length:=by have:=hg.2;unfold frV at this;split at this<;>first|omega|cases this
   have d2:=W.nne zA (a:=0) rfl;obtain⟨n,en⟩:=Z.e bs.length;have rU:bs.length=b.length:=(by rw[ebs];simp);have hbs0:bs≠[]:=λh=>(by rw[h] at rU;simp at rU;omega);obtain⟨LB,eLB,hLB,eLB2⟩:∃x:Int,zM n=x/\(x.toNat=n/\0<=x)/\x=(b.length:Int):=⟨(n:Int),by rw[zV],⟨Int.toNat_natCast _,Int.natCast_nonneg _⟩,by rw[en,rU]⟩;obtain⟨q1,oW⟩:=Z.e (at_%LB);have r1:zB .rem .i64 at_ LB=q1:=(by rw[zC,oW];exact D8 ow.1);have vI:0<=q1/\q1<LB:=(by rw[oW];exact⟨Int.emod_nonneg _ Z.o,Int.emod_lt_of_pos _ Z.o⟩);obtain⟨x,hx⟩:∃x,b[q1.toNat]?=some x:=⟨_,List.getElem?_eq_getElem (show q1.toNat<b.length by omega)⟩;have hbx:bs[q1.toNat]?=some [.int .u8 x]:=(by rw[ebs,List.getElem?_map,hx];rfl);have hxd:b.getD q1.toNat 0=x:=(by rw[List.getD_eq_getElem?_getD,hx];rfl);obtain⟨kq,ekq⟩:=Z.f q1.toNat;rw[ekq] at hbx hx hxd;obtain⟨w1,tO⟩:=Z.e (at_/16);obtain⟨w2,lN⟩:=Z.e (w1%8);have r2:zB .quo .i64 at_ 16=w1:=(by rw[zC,DX ow.1 Z.d Z.o,tO]);have r3:zB .rem .i64 w1 8=w2:=(by rw[zC,lN];exact D8 Z.o);have r4:zD .u64 w2=w2:=by rw[zG];show IntKind.u64.wrap w2=w2;rw[IntKind.wrap_u64];omega
   have hw20:0<=w2:=(by omega);obtain⟨w3,wE⟩:=Z.f (zB .shl .u8 1 w2);obtain⟨y,ey⟩:=Z.f (zB .xor .u8 x w3);have hfl:jM at_ b=b.set kq y:=(by unfold jM;rw[<- eLB2,<- oW,ekq,hxd,<- tO,<- lN,<- zC,wE,ey]);obtain⟨b2,qM⟩:=Z.e (b.set kq y);obtain⟨bs2,ebs2⟩:=Z.e (b2.map AZ);have wQ:bs2=bs.set kq [.int .u8 y]:=(by rw[ebs2,qM,ebs,List.map_set];rfl);have pF:Up0 bs2:=(by rw[ebs2];exact Ao _);have hn2:n=bs2.length:=(by rw[ebs2,qM,List.length_map,List.length_set];omega);have hkn:kq<bs.length:=(by omega);rw[hfl,<- qM] at yK;have hm:MTu L o:=ho
   obtain⟨rfl,hL0⟩|⟨u,m,rfl,kg,ko⟩:(o=none/\L=[])\/∃u m,o=some (u,m)/\u=L.map Em/\m=L.length:=by
    match o,hm with
    | none,h=>exact .inl ⟨rfl,h⟩
    | some (u,m),h=>exact .inr ⟨u,m,rfl,h⟩
   all_goals
    cbv;repeat' (first|(simp only[ck];cbv)|(refine Idx.mk _ zW zL ?_;cbv)|fail)
    refine Call.step (by rw[<- hP];exact q) (by simp only[Af,AV.upto,qd.get];rfl) ?_;rintro r ⟨k,s,v,rfl⟩;cbv;repeat' (first|(simp only[d2];cbv)|fail)
    refine Lx.mk n en hbs0 Z.o Z.o ?_;cbv;simp only[eLB];refine Nz.mk Z.o ?_;cbv;simp only[r1];refine At.mk kq vI.1 Z.o Z.o ?_;cbv;refine Ik.mk _ hbx ?_;cbv;refine Nz.mk Z.d ?_;refine Nz.mk Z.d ?_;simp only[r2,r3,r4];refine Go.Eng.Nn.mk hw20 ?_;refine At.mk kq vI.1 Z.o Z.o ?_;cbv;simp only[wE,ey];refine Ie.mk _ bs2 hbx wQ ?_;cbv
   ·have hMn:MTu (Vf at_ (l.take i2.toNat)) (some ([[.list 1 bs2]],1)):=by rw[yK,hL0,ebs2];exact⟨rfl,rfl⟩
    clear r1 r2 r3 r4 tO lN oW;refine Ob.mk Z.d ?_;simp only[a4];refine hN (i2,some ([[.list 1 bs2]],1)) _ _ ?_ ⟨Z.t,Z.t,hMn⟩ hT;(refine Z.k (λj=>[2].getD j 0) ?_;cbv<;>exact Z.q)
   ·obtain⟨m2,mJ⟩:=Z.e (m+1)
    obtain⟨u2,mW⟩:=Z.e (u++[[.sl 2 1 0 n]]);obtain⟨u3,eu3⟩:=Z.e (u++[[.list 1 bs2]]);have rQ:Up0 u:=(by rw[kg];exact IL _);have hu3:u3=(L++[b2]).map Em:=(by rw[eu3,kg,ebs2,List.map_append];rfl);have hm3:m2=(L++[b2]).length:=(by rw[mJ,ko,List.length_append];rfl);have hMn:MTu (Vf at_ (l.take i2.toNat)) (some (u3,m2)):=(by rw[yK];exact⟨hu3,hm3⟩);have hmu:m=u.length:=(by rw[kg,List.length_map];exact ko);clear r1 r2 r3 r4 tO lN oW;refine App.mk u2 m2 mW hmu mJ Z.o Z.o ?_;cbv;simp only[a4];refine hN (i2,some (u3,m2)) _ _ ?_ ⟨Z.t,Z.t,hMn⟩ hT;(refine Z.k (λj=>[3].getD j 0) ?_;cbv;(repeat' (first|exact trivial|rfl|assumption|(refine Bn.app rQ mW eu3 ?_;cbv)|apply And.intro|(simp only[hz,Z.a,AF,AC,AO,AP,AL,reduceCtorEq];first|done|assumption)|exact Bn.same Z.m (by first|assumption|rfl)|exact FzL.mk rfl rfl rfl Z.m (by first|assumption|rfl) Z.d|(refine Bn.one ?_;cbv))))
  ·have q:=(kL b qw.1 Z.o bs ebs).resolve_left hg
   have yK:Vf at_ (l.take i2.toNat)=L:=(by rw[mU,kN hg,eL]);have nJ:=IL L;have hm:MTu L o:=ho;rw[<- yK] at ho
   obtain⟨rfl,hL0⟩|⟨u,m,rfl,kg⟩:(o=none/\L=[])\/∃u m,o=some (u,m)/\Up0 u:=by
    match o,hm with
    | none,h=>exact .inl ⟨rfl,h⟩
    | some (u,m),h=>exact .inr ⟨u,m,rfl,by rw[h.1];exact nJ⟩
   all_goals
    cbv;repeat' (first|(simp only[ck];cbv)|(refine Idx.mk _ zW zL ?_;cbv)|fail)
    refine Call.step (by rw[<- hP];exact q) (by simp only[Af,AV.upto,qd.get];rfl) ?_;rintro r ⟨k,s,v,e,rfl,he⟩;have d2:=W.ne zA he;cbv;repeat' (first|(simp only[d2,a4];cbv)|fail)
   ·refine hN (i2,none) _ _ ?_ ⟨Z.t,Z.t,ho⟩ hT
    exact Z.i
   ·refine hN (i2,some _) _ _ ?_ ⟨Z.t,Z.t,ho⟩ hT
    exact Z.i
 ·have ck:=W.nlt zA (show N<=i by omega)
  have hLe:Vf at_ (l.take i.toNat)=Vf at_ l:=(by rw[List.take_of_length_le Z.o]);rw[hLe] at ho;have nJ:=IL (Vf at_ l)
  cases o with
  | none =>
    have ho:Vf at_ l=[]:=ho;cbv;repeat' (first|(simp only[ck];cbv)|fail)
    refine hE _ _ _ ?_;cbv;exact⟨_,Vw.nil 1,hR _ (by rw[ho];rfl)⟩
  | some p =>
    obtain⟨u,m⟩:=p;have ho:u=(Vf at_ l).map Em/\m=(Vf at_ l).length:=ho;rw[<- ho.1] at nJ;cbv;repeat' (first|(simp only[ck];cbv)|fail)
    refine hE _ _ _ ?_;cbv;exact⟨_,He rfl nJ.get (by rw[ho.2,ho.1];simp),hR _ (by rw[ho.1])⟩
end Go.Proofs.YtlchlddijclhjaaGreat
