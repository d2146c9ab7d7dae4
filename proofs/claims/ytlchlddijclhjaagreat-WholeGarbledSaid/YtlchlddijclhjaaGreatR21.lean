/- Parts of the proofs. -/
import Derived.Test.YtlchlddijclhjaaGreatR15
import Derived.Test.YtlchlddijclhjaaGreatR17
import Derived.Test.YtlchlddijclhjaaGreatR19
import Derived.Test.YtlchlddijclhjaaGreatR9
import Derived.Test.YtlchlddijclhjaaGreatR20
import Derived.Test.YtlchlddijclhjaaGreatR11
import Derived.Test.YtlchlddijclhjaaGreatR8
import Derived.Test.YtlchlddijclhjaaGreatRZ
set_option linter.unusedVariables false
set_option linter.unusedSimpArgs false
set_option maxHeartbeats 4000000
namespace Go.Proofs.YtlchlddijclhjaaGreat
open Go Go.RowKit Go.Eng
set_option maxRecDepth 100000
def CX(ss:List Sg)(m:List (List Int))(n:Nv):Int×Int:=
 if n.on=false then (n.g0,n.g1)
 else if m.any (λl=>BU ss n.p.fr l == n.p.hi)=true then (n.g0,n.g1)
 else
  let v:=m.foldl (λs l=>grw ss n.p.lo n.p.hi s (-n.p.fr) l) (0,0,false)
  if v.2.2 then (v.1,v.2.1) else (n.g0,n.g1)
structure JM(ss:List Sg)(m:List (List Int))(n:Nv):Prop where
 fr:0<=n.p.fr/\n.p.fr<=1099511627776
 way:∀l,l∈m->l.length<=12/\∀n,n∈l->0<=n/\n.toNat<ss.length
 few:m.length<=16
 rs:n.p.rs=m.map rtC
theorem QR(l:List Int):∃n x0 x1 x2 x3 x4 x5 x6 x7 x8 x9 x10 x11,rtC l=[jz n,jz x0,jz x1,jz x2,jz x3,jz x4,jz x5,jz x6,jz x7,jz x8,jz x9,jz x10,jz x11]:=⟨_,_,_,_,_,_,_,_,_,_,_,_,_,rfl⟩
theorem WT(ss:List Sg)(gs:List Gr)(m:List (List Int))(n:Nv)(hu:NvU n)(zQ:n.es=ss.map Ah)(zY:n.ds=gs.map Ak)(kr:CS ss)(rE:∀s,s∈ss->Ev s.ps)(lV:n.on=true->JM ss m n)(x y:Int)(e:(x,y)=CX ss m n) :
 AJ Tryz.prog 150 [.ref 0 55 0 0] [.live 55 [n.row]] (λr hp=>r = .agg [x,y]/\∃j,hp = .live 55 [n.row]::j):=by
 unfold CX at e;obtain⟨⟨c0,c1,c2,c3,c4,c5,c6,c7,c8,c9,c10,c11,c12,c13⟩,es,ds,cy,g0,g1,os,⟨mM,mK,lu⟩,⟨mG,mF,lm⟩,a0,b0,a1,b1,lo,hi,di,on,gr,⟨pl,ph,pe,fr,rs⟩,cl,o0,o1,s0,s1,sc,so,ra,ro,m0,m1,⟨wi,wt,wf⟩⟩:=n;simp only at e zQ zY lV;obtain⟨nY,lH,lY,lW⟩:=hu;simp only at nY lH lY lW
 cases on with
 | false =>
   rw[if_pos rfl] at e;simp only[Prod.mk.injEq] at e;obtain⟨rfl,rfl⟩:=e;refine Z.x Tryz.func150 λ_ _ _ _ zF _ _ _ _ _ _ zI _ hz P hP=>?_;cbv;have n1:zF false=true:=(by rw[zI];rfl);repeat' (first|(simp only[n1];cbv)|fail)
   exact⟨_,rfl⟩
 | true =>
   rw[if_neg Z.d] at e;obtain⟨hfr,o6,rG,yD⟩:=lV rfl;simp only at hfr yD;refine Z.x Tryz.func150 λzB _ _ _ zF _ hw zC zA _ _ zI zH hz P hP=>?_;cbv;have n1:zF true=false:=(by rw[zI];rfl);repeat' (first|(simp only[n1];cbv)|fail)
   have oL:rs.length=m.length:=(by rw[yD];simp);obtain⟨L,eL,L0,Ln⟩:=Z.l zH rs;simp only[eL];obtain⟨v,ev⟩:=Z.e (m.foldl (λs l=>grw ss pl ph s (-fr) l) (0,0,false));have qg:=WS ss gs es ds zQ zY kr rE fr hfr m o6 Z.o rs yD pl ph v ev;rw[<- ev] at e
   refine Ae.dataN hw (S:=Int) (λi=>Go.Eng.fr 75 [(0,.ref 0 55 0 0),(2,.ref 1 2 0 0),(22,.list 13 rs),(23,L),(24,i)]) (λ_=>[.live 55 [c0::c1::c2::c3::c4::c5::c6::c7::c8::c9::c10::c11::c12::c13 :: .list 3 es :: .list 5 ds :: .bool false::cy::g0::g1 :: .list 1 os::mM :: .int .u16 mK::lu::[mG,.int .u16 mF,lm,a0,b0,a1,b1,lo,hi,di,.bool true,gr,pl,ph,pe,fr,.list 13 rs,cl,o0,o1,s0,s1,sc,so,ra,ro,m0,m1,wi,wt,wf]],.live 2 [[jz 0,jz 0]]])
    (λi=>0<=i/\i<=L/\(m.take i.toNat).any (λl=>BU ss fr l == ph)=false) (λi=>(L-i).toNat) 0 (by(refine Z.n (id) ?_;cbv<;>exact Z.q)) ⟨Int.le_refl _,L0,rfl⟩ ?_
   rintro i zJ Q' hN hE hR';have zJ:0<=i/\i<=L/\(m.take i.toNat).any (λl=>BU ss fr l == ph)=false:=zJ;obtain⟨zW,yZ,vo⟩:=zJ;by_cases yC:i<L
   ·obtain⟨l,hl⟩:∃l,m[i.toNat]?=some l:=⟨_,List.getElem?_eq_getElem (show i.toNat<m.length by omega)⟩
    obtain⟨i2,kW⟩:=Z.e (i+1);have mU:m.take i2.toNat=m.take i.toNat++[l]:=(by rw[kW];exact LK zW hl);have hlw:=o6 l (List.mem_of_getElem? hl);obtain⟨y1,nK⟩:=Z.e (BU ss fr l);have qe:=NJ ss gs es ds zQ zY kr fr hfr rs lW l hlw.1 hlw.2;rw[<- nK] at qe;have zL:rs[i.toNat]?=some (rtC l):=(by rw[yD,List.getElem?_map,hl];rfl);obtain⟨z,x0,x1,x2,x3,x4,x5,x6,x7,x8,x9,x10,x11,erow⟩:=QR l;rw[erow] at zL qe;have hT:(L-i2).toNat<(L-i).toNat:=by omega
    have yK:y1≠ph->(m.take i2.toNat).any (λl=>BU ss fr l == ph)=false:=λh=>by
     rw[mU,List.any_append,vo,Bool.false_or];simp[<- nK,h]
    have yn:y1=ph->m.any (λl=>BU ss fr l == ph)=true:=λh=>by
     rw[List.any_eq_true];exact⟨l,List.mem_of_getElem? hl,by rw[<- nK,h];simp⟩
    have a4:zB .add .i64 i 1=i2:=(by rw[zC,Ag Z.o Z.o,kW]);have ck:=W.lt zA yC;clear nK mU hl vo erow qg ev yD;cbv;repeat' (first|(simp only[ck];cbv)|(refine AB.s hP qe ?_;cbv)|(refine Idx.mk _ zW zL ?_;cbv)|fail)
    by_cases hph:y1=ph
    ·have d1:=W.eq zA hph
     simp only[d1];cbv;rw[if_pos (yn hph)] at e;simp only[Prod.mk.injEq] at e;obtain⟨rfl,rfl⟩:=e;refine hR' _ _ ?_;cbv;exact⟨_,rfl⟩
    ·have d1:=W.neq zA hph
     simp only[d1];cbv;simp only[a4];refine hN i2 _ _ ?hx ?hi hT
     case hx=>(refine Z.n (id) ?_;cbv<;>exact Z.q)
     case hi=>exact⟨by omega,by omega,yK hph⟩
   ·have ck:=W.nlt zA (show L<=i by omega)
    rw[List.take_of_length_le Z.o] at vo;rw[if_neg (by rw[vo];decide)] at e;clear ev vo yD;obtain⟨v1,v2,v3⟩:=v;cbv;simp only[ck];refine hE _ _ _ ?_;cbv;repeat' (first|(refine AB.s hP qg ?_;cbv)|fail)
    cases v3 with
    | true =>
      simp only[if_true,Prod.mk.injEq] at e;obtain⟨rfl,rfl⟩:=e;cbv;exact⟨_,rfl⟩
    | false =>
      simp only[Bool.false_eq_true,if_false,Prod.mk.injEq] at e;obtain⟨rfl,rfl⟩:=e;cbv;exact⟨_,rfl⟩
def LM(ss:List Sg)(mm:List (List Int))(n:Nv)(m:Ml):Bool×Int×Int:=if m.has 4 then (true,n.lo+(m.val 4-(CX ss mm n).2-n.c.c5),n.hi+(m.val 4-(CX ss mm n).1+n.c.c5)) else (false,0,0)
theorem WU(ss:List Sg)(gs:List Gr)(mm:List (List Int))(n:Nv)(hu:NvU n)(zQ:n.es=ss.map Ah)(zY:n.ds=gs.map Ak)(kr:CS ss)(rE:∀s,s∈ss->Ev s.ps)(lV:n.on=true->JM ss mm n)
 (m:Ml) (h5:0<=n.c.c5/\n.c.c5<=1048576) (hv:m.has 4=true -> -2147483648<=m.val 4/\m.val 4<=2147483648) (tH:(CX ss mm n).1<=(CX ss mm n).2 /\ -1048576<=(CX ss mm n).1/\(CX ss mm n).2<=1048576)
 (hsp:n.lo<=n.hi/\I62 n.lo/\I62 n.hi) (f:Bool) (l h:Int) (e:(f,l,h)=LM ss mm n m) :
 AJ Tryz.prog 94 [.ref 0 55 0 0,.agg m.row] [.live 55 [n.row]] (λr hp=>r = .agg [f,l,h]/\∃j,hp = .live 55 [n.row]::j):=by
 obtain⟨x,ex⟩:=Z.e (m.val 4);obtain⟨has,eh⟩:=Z.e (m.has 4);have q1:=G_ m 4 (.inr (.inr (.inr (.inl rfl)))) x has ex eh;obtain⟨y1,nK⟩:∃x,x=(CX ss mm n).1:=⟨_,rfl⟩;obtain⟨y2,mV⟩:∃x,x=(CX ss mm n).2:=⟨_,rfl⟩;have q2:=WT ss gs mm n hu zQ zY kr rE lV y1 y2 (by rw[nK,mV]);unfold LM at e;rw[<- ex,<- eh,<- nK,<- mV] at e;rw[<- ex,<- eh] at hv;rw[<- nK,<- mV] at tH;have lW:=hu.row;obtain⟨⟨c0,c1,c2,c3,c4,c5,c6,c7,c8,c9,c10,c11,c12,c13⟩,es,ds,cy,g0,g1,os,⟨mM,mK,lu⟩,⟨mG,mF,lm⟩,a0,b0,a1,b1,lo,hi,di,on,gr,⟨pl,ph,pe,fr,rs⟩,cl,o0,o1,s0,s1,sc,so,ra,ro,m0,m1,⟨wi,wt,wf⟩⟩:=n;simp only at h5 e hsp;clear ex eh nK mV rE kr zQ zY lV hu;obtain⟨p1,p2,p3,p4,p5,x1,x2,x3,x4,x5,bad,stale,twice,beyond⟩:=m
 cases has with
 | false =>
   simp only[Bool.false_eq_true,if_false,Prod.mk.injEq] at e;obtain⟨rfl,rfl,rfl⟩:=e;clear hv q2 lW;refine Z.x Tryz.func94 λ_ _ _ _ zF _ _ _ _ _ _ zI _ hz P hP=>?_;cbv;have n1:zF false=true:=(by rw[zI];rfl);repeat' (first|(simp only[n1];cbv)|(refine Call.s hP q1 ?_;cbv)|fail)
   exact⟨_,rfl⟩
 | true =>
   simp only[if_true,Prod.mk.injEq] at e;obtain⟨rfl,e1,e2⟩:=e;have hv:=hv rfl;obtain⟨y,ey⟩:=Z.f (x-y2-c5);obtain⟨z,ez⟩:=Z.f (x-y1+c5);have q3:=WV c0 c1 c2 c3 c4 c5 c6 c7 c8 c9 c10 c11 c12 c13 x y1 y2 y z h5 hv tH.1 tH.2.1 tH.2.2 ey ez;have q4:=WW (a:=lo) (b:=hi) (c:=y) (d:=z) (l:=l) (h:=h) hsp.1 Z.o (by rw[e1,ey]) (by rw[e2,ez]) hsp.2.1 hsp.2.2 ⟨by omega,by omega⟩ ⟨by omega,by omega⟩;clear e1 e2 hv ey ez h5 hsp tH;refine Z.x Tryz.func94 λ_ _ _ _ zF _ _ _ _ _ _ zI _ _ P hP=>?_;cbv;have n1:zF true=false:=(by rw[zI];rfl);repeat' (first|(simp only[n1];cbv)|(refine Call.s hP q1 ?_;cbv)|fail)
   refine AB.o hP q2 lW rfl rfl rfl rfl ?_;repeat' (first|(refine AB.s hP q3 ?_;cbv)|(refine AB.s hP q4 ?_;cbv)|fail)
   all_goals exact⟨_,rfl⟩
def ER(c:Cf):Prop:=ES c.c0 c.c1 c.c2 c.c3 c.c4 c.c5 c.c6 c.c7 c.c8 c.c9 c.c10 c.c11 c.c12 c.c13
structure F7(m:Ml):Prop where
 v1:m.has 1=true->0<=m.val 1/\m.val 1<=65535
 v2:m.has 2=true->0<=m.val 2/\m.val 2<=65535
 v3:m.has 3=true -> -2147483648<=m.val 3/\m.val 3<=2147483648
 v4:m.has 4=true -> -2147483648<=m.val 4/\m.val 4<=2147483648
structure Ou(n:Nv):Prop where
 cf:ER n.c
 k0: -1099511627776<=n.k0.su/\n.k0.su<=1099511627776
 k1: -1099511627776<=n.k1.su/\n.k1.su<=1099511627776
 c0:0<n.a0/\n.a0<=n.b0/\n.b0<=8388608
 c1:0<n.a1/\n.a1<=n.b1/\n.b1<=8388608
 sp: -n.c.c6<=n.lo/\n.lo<=n.hi/\n.hi<=n.c.c6
def Ce(ss:List Sg)(mm:List (List Int))(n:Nv)(m:Ml):Nv×Fu:=
 let a:=Gl n m
 let b:=Gm a.1 m
 let r:=I6 b.1 m
 let c:=LM ss mm b.1 m
 (b.1,Ff (max (n.lo-n.c.c7) (-n.c.c6)) (min (n.hi+n.c.c7) n.c.c6) a.2.1 b.2.1 r.1 c.1 a.2.2.1 a.2.2.2 b.2.2.1 b.2.2.2 r.2.1 r.2.2 c.2.1 c.2.2)
theorem UF{d lo hi p:Int}(d0: -32768<=d)(d1:d<=32767)(h0:0<lo)(h1:lo<=hi)(h2:hi<=8388608)(hp:1<=p):I62 (I7 d lo hi p)/\I62 (I8 d lo hi p):=by
 have key:∀k z:Int,-40000<=k->k<=40000->0<z->z<=8388608 -> -335544320000<=k*z/\k*z<=335544320000:=λk z k0 k1 z0 z1=>by
  have a1:=Int.mul_le_mul_of_nonneg_right k1 (show 0<=z by omega);have a2:=Int.mul_le_mul_of_nonneg_right k0 (show 0<=z by omega);omega
 have kd:∀v:Int,-335544320000<=v->v<=335544320000 -> -335544320000<=v/p/\v/p<=335544320000:=λv v0 v1=>by
  constructor
  ·exact Int.le_ediv_of_mul_le Z.o (by have:=Int.mul_le_mul_of_nonpos_left (show (-335544320000:Int)<=0 by decide) hp;omega)
  ·refine Int.ediv_le_of_le_mul Z.o ?_
   have:=Int.mul_le_mul_of_nonneg_left hp (show (0:Int)<=335544320000 by decide);omega
 unfold I7 I8 flD clD I62;refine⟨?_,?_⟩
 ·have h:=key (d-1) (if d<1 then hi else lo) Z.o Z.o (by split<;>omega) (by split<;>omega)
  have:=kd _ h.1 h.2;omega
 ·have h:=key (d+1) (if d < -1 then lo else hi) Z.o Z.o (by split<;>omega) (by split<;>omega)
  have:=kd (-((d+1)*(if d < -1 then lo else hi))) Z.o Z.o;omega
theorem UG{k:Ct}{v:Int}{has:Bool}(h:(pnV k v has).2.2=true): -32768<=(pnV k v has).2.1/\(pnV k v has).2.1<=32767:=by
 unfold pnV at h ⊢;split
 ·rename_i h1;rw[if_pos h1] at h;cases h
 ·rename_i h1
  rw[if_neg h1] at h;split
  ·rename_i h2;rw[if_pos h2] at h;cases h
  ·unfold Gd;simp only;omega
theorem fP{n:Nv}{m:Ml}(hn:Ou n)(h:(Gl n m).2.1=true):I62 (Gl n m).2.2.1/\I62 (Gl n m).2.2.2:=by
 have hc:=hn.cf;unfold ER ES at hc;unfold Gl at h ⊢;simp only at h ⊢;have hd:=UG h;rw[h,if_pos rfl,if_pos rfl];exact UF hd.1 hd.2 hn.c0.1 hn.c0.2.1 hn.c0.2.2 Z.o
theorem fQ{n:Nv}{m:Ml}(xX:ER n.c)(h1:0<n.a1/\n.a1<=n.b1/\n.b1<=8388608)(h:(Gm n m).2.1=true):I62 (Gm n m).2.2.1/\I62 (Gm n m).2.2.2:=by
 have hc:=xX;unfold ER ES at hc;unfold Gm at h ⊢;simp only at h ⊢;have hd:=UG h;rw[h,if_pos rfl,if_pos rfl];exact UF hd.1 hd.2 h1.1 h1.2.1 h1.2.2 Z.o
theorem F6{a:Int}(h:I62 a):I64 a:=by unfold I62 at h;unfold I64;omega
theorem fT{n:Nv}{m:Ml}(hc:ER n.c)(hm:F7 m)(h:(I6 n m).1=true):I62 (I6 n m).2.1/\I62 (I6 n m).2.2:=by
 unfold I6 at h ⊢;split at h
 ·rename_i hh
  rw[if_pos hh];have hv:=hm.v3 hh;unfold ER ES at hc;have:=PP (c3:=n.c.c3) (c4:=n.c.c4) (r:=m.val 3) Z.o Z.o hv;unfold I62;simp only;omega
 ·cases h
def snD1:List (List Nat):=[[],[6],[6,0,1],[0],[6],[6,3,4,2],[3],[6],[6,6,7,5],[6,2,5,8],[6],[6,10,9,8,0,1,2,3,4,5,6,7,8,9,10]]
theorem Vl(ss:List Sg)(gs:List Gr)(mm:List (List Int))(n:Nv)(hu:NvU n)(zQ:n.es=ss.map Ah)(zY:n.ds=gs.map Ak)(kr:CS ss)(rE:∀s,s∈ss->Ev s.ps)(lV:n.on=true->JM ss mm n)
 (hn:Ou n) (m:Ml) (hm:F7 m) (tH:(CX ss mm n).1<=(CX ss mm n).2 /\ -1048576<=(CX ss mm n).1/\(CX ss mm n).2<=1048576) (v:Nv) (f:Fu) (e:(v,f)=Ce ss mm n m) :
 AJ Tryz.prog 46 [.ref 0 55 0 0,.agg m.row] [.live 55 [n.row]] (λr hp=>r = .agg [f.lo,f.hi,f.n,f.cl,f.cf,f.s0,f.s1]/\∃j,hp = .live 55 [v.row]::j):=by
 have hc:=hn.cf;unfold ER ES at hc;obtain⟨⟨n1,f0,l0,h0⟩,e0⟩:=Z.e (Gl n m);obtain⟨⟨n2,f1,l1,h1⟩,e1⟩:=Z.e (Gm n1 m);obtain⟨⟨f2,l2,h2⟩,e2⟩:=Z.e (I6 n2 m);obtain⟨⟨f3,l3,h3⟩,e3⟩:=Z.e (LM ss mm n2 m);have q0:=fU n hu m ⟨by omega,by omega⟩ hn.c0 hn.k0 hm.v1 n1 f0 l0 h0 e0;have lK:n1={ n with k0:=n1.k0 }:=by rw[show n1=(Gl n m).1 from congrArg Prod.fst e0];rfl
 have kg:NvU n1:=by rw[lK];exact⟨hu.es,hu.ds,hu.os,hu.rs⟩
 have hs1:n1.c=n.c/\n1.a1=n.a1/\n1.b1=n.b1/\n1.k1=n.k1:=by rw[lK];exact⟨rfl,rfl,rfl,rfl⟩
 have q1:=fV n1 kg m (by rw[hs1.1];exact⟨by omega,by omega⟩) (by rw[hs1.2.1,hs1.2.2.1];exact hn.c1) (by rw[hs1.2.2.2];exact hn.k1) hm.v2 n2 f1 l1 h1 e1;have pg:n2={ n with k0:=n1.k0,k1:=n2.k1 }:=by rw[show n2=(Gm n1 m).1 from congrArg Prod.fst e1,lK];rfl
 have pF:NvU n2:=by rw[pg];exact⟨hu.es,hu.ds,hu.os,hu.rs⟩
 have lT:n2.c=n.c:=by rw[pg]
 have q2:=fZ n2 m (by rw[lT];exact⟨by omega,by omega⟩) (by rw[lT];exact⟨by omega,by omega⟩) hm.v3 f2 l2 h2 e2;have vg:CX ss mm n2=CX ss mm n:=by rw[pg];rfl
 have tq:n2.lo=n.lo/\n2.hi=n.hi/\n2.es=n.es/\n2.ds=n.ds/\n2.on=n.on:=by rw[pg];exact⟨rfl,rfl,rfl,rfl,rfl⟩
 have hsp:=hn.sp
 have q3:=WU ss gs mm n2 pF (by rw[tq.2.2.1];exact zQ) (by rw[tq.2.2.2.1];exact zY) kr rE (λho=>by rw[tq.2.2.2.2] at ho;have:=lV ho;rw[pg];exact⟨this.fr,this.way,this.few,this.rs⟩) m (by rw[lT];exact⟨by omega,by omega⟩) hm.v4 (by rw[vg];exact tH)
  (by rw[tq.1,tq.2.1];exact⟨hsp.2.1,⟨by omega,by omega⟩,⟨by omega,by omega⟩⟩) f3 l3 h3 e3
 obtain⟨pb,epl⟩:=Z.e (max (n.lo-n.c.c7) (-n.c.c6));obtain⟨pt,epr⟩:=Z.e (min (n.hi+n.c.c7) n.c.c6);have q4:=fu n.c.c0 n.c.c1 n.c.c2 n.c.c3 n.c.c4 n.c.c5 n.c.c6 n.c.c7 n.c.c8 n.c.c9 n.c.c10 n.c.c11 n.c.c12 n.c.c13 n.lo n.hi pb pt ⟨by omega,by omega⟩ ⟨by omega,by omega⟩ hsp.2.1 hsp.1 hsp.2.2 epl epr
 have i0:f0=true->I64 l0/\I64 h0:=λhf=>by
  have:=fP (m:=m) hn;rw[<- e0] at this;exact⟨F6 (this hf).1,F6 (this hf).2⟩
 have i1:f1=true->I64 l1/\I64 h1:=λhf=>by
  have:=fQ (n:=n1) (m:=m) (by rw[hs1.1];exact hn.cf) (by rw[hs1.2.1,hs1.2.2.1];exact hn.c1);rw[<- e1] at this;exact⟨F6 (this hf).1,F6 (this hf).2⟩
 have i2:f2=true->I64 l2/\I64 h2:=λhf=>by
  have:=fT (n:=n2) (by rw[lT];exact hn.cf) hm;rw[<- e2] at this;exact⟨F6 (this hf).1,F6 (this hf).2⟩
 unfold Ce at e;simp only at e;rw[<- e0] at e;simp only at e;rw[<- e1] at e;simp only at e;rw[<- e2,<- e3,<- epl,<- epr] at e;simp only[Prod.mk.injEq] at e;obtain⟨ev,ef⟩:=e;have q5:=Wn pb pt f0 f1 f2 f3 l0 h0 l1 h1 l2 h2 l3 h3 (Wq i0 i1 i2) f ef;have u0:=hu.row;have u1:=kg.row;have u2:=pF.row;have ek1:n1.k0=n1.k0:=rfl;obtain⟨k0',ek0⟩:=Z.e n1.k0;obtain⟨k1',ek1⟩:=Z.e n2.k1;rw[<- ek0,<- ek1] at pg;rw[<- ek0] at lK;subst ev;clear e0 e1 e2 e3 ef i0 i1 i2 vg tq hsp epl epr lT hs1 ek0 ek1 lV hm tH hc hn rE kr zQ zY;subst lK;subst pg;obtain⟨⟨c0,c1,c2,c3,c4,c5,c6,c7,c8,c9,c10,c11,c12,c13⟩,es,ds,cy,g0,g1,os,⟨mM,mK,lu⟩,⟨mG,mF,lm⟩,a0,b0,a1,b1,lo,hi,di,on,gr,⟨pl,ph,pe,fr,rs⟩,cl,o0,o1,s0,s1,sc,so,ra,ro,m0,m1,⟨wi,wt,wf⟩⟩:=n;obtain⟨kn0',la0',su0'⟩:=k0';obtain⟨kn1',la1',su1'⟩:=k1';obtain⟨flo,fhi,fn,fcl,fcf,nI,nH⟩:=f;obtain⟨p1,p2,p3,p4,p5,x1,x2,x3,x4,x5,bad,stale,twice,beyond⟩:=m;(refine AJ.ofP (F:=[1]) (sc:=?scc) (r:=?rr) Tryz.func46 (by kernel_rfl) rfl ?hr ?hc (by kernel_rfl) λw hw=>?H);(case hr=>((conv=>lhs;cbv);(try exact rfl)));(case hc=>((repeat' (first|refine' IQ ?_ ?_|refine' IR ?_|refine' IU ?_|refine' Cg (id:=1) snD1 rfl (by kernel_rfl) ?_|fail));(try any_goals (conv=>lhs;cbv));(try any_goals exact rfl)));(obtain⟨zB,zE,yN,zD,zF,zX,yO,zP,zS,zR,yA,yB,zK,zU,zM,zN,zO,yG,zT,yH⟩:=w);(have zC:=Z.w1 hw);(have zA:=Z.w2 hw);(have yJ:=Z.w3 hw);(have zG:=Z.w4 hw);(have zI:=Z.w5 hw);(have yM:=Z.w6 hw);(have yS:=Z.w7 hw);(have zZ:=Z.w8 hw);(have yF:=Z.w9 hw);(have yE:=Z.w10 hw);(have yT:=Z.w11 hw);(have yU:=Z.w12 hw);(have zH:=Z.w13 hw);(have yR:=Z.w14 hw);(have zV:=Z.w15 hw);(have yI:=Z.w16 hw);(have yL:=Z.w17 hw);(have yX:=Z.w18 hw);(have yQ:=Z.w19 hw);(have yY:=Z.w20 hw);(have hz:=Z.z hw);(conv=>arg 4;cbv);(generalize hP:Tryz.prog=P);cbv
 refine AnyQ.sets [.ref 0 55 0 0,.agg [.bool false,p1,p2,p3,p4,p5,jz 0,x1,x2,x3,x4,x5,bad,stale,twice,beyond],.agg [f0,l0,h0],.ref 0 55 0 0,.agg [.bool false,p1,p2,p3,p4,p5,jz 0,x1,x2,x3,x4,x5,bad,stale,twice,beyond],.agg [f1,l1,h1],.ref 0 55 0 0,.agg [.bool false,p1,p2,p3,p4,p5,jz 0,x1,x2,x3,x4,x5,bad,stale,twice,beyond],.agg [f2,l2,h2],.agg [f0,l0,h0,f1,l1,h1,f2,l2,h2],.ref 3 9 0 0,.any]
  (λm=>[.live 55 [match m 5 with|true=>[jz c0,jz c1,jz c2,jz c3,jz c4,jz c5,jz c6,jz c7,jz c8,jz c9,jz c10,jz c11,jz c12,jz c13,.list 3 es,.list 5 ds,.bool false,jz cy,jz g0,jz g1,.list 1 os,.bool kn0',.int .u16 la0',jz su0',.bool kn1',.int .u16 la1',jz su1',jz a0,jz b0,jz a1,jz b1,jz lo,jz hi,jz di,.bool on,jz gr,jz pl,jz ph,jz pe,jz fr,.list 13 rs,.bool cl,jz o0,jz o1,jz s0,jz s1,jz sc,.bool so,.bool ra,.bool ro,jz m0,jz m1,jz wi,jz wt,.bool wf]|false=>(match m 2 with|true=>[jz c0,jz c1,jz c2,jz c3,jz c4,jz c5,jz c6,jz c7,jz c8,jz c9,jz c10,jz c11,jz c12,jz c13,.list 3 es,.list 5 ds,.bool false,jz cy,jz g0,jz g1,.list 1 os,.bool kn0',.int .u16 la0',jz su0',.bool mG,.int .u16 mF,jz lm,jz a0,jz b0,jz a1,jz b1,jz lo,jz hi,jz di,.bool on,jz gr,jz pl,jz ph,jz pe,jz fr,.list 13 rs,.bool cl,jz o0,jz o1,jz s0,jz s1,jz sc,.bool so,.bool ra,.bool ro,jz m0,jz m1,jz wi,jz wt,.bool wf]|false=>[jz c0,jz c1,jz c2,jz c3,jz c4,jz c5,jz c6,jz c7,jz c8,jz c9,jz c10,jz c11,jz c12,jz c13,.list 3 es,.list 5 ds,.bool false,jz cy,jz g0,jz g1,.list 1 os,.bool mM,.int .u16 mK,jz lu,.bool mG,.int .u16 mF,jz lm,jz a0,jz b0,jz a1,jz b1,jz lo,jz hi,jz di,.bool on,jz gr,jz pl,jz ph,jz pe,jz fr,.list 13 rs,.bool cl,jz o0,jz o1,jz s0,jz s1,jz sc,.bool so,.bool ra,.bool ro,jz m0,jz m1,jz wi,jz wt,.bool wf])],.live 16 [[.bool false,p1,p2,p3,p4,p5,jz 0,x1,x2,x3,x4,x5,bad,stale,twice,beyond]],.live 7 [[jz 0,jz 0,jz 0,.bool false,.bool false,jz 0,jz 0]]]++(match m 10 with|true=>[.live 9 [match m 11 with|true=>[f0,l0,h0,f1,l1,h1,f2,l2,h2]|false=>[.bool false,jz 0,jz 0,.bool false,jz 0,jz 0,.bool false,jz 0,jz 0]]]|false=>[]))
  rfl (by cbv) ?h1 ?h2
 case h1 =>
  cbv
  repeat' first
   | exact⟨rfl,rfl⟩
   | exact rfl
   | exact trivial
   | (refine And.intro ?_ ?_)
   | (refine Call.o hP q0 u0 u1 rfl rfl rfl rfl ?_;cbv)
   | (refine Call.o hP q1 u1 u2 rfl rfl rfl rfl ?_;cbv)
   | (refine Call.o hP q2 u2 u2 rfl rfl rfl rfl ?_;cbv)
   | fail
 cbv;simp only at q4 q5;repeat' (first|(refine AB.s hP q4 ?_;cbv)|(refine AB.s hP q5 ?_;cbv)|(refine AB.o hP q3 u2 rfl rfl rfl rfl ?_;cbv)|exact trivial|(refine And.intro ?_ ?_)|fail)
 all_goals exact⟨_,rfl⟩
theorem Vo(n:Nv)(hu:NvU n)(lV:n.on=false)(a b:Int)(ha:I62 a)(hb:I62 b)(hd:0<=n.di/\n.di<=2305843009213693952)(kY: -2305843009213693952<=(a+b)/2/\(a+b)/2<=2305843009213693952)(v:Nv)(hv:v={ n with lo:=a,hi:=b,di:=n.di+CF ((a+b)/2) }) :
 AJ Tryz.prog 47 [.ref 0 55 0 0,.agg [a,b]] [.live 55 [n.row]] (λr hp=>r = .bool false/\∃j,hp = .live 55 [v.row]::j):=by
 obtain⟨md,emd⟩:∃x,(a+b)/2=x:=⟨_,rfl⟩;obtain⟨sz,esz⟩:=Z.e (CF md);obtain⟨di',edi⟩:=Z.f (n.di+sz);rw[emd,<- esz,edi] at hv;rw[emd] at kY;have hsz:0<=sz/\sz<=2305843009213693952:=by rw[esz];unfold CF;split<;>omega
 have q1:=Jd emd (F6 ha) (F6 hb);have q2:=UH esz ⟨by omega,by omega⟩;have q3:=Iy edi ⟨by omega,by omega⟩ ⟨by omega,by omega⟩;subst hv;have h1:=hu;clear esz edi hsz emd hd;obtain⟨⟨c0,c1,c2,c3,c4,c5,c6,c7,c8,c9,c10,c11,c12,c13⟩,es,ds,cy,g0,g1,os,⟨mM,mK,lu⟩,⟨mG,mF,lm⟩,a0,b0,a1,b1,lo,hi,di,on,gr,⟨pl,ph,pe,fr,rs⟩,cl,o0,o1,s0,s1,sc,so,ra,ro,m0,m1,⟨wi,wt,wf⟩⟩:=n;simp only at lV q3;subst lV;obtain⟨nY,lH,lY,lW⟩:=h1;simp only at nY lH lY lW;refine Z.x Tryz.func47 λ_ _ _ _ zF _ _ _ _ _ _ zI _ _ P hP=>?_;cbv;have n1:zF false=true:=by rw[zI];rfl
 have n2:zF true=false:=by rw[zI];rfl
 repeat' (first|(simp only[n1,n2];cbv)|(refine Call.s hP q1 ?_;cbv)|(refine Call.s hP q2 ?_;cbv)|(refine Call.s hP q3 ?_;cbv)|fail)
 all_goals first|exact⟨_,rfl⟩
theorem VW(n:Nv)(hu:NvU n)(m:Ml)(hm:m.has 5=false)(won:Bool)(wgr wl wh we wfr:Int)(ws:List (List AV))(oD:Up0 ws)(a b:Int) :
 AJ Tryz.prog 48 [.ref 0 55 0 0,.agg m.row,.agg [won,wgr,wl,wh,we,wfr,.list 13 ws],.agg [a,b]] [.live 55 [n.row]] (λr hp=>r = .agg [jz 0,.list 1 [],.bool true,.bool false]/\∃j,hp = .live 55 [n.row]::j):=by
 refine AJ.mono (AJ.give (h':=[.live 55 [n.row]]) (r':=.agg [jz 0,.list 1 [],.bool true,.bool false]) ?_) (λr h hh=>⟨hh.1,[],hh.2⟩);obtain⟨x,ex⟩:=Z.e (m.val 5);have q1:=G_ m 5 (.inr (.inr (.inr (.inr rfl)))) x false ex hm.symm;clear ex hm;have u0:=hu.row;obtain⟨⟨c0,c1,c2,c3,c4,c5,c6,c7,c8,c9,c10,c11,c12,c13⟩,es,ds,cy,g0,g1,os,⟨mM,mK,lu⟩,⟨mG,mF,lm⟩,a0,b0,a1,b1,lo,hi,di,on,gr,⟨pl,ph,pe,fr,rs⟩,cl,o0,o1,s0,s1,sc,so,ra,ro,m0,m1,⟨wi,wt,wf⟩⟩:=n;obtain⟨nY,lH,lY,lW⟩:=hu;simp only at nY lH lY lW;obtain⟨p1,p2,p3,p4,p5,x1,x2,x3,x4,x5,bad,stale,twice,beyond⟩:=m;refine Z.x Tryz.func48 λ_ _ _ _ zF _ _ _ _ _ _ zI _ hz P hP=>?_;cbv;have n1:zF false=true:=by rw[zI];rfl
 repeat' (first|(simp only[n1];cbv)|(refine Call.s hP q1 ?_;cbv)|fail)
 all_goals first|(refine WkB.mk ?_;(refine Z.n (id) ?_;cbv<;>exact Z.q))|fail
def Jt(n:Nv)(x:Int):Nv:=
 { n with a0:=(Ef n.a0 n.b0 (n.p.lo+x-n.o1) (n.p.hi+x-n.o0) n.c.c0 (n.k0.su-n.s0)).1,b0:=(Ef n.a0 n.b0 (n.p.lo+x-n.o1) (n.p.hi+x-n.o0) n.c.c0 (n.k0.su-n.s0)).2,
          a1:=(Ef n.a1 n.b1 (n.p.lo+x-n.o1) (n.p.hi+x-n.o0) n.c.c0 (n.k1.su-n.s1)).1,b1:=(Ef n.a1 n.b1 (n.p.lo+x-n.o1) (n.p.hi+x-n.o0) n.c.c0 (n.k1.su-n.s1)).2 }
theorem iR(n:Nv)(hu:NvU n)(x:Int)(hx: -35184372088832<=x/\x<=35184372088832)(hp: -17592186044416<=n.p.lo/\n.p.lo<=n.p.hi/\n.p.hi<=17592186044416)(ho: -17592186044416<=n.o0/\n.o0<=n.o1/\n.o1<=17592186044416)(hc:1<=n.c.c0/\n.c.c0<=1024)
 (oH: -1099511627776<=n.k0.su-n.s0/\n.k0.su-n.s0<=1099511627776) (oU: -1099511627776<=n.k1.su-n.s1/\n.k1.su-n.s1<=1099511627776) (v:Nv) (hv:v=Jt n x) :
 AJ Tryz.prog 102 [.ref 0 55 0 0,x] [.live 55 [n.row]] (λr hp=>r = .tuple []/\∃j,hp = .live 55 [v.row]::j):=by
 obtain⟨u1,eu1⟩:=Z.f (n.p.lo+x);obtain⟨u2,mW⟩:=Z.f (n.p.hi+x);obtain⟨w1,tO⟩:=Z.f (u1-n.o1);obtain⟨w2,lN⟩:=Z.f (u2-n.o0);obtain⟨d0,ed0⟩:=Z.f (n.k0.su-n.s0);obtain⟨d1,rW⟩:=Z.f (n.k1.su-n.s1);unfold Jt at hv;rw[eu1,mW,tO,lN,ed0,rW] at hv;rw[ed0] at oH;rw[rW] at oU;obtain⟨⟨y0,z0⟩,mZ⟩:=Z.e (Ef n.a0 n.b0 w1 w2 n.c.c0 d0);obtain⟨⟨y1,z1⟩,oP⟩:=Z.e (Ef n.a1 n.b1 w1 w2 n.c.c0 d1);rw[<- mZ,<- oP] at hv;simp only at hv;have q0:=PV x;have q1:=MQ (a:=n.p.lo) (b:=n.p.hi) (c:=x) (d:=x) (l:=u1) (h:=u2) hp.2.1 (Int.le_refl _) eu1 mW (by unfold I62;omega) (by unfold I62;omega) (by unfold I62;omega) (by unfold I62;omega);have q2:=PW (a:=u1) (b:=u2) (c:=n.o0) (d:=n.o1) (l:=w1) (h:=w2) Z.o ho.2.1 tO lN (by unfold I62;omega) (by unfold I62;omega) (by unfold I62;omega) (by unfold I62;omega);obtain⟨oa,q3⟩:=UZ (c:=n.a0) (d:=n.b0) (a:=w1) (b:=w2) (p:=n.c.c0) (n:=d0) Z.o Z.o Z.o hc oH mZ;obtain⟨ob,q4⟩:=UZ (c:=n.a1) (d:=n.b1) (a:=w1) (b:=w2) (p:=n.c.c0) (n:=d1) Z.o Z.o Z.o hc oU oP;subst hv;clear mZ oP eu1 mW tO lN hp ho hc;have kg:=hu;obtain⟨⟨c0,c1,c2,c3,c4,c5,c6,c7,c8,c9,c10,c11,c12,c13⟩,es,ds,cy,g0,g1,os,⟨mM,mK,lu⟩,⟨mG,mF,lm⟩,a0,b0,a1,b1,lo,hi,di,on,gr,⟨pl,ph,pe,fr,rs⟩,cl,o0,o1,s0,s1,sc,so,ra,ro,m0,m1,⟨wi,wt,wf⟩⟩:=n;obtain⟨nY,lH,lY,lW⟩:=kg;simp only at nY lH lY lW q1 q2 q3 q4 ed0 rW;refine Z.x Tryz.func102 λzB zE _ _ zF _ hw zC zA _ _ zI _ _ P hP=>?_;cbv;have n1:zF true=false:=by rw[zI];rfl
 have n2:zF false=true:=by rw[zI];rfl
 have e1:zB .sub .i64 lu s0=d0:=by rw[zC,Bj Z.o Z.o];exact ed0
 have e2:zB .sub .i64 lm s1=d1:=by rw[zC,Bj Z.o Z.o];exact rW
 clear ed0 rW oH oU;repeat' (first|(simp only[n1,n2];cbv)|(refine AB.s hP q0 ?_;cbv)|(refine AB.s hP q1 ?_;cbv)|(refine AB.s hP q2 ?_;cbv)|fail)
 (refine Ae.rounds hw 3 ?_;cbv);have xE:zE .lss 0 2=true:=W.lt zA Z.d;have xD:zE .lss 1 2=true:=W.lt zA Z.d;have xC:zE .lss 2 2=false:=W.nlt zA Z.d;have xG:zB .add .i64 0 1=1:=by rw[zC];rfl
 have xF:zB .add .i64 1 1=2:=by rw[zC];rfl
 repeat' (first|(simp only[xE,xD,xC,xG,xF,e1,e2];cbv)|(refine AB.s hP q3 ?_;cbv)|(refine AB.s hP q4 ?_;cbv)|(refine InN.mk Z.d Z.d ?_;(try cbv))|(refine And.intro ?_ ?_)|fail)
 all_goals first|exact⟨_,rfl⟩
end Go.Proofs.YtlchlddijclhjaaGreat
