/- Parts of the proofs. -/
import Derived.Test.YtlchlddijclhjaaGreatS15
import Derived.Test.YtlchlddijclhjaaGreatS17
import Derived.Test.YtlchlddijclhjaaGreatS19
import Derived.Test.YtlchlddijclhjaaGreatS9
import Derived.Test.YtlchlddijclhjaaGreatS20
import Derived.Test.YtlchlddijclhjaaGreatS11
import Derived.Test.YtlchlddijclhjaaGreatS8
import Derived.Test.YtlchlddijclhjaaGreatSZ
set_option linter.unusedVariables false
set_option linter.unusedSimpArgs false
set_option maxHeartbeats 4000000
namespace Go.Proofs.YtlchlddijclhjaaGreat
open Go Go.RowKit Go.Eng
set_option maxRecDepth 100000
def kBQ(ss:List Sg)(m:List (List Int))(n:Nv):Int×Int:=
 if n.on=false then (n.g0,n.g1)
 else if m.any (λl=>k7V ss n.p.fr l == n.p.hi)=true then (n.g0,n.g1)
 else
  let v:=m.foldl (λs l=>grw ss n.p.lo n.p.hi s (-n.p.fr) l) (0,0,false)
  if v.2.2 then (v.1,v.2.1) else (n.g0,n.g1)
structure kKI(ss:List Sg)(m:List (List Int))(n:Nv):Prop where
 fr:0<=n.p.fr/\n.p.fr<=1099511627776
 way:∀l,l∈m->l.length<=12/\∀n,n∈l->0<=n/\n.toNat<ss.length
 few:m.length<=16
 rs:n.p.rs=m.map rtC
theorem kLZ(l:List Int):∃n x0 x1 x2 x3 x4 x5 x6 x7 x8 x9 x10 x11,rtC l=[jz n,jz x0,jz x1,jz x2,jz x3,jz x4,jz x5,jz x6,jz x7,jz x8,jz x9,jz x10,jz x11]:=⟨_,_,_,_,_,_,_,_,_,_,_,_,_,rfl⟩
theorem kXT(ss:List Sg)(gs:List Gr)(m:List (List Int))(n:Nv)(hu:NvU n)(zU:n.es=ss.map k0Y)(yG:n.ds=gs.map k14)(hln:k2N ss)(hpc:∀s,s∈ss->k9Z s.ps)(hon:n.on=true->kKI ss m n)(x y:Int)(e:(x,y)=kBQ ss m n) :
 k06 Tryz.prog 150 [.ref 0 55 0 0] [.live 55 [n.row]] (λr hp=>r = .agg [x,y]/\∃j,hp = .live 55 [n.row]::j):=by
 unfold kBQ at e;obtain⟨⟨c0,c1,c2,c3,c4,c5,c6,c7,c8,c9,c10,c11,c12,c13⟩,es,ds,cy,g0,g1,os,⟨kn0,la0,su0⟩,⟨kn1,la1,su1⟩,a0,b0,a1,b1,lo,hi,di,on,gr,⟨pl,ph,pe,fr,rs⟩,cl,o0,o1,s0,s1,sc,so,ra,ro,m0,m1,⟨wi,wt,wf⟩⟩:=n;simp only at e zU yG hon;obtain⟨hue,hud,huo,hur⟩:=hu;simp only at hue hud huo hur
 cases on with
 | false =>
   rw[if_pos rfl] at e;simp only[Prod.mk.injEq] at e;obtain⟨rfl,rfl⟩:=e;refine Z.x Tryz.func150 λ_ _ _ _ zF _ _ _ _ _ _ zI _ hz P hP=>?_;cbv;have n1:zF false=true:=(by rw[zI];rfl);repeat' (first|(simp only[n1];cbv)|fail)
   exact⟨_,rfl⟩
 | true =>
   rw[if_neg Z.d] at e;obtain⟨hfr,hway,hfew,yL⟩:=hon rfl;simp only at hfr yL;refine Z.x Tryz.func150 λzA _ _ _ zF _ hw zC zB _ _ zI zE hz P hP=>?_;cbv;have n1:zF true=false:=(by rw[zI];rfl);repeat' (first|(simp only[n1];cbv)|fail)
   have hrl:rs.length=m.length:=(by rw[yL];simp);obtain⟨L,eL,L0,Ln⟩:=Z.l zE rs;simp only[eL];obtain⟨v,ev⟩:=Z.e (m.foldl (λs l=>grw ss pl ph s (-fr) l) (0,0,false));have qg:=kSE ss gs es ds zU yG hln hpc fr hfr m hway Z.o rs yL pl ph v ev;rw[<- ev] at e
   refine k1Q.dataN hw (S:=Int) (λi=>Go.Eng.fr 75 [(0,.ref 0 55 0 0),(2,.ref 1 2 0 0),(22,.list 13 rs),(23,L),(24,i)]) (λ_=>[.live 55 [c0::c1::c2::c3::c4::c5::c6::c7::c8::c9::c10::c11::c12::c13 :: .list 3 es :: .list 5 ds :: .bool false::cy::g0::g1 :: .list 1 os::kn0 :: .int .u16 la0::su0::[kn1,.int .u16 la1,su1,a0,b0,a1,b1,lo,hi,di,.bool true,gr,pl,ph,pe,fr,.list 13 rs,cl,o0,o1,s0,s1,sc,so,ra,ro,m0,m1,wi,wt,wf]],.live 2 [[jz 0,jz 0]]])
    (λi=>0<=i/\i<=L/\(m.take i.toNat).any (λl=>k7V ss fr l == ph)=false) (λi=>(L-i).toNat) 0 (by(refine Z.n (id) ?_;cbv<;>exact Z.q)) ⟨Int.le_refl _,L0,rfl⟩ ?_
   rintro i zJ Q' hN hE hR';have zJ:0<=i/\i<=L/\(m.take i.toNat).any (λl=>k7V ss fr l == ph)=false:=zJ;obtain⟨yJ,yZ,hany⟩:=zJ;by_cases yH:i<L
   ·obtain⟨l,hl⟩:∃l,m[i.toNat]?=some l:=⟨_,List.getElem?_eq_getElem (show i.toNat<m.length by omega)⟩
    obtain⟨i2,ei2⟩:=Z.e (i+1);have htk:m.take i2.toNat=m.take i.toNat++[l]:=(by rw[ei2];exact kCS yJ hl);have hlw:=hway l (List.mem_of_getElem? hl);obtain⟨y1,ey1⟩:=Z.e (k7V ss fr l);have qe:=kXO ss gs es ds zU yG hln fr hfr rs hur l hlw.1 hlw.2;rw[<- ey1] at qe;have zL:rs[i.toNat]?=some (rtC l):=(by rw[yL,List.getElem?_map,hl];rfl);obtain⟨z,x0,x1,x2,x3,x4,x5,x6,x7,x8,x9,x10,x11,erow⟩:=kLZ l;rw[erow] at zL qe;have hT:(L-i2).toNat<(L-i).toNat:=by omega
    have yS:y1≠ph->(m.take i2.toNat).any (λl=>k7V ss fr l == ph)=false:=λh=>by
     rw[htk,List.any_append,hany,Bool.false_or];simp[<- ey1,h]
    have hyes:y1=ph->m.any (λl=>k7V ss fr l == ph)=true:=λh=>by
     rw[List.any_eq_true];exact⟨l,List.mem_of_getElem? hl,by rw[<- ey1,h];simp⟩
    have a4:zA .add .i64 i 1=i2:=(by rw[zC,k0S Z.o Z.o,ei2]);have ck:=W.lt zB yH;clear ey1 htk hl hany erow qg ev yL;cbv;repeat' (first|(simp only[ck];cbv)|(refine k1R.s hP qe ?_;cbv)|(refine Idx.mk _ yJ zL ?_;cbv)|fail)
    by_cases hph:y1=ph
    ·have d1:=W.eq zB hph
     simp only[d1];cbv;rw[if_pos (hyes hph)] at e;simp only[Prod.mk.injEq] at e;obtain⟨rfl,rfl⟩:=e;refine hR' _ _ ?_;cbv;exact⟨_,rfl⟩
    ·have d1:=W.neq zB hph
     simp only[d1];cbv;simp only[a4];refine hN i2 _ _ ?hx ?hi hT
     case hx=>(refine Z.n (id) ?_;cbv<;>exact Z.q)
     case hi=>exact⟨by omega,by omega,yS hph⟩
   ·have ck:=W.nlt zB (show L<=i by omega)
    rw[List.take_of_length_le Z.o] at hany;rw[if_neg (by rw[hany];decide)] at e;clear ev hany yL;obtain⟨v1,v2,v3⟩:=v;cbv;simp only[ck];refine hE _ _ _ ?_;cbv;repeat' (first|(refine k1R.s hP qg ?_;cbv)|fail)
    cases v3 with
    | true =>
      simp only[if_true,Prod.mk.injEq] at e;obtain⟨rfl,rfl⟩:=e;cbv;exact⟨_,rfl⟩
    | false =>
      simp only[Bool.false_eq_true,if_false,Prod.mk.injEq] at e;obtain⟨rfl,rfl⟩:=e;cbv;exact⟨_,rfl⟩
def q1I(ss:List Sg)(mm:List (List Int))(n:Nv)(m:Ml):Bool×Int×Int:=if m.has 4 then (true,n.lo+(m.val 4-(kBQ ss mm n).2-n.c.c5),n.hi+(m.val 4-(kBQ ss mm n).1+n.c.c5)) else (false,0,0)
theorem kSA(ss:List Sg)(gs:List Gr)(mm:List (List Int))(n:Nv)(hu:NvU n)(zU:n.es=ss.map k0Y)(yG:n.ds=gs.map k14)(hln:k2N ss)(hpc:∀s,s∈ss->k9Z s.ps)(hon:n.on=true->kKI ss mm n)
 (m:Ml) (h5:0<=n.c.c5/\n.c.c5<=1048576) (hv:m.has 4=true -> -2147483648<=m.val 4/\m.val 4<=2147483648) (hbe:(kBQ ss mm n).1<=(kBQ ss mm n).2 /\ -1048576<=(kBQ ss mm n).1/\(kBQ ss mm n).2<=1048576)
 (hsp:n.lo<=n.hi/\I62 n.lo/\I62 n.hi) (f:Bool) (l h:Int) (e:(f,l,h)=q1I ss mm n m) :
 k06 Tryz.prog 94 [.ref 0 55 0 0,.agg m.row] [.live 55 [n.row]] (λr hp=>r = .agg [f,l,h]/\∃j,hp = .live 55 [n.row]::j):=by
 obtain⟨x,ex⟩:=Z.e (m.val 4);obtain⟨has,eh⟩:=Z.e (m.has 4);have q1:=kFE m 4 (.inr (.inr (.inr (.inl rfl)))) x has ex eh;obtain⟨y1,ey1⟩:∃x,x=(kBQ ss mm n).1:=⟨_,rfl⟩;obtain⟨y2,ey2⟩:∃x,x=(kBQ ss mm n).2:=⟨_,rfl⟩;have q2:=kXT ss gs mm n hu zU yG hln hpc hon y1 y2 (by rw[ey1,ey2]);unfold q1I at e;rw[<- ex,<- eh,<- ey1,<- ey2] at e;rw[<- ex,<- eh] at hv;rw[<- ey1,<- ey2] at hbe;have hur:=hu.row;obtain⟨⟨c0,c1,c2,c3,c4,c5,c6,c7,c8,c9,c10,c11,c12,c13⟩,es,ds,cy,g0,g1,os,⟨kn0,la0,su0⟩,⟨kn1,la1,su1⟩,a0,b0,a1,b1,lo,hi,di,on,gr,⟨pl,ph,pe,fr,rs⟩,cl,o0,o1,s0,s1,sc,so,ra,ro,m0,m1,⟨wi,wt,wf⟩⟩:=n;simp only at h5 e hsp;clear ex eh ey1 ey2 hpc hln zU yG hon hu;obtain⟨p1,p2,p3,p4,p5,x1,x2,x3,x4,x5,bad,stale,twice,beyond⟩:=m
 cases has with
 | false =>
   simp only[Bool.false_eq_true,if_false,Prod.mk.injEq] at e;obtain⟨rfl,rfl,rfl⟩:=e;clear hv q2 hur;refine Z.x Tryz.func94 λ_ _ _ _ zF _ _ _ _ _ _ zI _ hz P hP=>?_;cbv;have n1:zF false=true:=(by rw[zI];rfl);repeat' (first|(simp only[n1];cbv)|(refine Call.s hP q1 ?_;cbv)|fail)
   exact⟨_,rfl⟩
 | true =>
   simp only[if_true,Prod.mk.injEq] at e;obtain⟨rfl,e1,e2⟩:=e;have hv:=hv rfl;obtain⟨y,ey⟩:=Z.f (x-y2-c5);obtain⟨z,ez⟩:=Z.f (x-y1+c5);have q3:=kSI c0 c1 c2 c3 c4 c5 c6 c7 c8 c9 c10 c11 c12 c13 x y1 y2 y z h5 hv hbe.1 hbe.2.1 hbe.2.2 ey ez;have q4:=q0R (a:=lo) (b:=hi) (c:=y) (d:=z) (l:=l) (h:=h) hsp.1 Z.o (by rw[e1,ey]) (by rw[e2,ez]) hsp.2.1 hsp.2.2 ⟨by omega,by omega⟩ ⟨by omega,by omega⟩;clear e1 e2 hv ey ez h5 hsp hbe;refine Z.x Tryz.func94 λ_ _ _ _ zF _ _ _ _ _ _ zI _ _ P hP=>?_;cbv;have n1:zF true=false:=(by rw[zI];rfl);repeat' (first|(simp only[n1];cbv)|(refine Call.s hP q1 ?_;cbv)|fail)
   refine k1R.o hP q2 hur rfl rfl rfl rfl ?_;repeat' (first|(refine k1R.s hP q3 ?_;cbv)|(refine k1R.s hP q4 ?_;cbv)|fail)
   all_goals exact⟨_,rfl⟩
def kKJ(c:Cf):Prop:=k6S c.c0 c.c1 c.c2 c.c3 c.c4 c.c5 c.c6 c.c7 c.c8 c.c9 c.c10 c.c11 c.c12 c.c13
structure kKS(m:Ml):Prop where
 v1:m.has 1=true->0<=m.val 1/\m.val 1<=65535
 v2:m.has 2=true->0<=m.val 2/\m.val 2<=65535
 v3:m.has 3=true -> -2147483648<=m.val 3/\m.val 3<=2147483648
 v4:m.has 4=true -> -2147483648<=m.val 4/\m.val 4<=2147483648
structure q2M(n:Nv):Prop where
 cf:kKJ n.c
 k0: -1099511627776<=n.k0.su/\n.k0.su<=1099511627776
 k1: -1099511627776<=n.k1.su/\n.k1.su<=1099511627776
 c0:0<n.a0/\n.a0<=n.b0/\n.b0<=8388608
 c1:0<n.a1/\n.a1<=n.b1/\n.b1<=8388608
 sp: -n.c.c6<=n.lo/\n.lo<=n.hi/\n.hi<=n.c.c6
def kC0(ss:List Sg)(mm:List (List Int))(n:Nv)(m:Ml):Nv×Fu:=
 let a:=kPR n m
 let b:=kPQ a.1 m
 let r:=kTB b.1 m
 let c:=q1I ss mm b.1 m
 (b.1,kP8 (max (n.lo-n.c.c7) (-n.c.c6)) (min (n.hi+n.c.c7) n.c.c6) a.2.1 b.2.1 r.1 c.1 a.2.2.1 a.2.2.2 b.2.2.1 b.2.2.2 r.2.1 r.2.2 c.2.1 c.2.2)
theorem kT1{d lo hi p:Int}(d0: -32768<=d)(d1:d<=32767)(h0:0<lo)(h1:lo<=hi)(h2:hi<=8388608)(hp:1<=p):I62 (kE9 d lo hi p)/\I62 (kEA d lo hi p):=by
 have key:∀k z:Int,-40000<=k->k<=40000->0<z->z<=8388608 -> -335544320000<=k*z/\k*z<=335544320000:=λk z k0 k1 z0 z1=>by
  have a1:=Int.mul_le_mul_of_nonneg_right k1 (show 0<=z by omega);have a2:=Int.mul_le_mul_of_nonneg_right k0 (show 0<=z by omega);omega
 have kd:∀v:Int,-335544320000<=v->v<=335544320000 -> -335544320000<=v/p/\v/p<=335544320000:=λv v0 v1=>by
  constructor
  ·exact Int.le_ediv_of_mul_le Z.o (by have:=Int.mul_le_mul_of_nonpos_left (show (-335544320000:Int)<=0 by decide) hp;omega)
  ·refine Int.ediv_le_of_le_mul Z.o ?_
   have:=Int.mul_le_mul_of_nonneg_left hp (show (0:Int)<=335544320000 by decide);omega
 unfold kE9 kEA flD clD I62;refine⟨?_,?_⟩
 ·have h:=key (d-1) (if d<1 then hi else lo) Z.o Z.o (by split<;>omega) (by split<;>omega)
  have:=kd _ h.1 h.2;omega
 ·have h:=key (d+1) (if d < -1 then lo else hi) Z.o Z.o (by split<;>omega) (by split<;>omega)
  have:=kd (-((d+1)*(if d < -1 then lo else hi))) Z.o Z.o;omega
theorem kZK{k:Ct}{v:Int}{has:Bool}(h:(pnV k v has).2.2=true): -32768<=(pnV k v has).2.1/\(pnV k v has).2.1<=32767:=by
 unfold pnV at h ⊢;split
 ·rename_i h1;rw[if_pos h1] at h;cases h
 ·rename_i h1
  rw[if_neg h1] at h;split
  ·rename_i h2;rw[if_pos h2] at h;cases h
  ·unfold kSL;simp only;omega
theorem kUQ{n:Nv}{m:Ml}(hn:q2M n)(h:(kPR n m).2.1=true):I62 (kPR n m).2.2.1/\I62 (kPR n m).2.2.2:=by
 have hc:=hn.cf;unfold kKJ k6S at hc;unfold kPR at h ⊢;simp only at h ⊢;have hd:=kZK h;rw[h,if_pos rfl,if_pos rfl];exact kT1 hd.1 hd.2 hn.c0.1 hn.c0.2.1 hn.c0.2.2 Z.o
theorem kUP{n:Nv}{m:Ml}(hcf:kKJ n.c)(h1:0<n.a1/\n.a1<=n.b1/\n.b1<=8388608)(h:(kPQ n m).2.1=true):I62 (kPQ n m).2.2.1/\I62 (kPQ n m).2.2.2:=by
 have hc:=hcf;unfold kKJ k6S at hc;unfold kPQ at h ⊢;simp only at h ⊢;have hd:=kZK h;rw[h,if_pos rfl,if_pos rfl];exact kT1 hd.1 hd.2 h1.1 h1.2.1 h1.2.2 Z.o
theorem k60{a:Int}(h:I62 a):I64 a:=by unfold I62 at h;unfold I64;omega
theorem kZH{n:Nv}{m:Ml}(hc:kKJ n.c)(hm:kKS m)(h:(kTB n m).1=true):I62 (kTB n m).2.1/\I62 (kTB n m).2.2:=by
 unfold kTB at h ⊢;split at h
 ·rename_i hh
  rw[if_pos hh];have hv:=hm.v3 hh;unfold kKJ k6S at hc;have:=kGS (c3:=n.c.c3) (c4:=n.c.c4) (r:=m.val 3) Z.o Z.o hv;unfold I62;simp only;omega
 ·cases h
def snD1:List (List Nat):=[[],[6],[6,0,1],[0],[6],[6,3,4,2],[3],[6],[6,6,7,5],[6,2,5,8],[6],[6,10,9,8,0,1,2,3,4,5,6,7,8,9,10]]
theorem kS1(ss:List Sg)(gs:List Gr)(mm:List (List Int))(n:Nv)(hu:NvU n)(zU:n.es=ss.map k0Y)(yG:n.ds=gs.map k14)(hln:k2N ss)(hpc:∀s,s∈ss->k9Z s.ps)(hon:n.on=true->kKI ss mm n)
 (hn:q2M n) (m:Ml) (hm:kKS m) (hbe:(kBQ ss mm n).1<=(kBQ ss mm n).2 /\ -1048576<=(kBQ ss mm n).1/\(kBQ ss mm n).2<=1048576) (v:Nv) (f:Fu) (e:(v,f)=kC0 ss mm n m) :
 k06 Tryz.prog 46 [.ref 0 55 0 0,.agg m.row] [.live 55 [n.row]] (λr hp=>r = .agg [f.lo,f.hi,f.n,f.cl,f.cf,f.s0,f.s1]/\∃j,hp = .live 55 [v.row]::j):=by
 have hc:=hn.cf;unfold kKJ k6S at hc;obtain⟨⟨n1,f0,l0,h0⟩,e0⟩:=Z.e (kPR n m);obtain⟨⟨n2,f1,l1,h1⟩,e1⟩:=Z.e (kPQ n1 m);obtain⟨⟨f2,l2,h2⟩,e2⟩:=Z.e (kTB n2 m);obtain⟨⟨f3,l3,h3⟩,e3⟩:=Z.e (q1I ss mm n2 m);have q0:=q0E n hu m ⟨by omega,by omega⟩ hn.c0 hn.k0 hm.v1 n1 f0 l0 h0 e0;have en1:n1={ n with k0:=n1.k0 }:=by rw[show n1=(kPR n m).1 from congrArg Prod.fst e0];rfl
 have hu1:NvU n1:=by rw[en1];exact⟨hu.es,hu.ds,hu.os,hu.rs⟩
 have hs1:n1.c=n.c/\n1.a1=n.a1/\n1.b1=n.b1/\n1.k1=n.k1:=by rw[en1];exact⟨rfl,rfl,rfl,rfl⟩
 have q1:=q0D n1 hu1 m (by rw[hs1.1];exact⟨by omega,by omega⟩) (by rw[hs1.2.1,hs1.2.2.1];exact hn.c1) (by rw[hs1.2.2.2];exact hn.k1) hm.v2 n2 f1 l1 h1 e1;have en2:n2={ n with k0:=n1.k0,k1:=n2.k1 }:=by rw[show n2=(kPQ n1 m).1 from congrArg Prod.fst e1,en1];rfl
 have hu2:NvU n2:=by rw[en2];exact⟨hu.es,hu.ds,hu.os,hu.rs⟩
 have hc2:n2.c=n.c:=by rw[en2]
 have q2:=kS2 n2 m (by rw[hc2];exact⟨by omega,by omega⟩) (by rw[hc2];exact⟨by omega,by omega⟩) hm.v3 f2 l2 h2 e2;have hb2:kBQ ss mm n2=kBQ ss mm n:=by rw[en2];rfl
 have hsp2:n2.lo=n.lo/\n2.hi=n.hi/\n2.es=n.es/\n2.ds=n.ds/\n2.on=n.on:=by rw[en2];exact⟨rfl,rfl,rfl,rfl,rfl⟩
 have hsp:=hn.sp
 have q3:=kSA ss gs mm n2 hu2 (by rw[hsp2.2.2.1];exact zU) (by rw[hsp2.2.2.2.1];exact yG) hln hpc (λho=>by rw[hsp2.2.2.2.2] at ho;have:=hon ho;rw[en2];exact⟨this.fr,this.way,this.few,this.rs⟩) m (by rw[hc2];exact⟨by omega,by omega⟩) hm.v4 (by rw[hb2];exact hbe)
  (by rw[hsp2.1,hsp2.2.1];exact⟨hsp.2.1,⟨by omega,by omega⟩,⟨by omega,by omega⟩⟩) f3 l3 h3 e3
 obtain⟨pb,epl⟩:=Z.e (max (n.lo-n.c.c7) (-n.c.c6));obtain⟨pt,epr⟩:=Z.e (min (n.hi+n.c.c7) n.c.c6);have q4:=kRW n.c.c0 n.c.c1 n.c.c2 n.c.c3 n.c.c4 n.c.c5 n.c.c6 n.c.c7 n.c.c8 n.c.c9 n.c.c10 n.c.c11 n.c.c12 n.c.c13 n.lo n.hi pb pt ⟨by omega,by omega⟩ ⟨by omega,by omega⟩ hsp.2.1 hsp.1 hsp.2.2 epl epr
 have i0:f0=true->I64 l0/\I64 h0:=λhf=>by
  have:=kUQ (m:=m) hn;rw[<- e0] at this;exact⟨k60 (this hf).1,k60 (this hf).2⟩
 have i1:f1=true->I64 l1/\I64 h1:=λhf=>by
  have:=kUP (n:=n1) (m:=m) (by rw[hs1.1];exact hn.cf) (by rw[hs1.2.1,hs1.2.2.1];exact hn.c1);rw[<- e1] at this;exact⟨k60 (this hf).1,k60 (this hf).2⟩
 have i2:f2=true->I64 l2/\I64 h2:=λhf=>by
  have:=kZH (n:=n2) (by rw[hc2];exact hn.cf) hm;rw[<- e2] at this;exact⟨k60 (this hf).1,k60 (this hf).2⟩
 unfold kC0 at e;simp only at e;rw[<- e0] at e;simp only at e;rw[<- e1] at e;simp only at e;rw[<- e2,<- e3,<- epl,<- epr] at e;simp only[Prod.mk.injEq] at e;obtain⟨ev,ef⟩:=e;have q5:=kXL pb pt f0 f1 f2 f3 l0 h0 l1 h1 l2 h2 l3 h3 (kRG i0 i1 i2) f ef;have u0:=hu.row;have u1:=hu1.row;have u2:=hu2.row;have ek1:n1.k0=n1.k0:=rfl;obtain⟨k0',ek0⟩:=Z.e n1.k0;obtain⟨k1',ek1⟩:=Z.e n2.k1;rw[<- ek0,<- ek1] at en2;rw[<- ek0] at en1;subst ev;clear e0 e1 e2 e3 ef i0 i1 i2 hb2 hsp2 hsp epl epr hc2 hs1 ek0 ek1 hon hm hbe hc hn hpc hln zU yG;subst en1;subst en2;obtain⟨⟨c0,c1,c2,c3,c4,c5,c6,c7,c8,c9,c10,c11,c12,c13⟩,es,ds,cy,g0,g1,os,⟨kn0,la0,su0⟩,⟨kn1,la1,su1⟩,a0,b0,a1,b1,lo,hi,di,on,gr,⟨pl,ph,pe,fr,rs⟩,cl,o0,o1,s0,s1,sc,so,ra,ro,m0,m1,⟨wi,wt,wf⟩⟩:=n;obtain⟨kn0',la0',su0'⟩:=k0';obtain⟨kn1',la1',su1'⟩:=k1';obtain⟨flo,fhi,fn,fcl,fcf,fs0,fs1⟩:=f;obtain⟨p1,p2,p3,p4,p5,x1,x2,x3,x4,x5,bad,stale,twice,beyond⟩:=m;(refine k06.ofP (F:=[1]) (sc:=?scc) (r:=?rr) Tryz.func46 (by kernel_rfl) rfl ?hr ?hc (by kernel_rfl) λw hw=>?H);(case hr=>((conv=>lhs;cbv);(try exact rfl)));(case hc=>((repeat' (first|refine' k7D ?_ ?_|refine' k3F ?_|refine' k4U ?_|refine' k25 (id:=1) snD1 rfl (by kernel_rfl) ?_|fail));(try any_goals (conv=>lhs;cbv));(try any_goals exact rfl)));(obtain⟨zA,zG,yT,zD,zF,zW,yR,zN,zQ,zP,yC,zZ,zV,zT,zK,zM,zO,yE,zS,yF⟩:=w);(have zC:=Z.w1 hw);(have zB:=Z.w2 hw);(have yM:=Z.w3 hw);(have zH:=Z.w4 hw);(have zI:=Z.w5 hw);(have yK:=Z.w6 hw);(have yU:=Z.w7 hw);(have zX:=Z.w8 hw);(have yB:=Z.w9 hw);(have yA:=Z.w10 hw);(have yQ:=Z.w11 hw);(have yP:=Z.w12 hw);(have zE:=Z.w13 hw);(have yO:=Z.w14 hw);(have zR:=Z.w15 hw);(have yD:=Z.w16 hw);(have yI:=Z.w17 hw);(have yW:=Z.w18 hw);(have yN:=Z.w19 hw);(have yX:=Z.w20 hw);(have hz:=Z.z hw);(conv=>arg 4;cbv);(generalize hP:Tryz.prog=P);cbv
 refine AnyQ.sets [.ref 0 55 0 0,.agg [.bool false,p1,p2,p3,p4,p5,jz 0,x1,x2,x3,x4,x5,bad,stale,twice,beyond],.agg [f0,l0,h0],.ref 0 55 0 0,.agg [.bool false,p1,p2,p3,p4,p5,jz 0,x1,x2,x3,x4,x5,bad,stale,twice,beyond],.agg [f1,l1,h1],.ref 0 55 0 0,.agg [.bool false,p1,p2,p3,p4,p5,jz 0,x1,x2,x3,x4,x5,bad,stale,twice,beyond],.agg [f2,l2,h2],.agg [f0,l0,h0,f1,l1,h1,f2,l2,h2],.ref 3 9 0 0,.any]
  (λm=>[.live 55 [match m 5 with|true=>[jz c0,jz c1,jz c2,jz c3,jz c4,jz c5,jz c6,jz c7,jz c8,jz c9,jz c10,jz c11,jz c12,jz c13,.list 3 es,.list 5 ds,.bool false,jz cy,jz g0,jz g1,.list 1 os,.bool kn0',.int .u16 la0',jz su0',.bool kn1',.int .u16 la1',jz su1',jz a0,jz b0,jz a1,jz b1,jz lo,jz hi,jz di,.bool on,jz gr,jz pl,jz ph,jz pe,jz fr,.list 13 rs,.bool cl,jz o0,jz o1,jz s0,jz s1,jz sc,.bool so,.bool ra,.bool ro,jz m0,jz m1,jz wi,jz wt,.bool wf]|false=>(match m 2 with|true=>[jz c0,jz c1,jz c2,jz c3,jz c4,jz c5,jz c6,jz c7,jz c8,jz c9,jz c10,jz c11,jz c12,jz c13,.list 3 es,.list 5 ds,.bool false,jz cy,jz g0,jz g1,.list 1 os,.bool kn0',.int .u16 la0',jz su0',.bool kn1,.int .u16 la1,jz su1,jz a0,jz b0,jz a1,jz b1,jz lo,jz hi,jz di,.bool on,jz gr,jz pl,jz ph,jz pe,jz fr,.list 13 rs,.bool cl,jz o0,jz o1,jz s0,jz s1,jz sc,.bool so,.bool ra,.bool ro,jz m0,jz m1,jz wi,jz wt,.bool wf]|false=>[jz c0,jz c1,jz c2,jz c3,jz c4,jz c5,jz c6,jz c7,jz c8,jz c9,jz c10,jz c11,jz c12,jz c13,.list 3 es,.list 5 ds,.bool false,jz cy,jz g0,jz g1,.list 1 os,.bool kn0,.int .u16 la0,jz su0,.bool kn1,.int .u16 la1,jz su1,jz a0,jz b0,jz a1,jz b1,jz lo,jz hi,jz di,.bool on,jz gr,jz pl,jz ph,jz pe,jz fr,.list 13 rs,.bool cl,jz o0,jz o1,jz s0,jz s1,jz sc,.bool so,.bool ra,.bool ro,jz m0,jz m1,jz wi,jz wt,.bool wf])],.live 16 [[.bool false,p1,p2,p3,p4,p5,jz 0,x1,x2,x3,x4,x5,bad,stale,twice,beyond]],.live 7 [[jz 0,jz 0,jz 0,.bool false,.bool false,jz 0,jz 0]]]++(match m 10 with|true=>[.live 9 [match m 11 with|true=>[f0,l0,h0,f1,l1,h1,f2,l2,h2]|false=>[.bool false,jz 0,jz 0,.bool false,jz 0,jz 0,.bool false,jz 0,jz 0]]]|false=>[]))
  rfl (by cbv) ?h1 ?h2
 case h1 =>
  cbv
  repeat' first
   | exact⟨rfl,rfl⟩
   | exact rfl
   | exact trivial
   | (refine And.intro ?_ ?_)
   | (refine Call.o hP q0 u0 u1 rfl rfl rfl rfl ?_;cbv)
   | (refine Call.o hP q1 u1 u2 rfl rfl rfl rfl ?_;cbv)
   | (refine Call.o hP q2 u2 u2 rfl rfl rfl rfl ?_;cbv)
   | fail
 cbv;simp only at q4 q5;repeat' (first|(refine k1R.s hP q4 ?_;cbv)|(refine k1R.s hP q5 ?_;cbv)|(refine k1R.o hP q3 u2 rfl rfl rfl rfl ?_;cbv)|exact trivial|(refine And.intro ?_ ?_)|fail)
 all_goals exact⟨_,rfl⟩
theorem kS4(n:Nv)(hu:NvU n)(hon:n.on=false)(a b:Int)(ha:I62 a)(hb:I62 b)(hd:0<=n.di/\n.di<=2305843009213693952)(hab: -2305843009213693952<=(a+b)/2/\(a+b)/2<=2305843009213693952)(v:Nv)(hv:v={ n with lo:=a,hi:=b,di:=n.di+kAA ((a+b)/2) }) :
 k06 Tryz.prog 47 [.ref 0 55 0 0,.agg [a,b]] [.live 55 [n.row]] (λr hp=>r = .bool false/\∃j,hp = .live 55 [v.row]::j):=by
 obtain⟨md,emd⟩:∃x,(a+b)/2=x:=⟨_,rfl⟩;obtain⟨sz,esz⟩:=Z.e (kAA md);obtain⟨di',edi⟩:=Z.f (n.di+sz);rw[emd,<- esz,edi] at hv;rw[emd] at hab;have hsz:0<=sz/\sz<=2305843009213693952:=by rw[esz];unfold kAA;split<;>omega
 have q1:=kCH emd (k60 ha) (k60 hb);have q2:=kTT esz ⟨by omega,by omega⟩;have q3:=kB7 edi ⟨by omega,by omega⟩ ⟨by omega,by omega⟩;subst hv;have h1:=hu;clear esz edi hsz emd hd;obtain⟨⟨c0,c1,c2,c3,c4,c5,c6,c7,c8,c9,c10,c11,c12,c13⟩,es,ds,cy,g0,g1,os,⟨kn0,la0,su0⟩,⟨kn1,la1,su1⟩,a0,b0,a1,b1,lo,hi,di,on,gr,⟨pl,ph,pe,fr,rs⟩,cl,o0,o1,s0,s1,sc,so,ra,ro,m0,m1,⟨wi,wt,wf⟩⟩:=n;simp only at hon q3;subst hon;obtain⟨hue,hud,huo,hur⟩:=h1;simp only at hue hud huo hur;refine Z.x Tryz.func47 λ_ _ _ _ zF _ _ _ _ _ _ zI _ _ P hP=>?_;cbv;have n1:zF false=true:=by rw[zI];rfl
 have n2:zF true=false:=by rw[zI];rfl
 repeat' (first|(simp only[n1,n2];cbv)|(refine Call.s hP q1 ?_;cbv)|(refine Call.s hP q2 ?_;cbv)|(refine Call.s hP q3 ?_;cbv)|fail)
 all_goals first|exact⟨_,rfl⟩
theorem kS8(n:Nv)(hu:NvU n)(m:Ml)(hm:m.has 5=false)(won:Bool)(wgr wl wh we wfr:Int)(ws:List (List AV))(huw:Up0 ws)(a b:Int) :
 k06 Tryz.prog 48 [.ref 0 55 0 0,.agg m.row,.agg [won,wgr,wl,wh,we,wfr,.list 13 ws],.agg [a,b]] [.live 55 [n.row]] (λr hp=>r = .agg [jz 0,.list 1 [],.bool true,.bool false]/\∃j,hp = .live 55 [n.row]::j):=by
 refine k06.mono (k06.give (h':=[.live 55 [n.row]]) (r':=.agg [jz 0,.list 1 [],.bool true,.bool false]) ?_) (λr h hh=>⟨hh.1,[],hh.2⟩);obtain⟨x,ex⟩:=Z.e (m.val 5);have q1:=kFE m 5 (.inr (.inr (.inr (.inr rfl)))) x false ex hm.symm;clear ex hm;have u0:=hu.row;obtain⟨⟨c0,c1,c2,c3,c4,c5,c6,c7,c8,c9,c10,c11,c12,c13⟩,es,ds,cy,g0,g1,os,⟨kn0,la0,su0⟩,⟨kn1,la1,su1⟩,a0,b0,a1,b1,lo,hi,di,on,gr,⟨pl,ph,pe,fr,rs⟩,cl,o0,o1,s0,s1,sc,so,ra,ro,m0,m1,⟨wi,wt,wf⟩⟩:=n;obtain⟨hue,hud,huo,hur⟩:=hu;simp only at hue hud huo hur;obtain⟨p1,p2,p3,p4,p5,x1,x2,x3,x4,x5,bad,stale,twice,beyond⟩:=m;refine Z.x Tryz.func48 λ_ _ _ _ zF _ _ _ _ _ _ zI _ hz P hP=>?_;cbv;have n1:zF false=true:=by rw[zI];rfl
 repeat' (first|(simp only[n1];cbv)|(refine Call.s hP q1 ?_;cbv)|fail)
 all_goals first|(refine WkB.mk ?_;(refine Z.n (id) ?_;cbv<;>exact Z.q))|fail
def kYN(n:Nv)(x:Int):Nv:=
 { n with a0:=(k57 n.a0 n.b0 (n.p.lo+x-n.o1) (n.p.hi+x-n.o0) n.c.c0 (n.k0.su-n.s0)).1,b0:=(k57 n.a0 n.b0 (n.p.lo+x-n.o1) (n.p.hi+x-n.o0) n.c.c0 (n.k0.su-n.s0)).2,
          a1:=(k57 n.a1 n.b1 (n.p.lo+x-n.o1) (n.p.hi+x-n.o0) n.c.c0 (n.k1.su-n.s1)).1,b1:=(k57 n.a1 n.b1 (n.p.lo+x-n.o1) (n.p.hi+x-n.o0) n.c.c0 (n.k1.su-n.s1)).2 }
theorem kS9(n:Nv)(hu:NvU n)(x:Int)(hx: -35184372088832<=x/\x<=35184372088832)(hp: -17592186044416<=n.p.lo/\n.p.lo<=n.p.hi/\n.p.hi<=17592186044416)(ho: -17592186044416<=n.o0/\n.o0<=n.o1/\n.o1<=17592186044416)(hc:1<=n.c.c0/\n.c.c0<=1024)
 (hk0: -1099511627776<=n.k0.su-n.s0/\n.k0.su-n.s0<=1099511627776) (hk1: -1099511627776<=n.k1.su-n.s1/\n.k1.su-n.s1<=1099511627776) (v:Nv) (hv:v=kYN n x) :
 k06 Tryz.prog 102 [.ref 0 55 0 0,x] [.live 55 [n.row]] (λr hp=>r = .tuple []/\∃j,hp = .live 55 [v.row]::j):=by
 obtain⟨u1,eu1⟩:=Z.f (n.p.lo+x);obtain⟨u2,eu2⟩:=Z.f (n.p.hi+x);obtain⟨w1,ew1⟩:=Z.f (u1-n.o1);obtain⟨w2,ew2⟩:=Z.f (u2-n.o0);obtain⟨d0,ed0⟩:=Z.f (n.k0.su-n.s0);obtain⟨d1,ed1⟩:=Z.f (n.k1.su-n.s1);unfold kYN at hv;rw[eu1,eu2,ew1,ew2,ed0,ed1] at hv;rw[ed0] at hk0;rw[ed1] at hk1;obtain⟨⟨y0,z0⟩,er0⟩:=Z.e (k57 n.a0 n.b0 w1 w2 n.c.c0 d0);obtain⟨⟨y1,z1⟩,er1⟩:=Z.e (k57 n.a1 n.b1 w1 w2 n.c.c0 d1);rw[<- er0,<- er1] at hv;simp only at hv;have q0:=kWD x;have q1:=kDH (a:=n.p.lo) (b:=n.p.hi) (c:=x) (d:=x) (l:=u1) (h:=u2) hp.2.1 (Int.le_refl _) eu1 eu2 (by unfold I62;omega) (by unfold I62;omega) (by unfold I62;omega) (by unfold I62;omega);have q2:=kGU (a:=u1) (b:=u2) (c:=n.o0) (d:=n.o1) (l:=w1) (h:=w2) Z.o ho.2.1 ew1 ew2 (by unfold I62;omega) (by unfold I62;omega) (by unfold I62;omega) (by unfold I62;omega);obtain⟨oa,q3⟩:=kO4 (c:=n.a0) (d:=n.b0) (a:=w1) (b:=w2) (p:=n.c.c0) (n:=d0) Z.o Z.o Z.o hc hk0 er0;obtain⟨ob,q4⟩:=kO4 (c:=n.a1) (d:=n.b1) (a:=w1) (b:=w2) (p:=n.c.c0) (n:=d1) Z.o Z.o Z.o hc hk1 er1;subst hv;clear er0 er1 eu1 eu2 ew1 ew2 hp ho hc;have hu1:=hu;obtain⟨⟨c0,c1,c2,c3,c4,c5,c6,c7,c8,c9,c10,c11,c12,c13⟩,es,ds,cy,g0,g1,os,⟨kn0,la0,su0⟩,⟨kn1,la1,su1⟩,a0,b0,a1,b1,lo,hi,di,on,gr,⟨pl,ph,pe,fr,rs⟩,cl,o0,o1,s0,s1,sc,so,ra,ro,m0,m1,⟨wi,wt,wf⟩⟩:=n;obtain⟨hue,hud,huo,hur⟩:=hu1;simp only at hue hud huo hur q1 q2 q3 q4 ed0 ed1;refine Z.x Tryz.func102 λzA zG _ _ zF _ hw zC zB _ _ zI _ _ P hP=>?_;cbv;have n1:zF true=false:=by rw[zI];rfl
 have n2:zF false=true:=by rw[zI];rfl
 have e1:zA .sub .i64 su0 s0=d0:=by rw[zC,k3I Z.o Z.o];exact ed0
 have e2:zA .sub .i64 su1 s1=d1:=by rw[zC,k3I Z.o Z.o];exact ed1
 clear ed0 ed1 hk0 hk1;repeat' (first|(simp only[n1,n2];cbv)|(refine k1R.s hP q0 ?_;cbv)|(refine k1R.s hP q1 ?_;cbv)|(refine k1R.s hP q2 ?_;cbv)|fail)
 (refine k1Q.rounds hw 3 ?_;cbv);have c0':zG .lss 0 2=true:=W.lt zB Z.d;have c1':zG .lss 1 2=true:=W.lt zB Z.d;have c2':zG .lss 2 2=false:=W.nlt zB Z.d;have a0':zA .add .i64 0 1=1:=by rw[zC];rfl
 have a1':zA .add .i64 1 1=2:=by rw[zC];rfl
 repeat' (first|(simp only[c0',c1',c2',a0',a1',e1,e2];cbv)|(refine k1R.s hP q3 ?_;cbv)|(refine k1R.s hP q4 ?_;cbv)|(refine InN.mk Z.d Z.d ?_;(try cbv))|(refine And.intro ?_ ?_)|fail)
 all_goals first|exact⟨_,rfl⟩
end Go.Proofs.YtlchlddijclhjaaGreat
