/- Parts of the proofs. -/
import Derived.Test.YtlchlddijclhjaaGreatQ23
import Derived.Test.YtlchlddijclhjaaGreatQ22
import Derived.Test.YtlchlddijclhjaaGreatQZ
set_option linter.unusedVariables false
set_option linter.unusedSimpArgs false
set_option maxHeartbeats 4000000
namespace Go.Proofs.YtlchlddijclhjaaGreat
open Go Go.RowKit Go.Eng
theorem X6(G:Gr)(n:Nv)(x:Fo)(a b:Int):(C_ G n x a b).lo=n.lo/\(C_ G n x a b).hi=n.hi:=by
 unfold C_ lrn?;split<;>exact⟨rfl,rfl⟩
theorem Qk(gs:List Gr)(x:Fo)(n:Nv)(mm:List (List Int))(a b:Int):(Dz gs x n mm a b).1.lo=n.lo/\(Dz gs x n mm a b).1.hi=n.hi:=by
 unfold Dz;split
 ·unfold JH
  split
  ·exact X6 _ _ _ _ _
  ·exact⟨rfl,rfl⟩
 ·exact⟨rfl,rfl⟩
theorem Ql(ss:List Sg)(mm:List (List Int))(n:Nv)(a b:Int):(Bi ss mm n a b).1.lo=a/\(Bi ss mm n a b).1.hi=b:=by
 unfold Bi;split
 ·split<;>exact⟨rfl,rfl⟩
 ·exact⟨rfl,rfl⟩
theorem Qm(n:Nv)(mm:List (List Int)):(BO n mm).1.lo=n.lo/\(BO n mm).1.hi=n.hi:=by unfold BO;split<;>exact⟨rfl,rfl⟩
theorem X7{ss:List Sg}{gs:List Gr}{mm:List (List Int)}{r:Rp}{n:Nv}{f:Fu}(h:n.on=true):(BZ ss gs mm r n f).lo=n.p.lo/\(BZ ss gs mm r n f).hi=n.p.hi/\(BZ ss gs mm r n f).es=n.p.est/\(BZ ss gs mm r n f).rt=mm:=by
 unfold BZ;rw[h];exact⟨rfl,rfl,rfl,rfl⟩
theorem X8{ss:List Sg}{gs:List Gr}{mm:List (List Int)}{r:Rp}{n:Nv}{f:Fu}(h:n.on=false):(BZ ss gs mm r n f).lo=r.lo/\(BZ ss gs mm r n f).hi=r.hi/\(BZ ss gs mm r n f).es=r.es/\(BZ ss gs mm r n f).rt=r.rt:=by
 unfold BZ;rw[h];exact⟨rfl,rfl,rfl,rfl⟩
theorem X9(ss:List Sg)(gs:List Gr)(mm:List (List Int))(r:Rp)(n:Nv)(f:Fu):(BZ ss gs mm r n f).sl=f.lo/\(BZ ss gs mm r n f).sh=f.hi/\(BZ ss gs mm r n f).no=(f.lo+f.hi)/2:=by
 unfold BZ
 cases n.on<;>exact⟨rfl,rfl,rfl⟩
theorem XA(ss:List Sg)(gs:List Gr)(n:Nv)(m:Ml)(com:Bool)(f:Fu)(ov:Bool)(x:Fo)(u:Nv×List (List Int)):∃(n9:Nv) (t:List (List Int)) (r0:Rp),stepE ss gs n m com f ov x u=⟨n9,t,BZ ss gs t r0 n9 f⟩/\(r0.lo=0/\r0.hi=0/\r0.es=0/\r0.rt=[])/\(n9.on=true->n9.w.fa=false)/\n9.lo=u.1.lo/\n9.hi=u.1.hi:=
 ⟨_,_,_,rfl,⟨rfl,rfl,rfl,rfl⟩,λh=>(congrArg Wt.fa (LX _ _)).trans (NV _ _ h).2,(Qm _ _).1,(Qm _ _).2⟩
theorem XB{fit:Int}{cf:Bool}:EB false true fit cf=2\/EB false true fit cf=3:=by
 unfold EB;simp only[Bool.false_eq_true,if_false,Bool.not_true];split
 ·exact .inr rfl
 ·exact .inl rfl
theorem XC{fa:Bool}{fit:Int}{cf:Bool}:EB fa false fit cf=1\/EB fa false fit cf=4:=by
 unfold EB;cases fa
 ·exact .inl rfl
 ·exact .inr rfl
theorem XD{ss:List Sg}{gs:List Gr}{n:Nv}{mm:List (List Int)}{l:List (List Int)}{com:Bool}{s:Ex}(h7:0<=n.c.c7)(h6:0<=n.c.c6)(hsp: -n.c.c6<=n.lo/\n.lo<=n.hi/\n.hi<=n.c.c6)(e:s=Bp ss gs n mm l com) :
 s.n.lo=s.r.sl/\s.n.hi=s.r.sh/\s.r.no=(s.r.sl+s.r.sh)/2/\(max (n.lo-n.c.c7) (-n.c.c6)<=s.r.sl/\s.r.sl<=s.r.sh/\s.r.sh<=min (n.hi+n.c.c7) n.c.c6) /\
 (s.n.on=true->s.r.lo=s.n.p.lo/\s.r.hi=s.n.p.hi/\s.r.es=s.n.p.est/\s.r.rt=s.mm/\(s.r.md=2\/s.r.md=3))/\(s.n.on=false->s.r.lo=0/\s.r.hi=0/\s.r.es=0/\s.r.rt=[]/\(s.r.md=1\/s.r.md=4)):=by
 have hf:=(QE (ss:=ss) (mm:=mm) (n:={ n with cy:=n.cy+1 }) (Cc n.cy l) h7 h6 hsp).1;unfold Bp IM IP at e;simp only at e;obtain⟨n9,t,r0,h1,h2,h3,h4,h5⟩:=XA ss gs n (Cc n.cy l) com (Ce ss mm { n with cy:=n.cy+1 } (Cc n.cy l)).2 _ _ _;rw[h1] at e;subst e;obtain⟨k1,k2,k3⟩:=X9 ss gs t r0 n9 (Ce ss mm { n with cy:=n.cy+1 } (Cc n.cy l)).2;obtain⟨k4,_⟩:=Qn ss gs t r0 n9 (Ce ss mm { n with cy:=n.cy+1 } (Cc n.cy l)).2;simp only[k1,k2,k3,k4];refine⟨?_,?_,trivial,hf,λho=>?_,λho=>?_⟩
 ·rw[h4,(Qk _ _ _ _ _ _).1,(Ql _ _ _ _ _).1]
 ·rw[h5,(Qk _ _ _ _ _ _).2,(Ql _ _ _ _ _).2]
 ·obtain⟨a1,a2,a3,a4⟩:=X7 (ss:=ss) (gs:=gs) (mm:=t) (r:=r0) (f:=(Ce ss mm { n with cy:=n.cy+1 } (Cc n.cy l)).2) ho
  exact⟨a1,a2,a3,a4,by rw[h3 ho,ho];exact XB⟩
 ·obtain⟨a1,a2,a3,a4⟩:=X8 (ss:=ss) (gs:=gs) (mm:=t) (r:=r0) (f:=(Ce ss mm { n with cy:=n.cy+1 } (Cc n.cy l)).2) ho
  exact⟨a1.trans h2.1,a2.trans h2.2.1,a3.trans h2.2.2.1,a4.trans h2.2.2.2,by rw[ho];exact XC⟩
def LY(c6 c7 a b:Int)(r:Rp):Prop:=
 (r.lo<=r.es/\r.es<=r.hi/\r.sl<=r.no/\r.no<=r.sh/\1<=r.md/\r.md<=4/\(r.gr≠0↔r.md=2\/r.md=3)) /\
 (-c6<=r.sl/\r.sh<=c6/\a-c7<=r.sl/\r.sh<=b+c7/\(r.gr≠0↔0<r.rt.length)/\r.rt.length<=16)
def IX(c6 c7:Int):Int->Int->List Rp->Prop
 | _,_,[]=>True
 | a,b,r::l=>LY c6 c7 a b r/\IX c6 c7 r.sl r.sh l
theorem LZ(ss:List Sg)(gs:List Gr)(n:Nv)(mm:List (List Int))(l:List (List Int))(com:Bool)(s:Ex)(e:s=Bp ss gs n mm l com):s.n.c=n.c:=by
 have h1:∀(G:Gr) (m:Nv) (x:Fo) (a b:Int),(C_ G m x a b).c=m.c:=λG m x a b=>by
  unfold C_ lrn?;split<;>rfl
 have h2:∀(x:Fo) (m:Nv) (mm:List (List Int)) (a b:Int),(Dz gs x m mm a b).1.c=m.c:=λx m mm a b=>by
  unfold Dz;split
  ·unfold JH
   split
   ·exact h1 _ _ _ _ _
   ·rfl
  ·rfl
 have h3:∀(m:Nv) (mm:List (List Int)) (a b:Int),(Bi ss mm m a b).1.c=m.c:=λm mm a b=>by
  unfold Bi;split
  ·split<;>rfl
  ·rfl
 have h4:∀(m:Nv) (mm:List (List Int)),(BO m mm).1.c=m.c:=λm mm=>by unfold BO;split<;>rfl
 subst e;unfold Bp IM IP stepE;simp only[h4,h2,h3,IK]
theorem Qo:∀(l:List (List (List Int)×Bool)) (ss:List Sg) (gs:List Gr) (n:Nv) (mm:List (List Int)) (k:Int),BL ss gs n mm k->k+l.length<=1000000->H9 l->IX n.c.c6 n.c.c7 n.lo n.hi (BP (.ok ss gs n mm) l)
 | [],ss,gs,n,mm,k,h,hk,hc=>trivial
 | c::l,ss,gs,n,mm,k,h,hk,hc=>by
   simp only[List.length_cons] at hk;have hn:=UI.next (u:=.ok ss gs n mm) h Z.o (hc c List.mem_cons_self)
   obtain⟨s,es⟩:=Z.e (Bp ss gs n mm c.1 c.2);have hst:Dm (.ok ss gs n mm) c.1 c.2=(.ok ss gs s.n s.mm,s.r):=(by rw[es];rfl);rw[hst] at hn;have hU:BL ss gs s.n s.mm (k+1):=hn;have ih:=Qo l ss gs s.n s.mm (k+1) hU Z.o (λx hx=>hc x (List.mem_cons_of_mem _ hx));simp only[BP];rw[hst];have hcf:=h.cf.in_;obtain⟨t1,t2,t3,t4,t5,t6⟩:=XD Z.o Z.o h.sp es;obtain⟨h1,h2,h3,_,_⟩:=NW es;rw[LZ ss gs n mm c.1 c.2 s es,t1,t2] at ih;refine⟨?_,ih⟩;unfold LY;simp only
   cases ho:s.n.on with
   | true =>
     obtain⟨a1,a2,a3,a4,a5⟩:=t5 ho;obtain⟨_,G,hG⟩:=(hU.on ho).gr;have hg:=hU.tr.grp _ (List.getElem?_eq_some_iff.1 hG).1 G hG;have hgr:s.r.gr=G.id:=(by rw[h3 ho,hG]);have hle:=(hU.on ho).ok.le;have hfew:=(hU.on ho).ok.few;have hne:0<s.mm.length:=List.length_pos_iff.2 (hU.on ho).ne;simp only at hle hfew;rw[a1,a2,a3,a4,hgr];refine⟨⟨hle.1,hle.2,by omega,by omega,by omega,by omega,⟨λ_=>a5,λ_=>by omega⟩⟩,by omega,by omega,by omega,by omega,⟨λ_=>hne,λ_=>by omega⟩,hfew⟩
   | false =>
     obtain⟨a1,a2,a3,a4,a5⟩:=t6 ho;have hgr:s.r.gr=0:=h2 ho;rw[a1,a2,a3,a4,hgr];refine⟨⟨by omega,by omega,by omega,by omega,by omega,by omega,⟨λh=>absurd rfl h,λh=>by omega⟩⟩,by omega,by omega,by omega,by omega,⟨λh=>absurd rfl h,λh=>absurd h (by simp)⟩,by simp⟩
theorem XE(c:Cf)(ss:List Sg)(gs:List Gr)(l:List Cy)(hf:D6 ss gs)(hl:l.length<=1000000)(hc:H9 l):IX c.c6 c.c7 (-c.c6) c.c6 (CU c ss gs l):=by
 by_cases h:Dl (Dk c) c.c6 c.c8 ss gs
 ·rw[La hf h]
  exact Qo l ss gs (stU c ss gs) [] 0 (Lb hf h) Z.o hc
 ·rw[Lc h];trivial
set_option maxRecDepth 100000
theorem XF{c:Cf}{ss:List Sg}{gs:List Gr}{l:List Cy}(hf:D6 ss gs)(h:CU c ss gs l≠[]):(1<=c.c6/\c.c6<=16777216)/\1<=c.c7/\c.c7<=1048576:=by
 by_cases k:Dl (Dk c) c.c6 c.c8 ss gs
 ·have:=(Lb hf k).cf.in_
  exact⟨this.2.2.1,this.2.2.2.1⟩
 ·exact absurd (Lc k l) h
theorem XG(c:Cf)(ss:List Sg)(gs:List Gr)(es ds:List (List AV))(zQ:es=ss.map Ah)(zY:ds=gs.map Ak)(h6:I64 c.c6)(h7:I64 c.c7)(hsI:∀s,s∈ss->HV s)(hgI:∀g,g∈gs->HY g)(l:List Cy)(hb:∀c,c∈l->∀b,b∈c.1->Ar b)(rs:List (List AV))(yD:rs=l.map DJ) :
 A9 Tryz.prog 3 [.agg [c.c0,c.c1,c.c2,c.c3,c.c4,c.c5,c.c6,c.c7,c.c8,c.c9,c.c10,c.c11,c.c12,c.c13],.agg [.list 3 es,.list 5 ds],.list 2 rs] (· = .bool true):=by
 have hu:Up0 es:=by rw[zQ];exact Bu ss
 have hud:Up0 ds:=by rw[zY];exact Bv gs
 have hur:Up0 rs:=by rw[yD];exact HZ l
 have q0:=NY ss gs es ds zQ zY l rs yD;have q1:D6 ss gs->EU l->_:=λh1 h2=>Ld c ss gs es ds zQ zY hsI hgI h1 l (by have:=h2.n;omega) (NZ h2 hb) rs yD;have q2:=Na;have q3:D6 ss gs->EU l->_:=λh1 h2=>XE c ss gs l h1 (by have:=h2.n;omega) (Nb h2 hb);have q4:D6 ss gs->CU c ss gs l≠[]->(1<=c.c6/\c.c6<=16777216)/\1<=c.c7/\c.c7<=1048576:=λh1 h=>XF h1 h;have hfl:EU l->(CU c ss gs l).length<=400:=λh2=>by have:=Nc c ss gs l;have:=h2.n;omega
 obtain⟨fv,efv⟩:=Z.e (CU c ss gs l);rw[<- efv] at q1 q3 q4 hfl;obtain⟨U,eU⟩:=Z.e (fv.map Rp.row);have huU:Up0 U:=by rw[eU];exact JP fv
 rw[<- eU] at q1;obtain⟨c0,c1,c2,c3,c4,c5,c6,c7,c8,c9,c10,c11,c12,c13⟩:=c;simp only at q1 q3 q4 h6 h7;(refine A9.ofY Tryz.func3 (by kernel_rfl) (by kernel_rfl) (Z.w λzB _ yN _ zF zX _ _ _ _ _ _ zK _ _ _ _ _ _ _ hw zC zA yJ _ zI yM _ _ _ _ _ _ zH _ _ _ _ _ _ _ hz R hR=>?_));(conv=>arg 2;cbv);(generalize hP:Tryz.prog=P);cbv;refine Call.step (by rw[<- hP];exact q0) (by first|rfl|(repeat' (first|exact rfl|assumption|refine uc ?_ ?_|exact ul Z.m|refine ua ?_))) ?_;rintro r ⟨o,rfl,ho⟩;have n1:zF true=false:=by rw[zI];rfl
 have n2:zF false=true:=by rw[zI];rfl
 cases o with
 | false =>
   cbv;repeat' (first|(simp only[n1,n2];cbv)|(refine Call.s hP q2 ?_;cbv)|(refine AB.s hP q2 ?_;cbv)|fail)
   exact Z.r hR
 | true =>
   have q1:=q1 (ho rfl).1 (ho rfl).2;have q3:=q3 (ho rfl).1 (ho rfl).2;have hfl:=hfl (ho rfl).2;have q4:=q4 (ho rfl).1;clear q0 ho;cbv
   (obtain⟨N,eN,N0,Nn⟩:∃L:Int,zK U=L/\0<=L/\L.toNat=U.length:=⟨(U.length:Int),by rw[zH],Int.natCast_nonneg _,Int.toNat_natCast _⟩)
   have hUl:U.length=fv.length:=(by rw[eU];simp);repeat' (first|(simp only[n1,n2,eN];cbv)|(refine Call.s hP q1 ?_;cbv)|(refine AB.s hP q1 ?_;cbv)|fail)
   obtain⟨m6,em6⟩:=Z.f (yN .neg .i64 c6);have hm6:fv≠[]->m6 = -c6:=λh=>by have:=q4 h;rw[<- em6,yJ,Ha Z.o Z.o]
   have q3:IX c6 c7 m6 c6 fv:=by
    by_cases h:fv=[]
    ·rw[h];trivial
    ·rw[hm6 h];exact q3
   simp only[em6]
   refine Ae.data hw (S:=Int×Int×Int) (λs=>fr 146 [(3,.ref 0 14 0 0),(6,.bool false),(7,.ref 1 2 0 0),(24,.list 32 U),(25,N),(26,s.1)]) (λs=>[.live 14 [[c0,c1,c2,c3,c4,c5,c6,c7,c8,c9,c10,c11,c12,c13]],.live 2 [[s.2.1,s.2.2]]])
    (λs=>0<=s.1/\s.1<=N/\IX c6 c7 s.2.1 s.2.2 (fv.drop s.1.toNat)/\(fv≠[] -> -c6<=s.2.1/\s.2.1<=c6 /\ -c6<=s.2.2/\s.2.2<=c6)) (λs=>(N-s.1).toNat) (0,m6,c6) (by(refine Z.k (λj=>[0,2].getD j 0) ?_;cbv<;>exact Z.q)) ⟨Int.le_refl _,N0,by simpa using q3,λh=>by have:=hm6 h;have:=q4 h;simp only;omega⟩ ?_
   clear q1 q3
   rintro⟨i,a,b⟩ zJ Q' hN hE hR'
   have zJ:0<=i/\i<=N/\IX c6 c7 a b (fv.drop i.toNat)/\(fv≠[] -> -c6<=a/\a<=c6 /\ -c6<=b/\b<=c6):=zJ;obtain⟨zW,yZ,hlv,hab⟩:=zJ;by_cases yC:i<N
   rotate_left 1
   ·have ck:=W.nlt zA (show N<=i by omega)
    cbv;repeat' (first|(simp only[ck];cbv)|fail)
    refine hE _ _ _ ?_;cbv;repeat' (first|(simp only[ck];cbv)|(refine Call.s hP q2 ?_;cbv)|(refine AB.s hP q2 ?_;cbv)|fail)
    exact Z.r hR
   obtain⟨rp,hrp⟩:∃c,fv[i.toNat]?=some c:=⟨_,List.getElem?_eq_getElem (show i.toNat<fv.length by omega)⟩;have hfe:fv≠[]:=λh=>(by rw[h] at hrp;simp at hrp);have hab:=hab hfe;have q4:=q4 hfe;have hm6:=hm6 hfe;obtain⟨i2,ei2⟩:=Z.e (i+1);have hT:(N-i2).toNat<(N-i).toNat:=by omega
   have hdr:fv.drop i.toNat=rp::fv.drop i2.toNat:=by
    have h1:=(List.getElem?_eq_some_iff.1 hrp);rw[List.drop_eq_getElem_cons h1.1,h1.2,show i2.toNat=i.toNat+1 by omega]
   rw[hdr] at hlv;obtain⟨hL,hb⟩:LY c6 c7 a b rp/\IX c6 c7 rp.sl rp.sh (fv.drop i2.toNat):=hlv;obtain⟨RT,eRT⟩:=Z.e (rp.rt.map D7);have zL:U[i.toNat]?=some (rp.rowL (.list 1 RT)):=(by rw[eU,List.getElem?_map,hrp,eRT];rfl);have huRT:Up0 RT:=(by rw[eRT];exact JQ _);have hRl:RT.length=rp.rt.length:=(by rw[eRT];simp);unfold LY at hL;rw[<- hRl] at hL;obtain⟨⟨l1,l2,l3,l4,l5,l6,l7⟩,m1,m2,m3,m4,m5,m7⟩:=hL;clear eRT hrp hdr hRl hfe;obtain⟨z0,z1,z2,z3,z4,z5,z6,z7,z8,z9,zz,z11,z12,z13,z14,z15,z16,z17,z18,z19,z20,z21,z22,z23,z24,z25,z26,z27,z28,z29,z30,z31⟩:=rp;simp only[Rp.rowL] at zL hb l1 l2 l3 l4 l5 l6 l7 m1 m2 m3 m4 m5 m7;have a4:zB .add .i64 i 1=i2:=(by rw[zC,Ag Z.o Z.o,ei2]);have ck:=W.lt zA yC;obtain⟨x1,ex1⟩:=Z.e (a-c7);obtain⟨x2,ex2⟩:=Z.e (b+c7);have a5:zB .sub .i64 a c7=x1:=(by rw[zC,Bj Z.o Z.o,ex1]);have a6:zB .add .i64 b c7=x2:=by rw[zC,Ag Z.o Z.o,ex2]
   (obtain⟨M,eM,M0,Mn⟩:∃L:Int,zK RT=L/\0<=L/\L.toNat=RT.length:=⟨(RT.length:Int),by rw[zH],Int.natCast_nonneg _,Int.toNat_natCast _⟩)
   have d1:=W.ngt zA l1;have d2:=W.ngt zA l2;have d3:=W.ngt zA l3;have d4:=W.ngt zA l4;have d5:=W.nlt zA l5;have d6:=W.ngt zA l6;have d7:=W.nlt zA (show m6<=z6 by omega);have d8:=W.ngt zA m2;have d9:=W.nlt zA (show x1<=z6 by omega);have e1:=W.ngt zA (show z7<=x2 by omega);have e2:=W.ngt zA (show M<=16 by omega);have t1:zX false false=true:=(by rw[yM];rfl);have t2:zX true true=true:=(by rw[yM];rfl);have n1:zF true=false:=(by rw[zI];rfl);have n2:zF false=true:=(by rw[zI];rfl);by_cases hg:z2=0
   ·have g1:=W.nne zA hg
    have g2:=W.neq zA (show z1≠2 by omega);have g3:=W.neq zA (show z1≠3 by omega);have g4:=W.ngt zA (show M<=0 by omega);clear hUl eU l7 m5;cbv;repeat' (first|(simp only[ck,n1,n2,d1,d2,d3,d4,d5,d6,d7,d8,d9,e1,e2,eM,em6,g1,g2,g3,g4,t1,t2,a4,a5,a6];cbv)|(refine Idx.mk _ zW zL ?_;cbv)|(refine InN.mk Z.d Z.d ?_;(try cbv))|fail)
    refine hN (i2,z6,z7) _ _ ?_ ⟨Z.t,Z.t,hb,λ_=>by(try simp only);omega⟩ hT;exact Z.i
   have g1:=W.ne zA hg;have g4:=W.gt zA (show 0<M by omega);by_cases hm2:z1=2
   ·have g2:=W.eq zA hm2
    clear hUl eU l7 m5;cbv;repeat' (first|(simp only[ck,n1,n2,d1,d2,d3,d4,d5,d6,d7,d8,d9,e1,e2,eM,em6,g1,g2,g4,t1,t2,a4,a5,a6];cbv)|(refine Idx.mk _ zW zL ?_;cbv)|(refine InN.mk Z.d Z.d ?_;(try cbv))|fail)
    refine hN (i2,z6,z7) _ _ ?_ ⟨Z.t,Z.t,hb,λ_=>by(try simp only);omega⟩ hT;exact Z.i
   ·have g2:=W.neq zA hm2
    have g3:=W.eq zA (show z1=3 by omega);clear hUl eU l7 m5;cbv;repeat' (first|(simp only[ck,n1,n2,d1,d2,d3,d4,d5,d6,d7,d8,d9,e1,e2,eM,em6,g1,g2,g3,g4,t1,t2,a4,a5,a6];cbv)|(refine Idx.mk _ zW zL ?_;cbv)|(refine InN.mk Z.d Z.d ?_;(try cbv))|fail)
    refine hN (i2,z6,z7) _ _ ?_ ⟨Z.t,Z.t,hb,λ_=>by(try simp only);omega⟩ hT;exact Z.i
end Go.Proofs.YtlchlddijclhjaaGreat
set_option maxRecDepth 100000
namespace Go.Proofs.YtlchlddijclhjaaGreat
open Go Go.RowKit Go.Eng
theorem walk_WholeTotal(x0 x1 x2:AV)(h0:TyV Tryz.prog 8 23 x0)(h1:TyV Tryz.prog 8 27 x1)(h2:TyV Tryz.prog 8 28 x2):A9 Tryz.prog 3 [x0,x1,x2] (λr=>r = .bool true):=by
 obtain⟨c,rfl,h6,h7,_⟩:=Nf x0 h0;obtain⟨ss,gs,rfl,hs,hg⟩:=Ng x1 h1;obtain⟨l,rfl,hb⟩:=Nh x2 h2;exact XG c ss gs _ _ rfl rfl h6 h7 hs hg l hb _ rfl
end Go.Proofs.YtlchlddijclhjaaGreat
