/- Parts of the proofs. -/
import Derived.Test.YtlchlddijclhjaaGreatS16
import Derived.Test.YtlchlddijclhjaaGreatS8
import Derived.Test.YtlchlddijclhjaaGreatS17
import Derived.Test.YtlchlddijclhjaaGreatS28
import Derived.Test.YtlchlddijclhjaaGreatS29
import Derived.Test.YtlchlddijclhjaaGreatS19
import Derived.Test.YtlchlddijclhjaaGreatS22
import Derived.Test.YtlchlddijclhjaaGreatS9
import Derived.KernelRfl
import Derived.Test.YtlchlddijclhjaaGreatS10
import Derived.Test.YtlchlddijclhjaaGreatSZ
set_option linter.unusedVariables false
set_option linter.unusedSimpArgs false
set_option maxHeartbeats 4000000
namespace Go.Proofs.YtlchlddijclhjaaGreat
open Go Go.RowKit Go.Eng
set_option maxRecDepth 100000
structure q1K(s:Sg):Prop where
 len:I64 s.len
 ps:∀p,p∈s.ps->I64 p.1/\I64 p.2
 nx:∀n,n∈s.nx->I64 n
structure q1M(g:Gr):Prop where
 id:I64 g.id
 seg:I64 g.seg
 off:I64 g.off
 acc:I64 g.acc
 sl:I64 g.sl
end Go.Proofs.YtlchlddijclhjaaGreat
namespace Go.Eng
open Go Go.RowKit
theorem k06.pre{P:Program}{g:FuncId}{args args':List AV}{K:AV->k00->Prop}(H:k06 P g args' [] K)(ha:VwL [] args args'):k06 P g args [] K:=
 ⟨H.1,λC vs hC RC hv=>H.2 C vs hC RC (by
   have h:=VwL.vrs (C:=C) (by rw[hC];exact ha) RC hv;have e:({ C with h:=[] }:Cfg)=C:=(by cases C;simp only at hC;subst hC;rfl);rw[e] at h;exact h)⟩
end Go.Eng
namespace Go.Proofs.YtlchlddijclhjaaGreat
open Go Go.RowKit Go.Eng
set_option maxRecDepth 100000
theorem k02.of_call4{P:Program}{g:FuncId}{args:List AV}{R:AV->Prop}(H:k06 P g args [] (λr hD=>R r/\hD=[])):k02 P g args R:=
 ⟨H.1,λC vs hC RC hv=>(H.2 C vs hC RC hv).mono λe w' ⟨v,r,D,h1,⟨h2,h3⟩,h4,h5,h6,h7,_⟩=>⟨v,r,D,h1,h2,h3,h4,h5,h6,h7⟩⟩
def cfZ:Cf:=⟨0,0,0,0,0,0,0,0,0,0,0,0,0,0⟩
theorem newZ:kKM cfZ [] = .br 0:=kD6 λss gs h=>absurd (kA0 h.2.wr).1.1 Z.d
theorem kDK(cy:Int)(hcy:0<=cy/\cy<=1000000000)(com:Bool) :
 k06 Tryz.prog 20 [.ref 0 55 0 0,.nils,com] [.live 55 [brN cy]] (λr hp=>r = .agg (rp0 cy).row/\∃j,hp = .live 55 [brN (cy+1)]::j):=by
 refine k06.mono (k06.give (h':=[.live 55 [brN (cy+1)]]) (r':=.agg (rp0 cy).row) ?_) (λr h hh=>⟨hh.1,[],hh.2⟩);obtain⟨cy1,ecy⟩:=Z.f (cy+1);rw[ecy];have f1:k05 .add .i64 cy 1=cy1:=by rw[k0S Z.o Z.o];exact ecy
 clear hcy ecy;(refine k06.ofP (F:=[6,19]) (sc:=?scc) (r:=?rr) Tryz.func20 (by kernel_rfl) rfl ?hr ?hc (by kernel_rfl) λw hw=>?H);(case hr=>((conv=>lhs;cbv);(try exact rfl)));(case hc=>((repeat' (first|refine' k7D ?_ ?_|refine' k3F ?_|refine' k4U ?_|refine' k25 (id:=6) q1V rfl (by kernel_rfl) ?_|refine' k25 (id:=19) kUX rfl (by kernel_rfl) ?_|fail));(try any_goals (conv=>lhs;cbv));(try any_goals exact rfl)));(obtain⟨zA,zG,yT,zD,zF,zW,yR,zN,zQ,zP,yC,zZ,zV,zT,zK,zM,zO,yE,zS,yF⟩:=w);(have zC:=Z.w1 hw);(have zB:=Z.w2 hw);(have yM:=Z.w3 hw);(have zH:=Z.w4 hw);(have zI:=Z.w5 hw);(have yK:=Z.w6 hw);(have yU:=Z.w7 hw);(have zX:=Z.w8 hw);(have yB:=Z.w9 hw);(have yA:=Z.w10 hw);(have yQ:=Z.w11 hw);(have yP:=Z.w12 hw);(have zE:=Z.w13 hw);(have yO:=Z.w14 hw);(have zR:=Z.w15 hw);(have yD:=Z.w16 hw);(have yI:=Z.w17 hw);(have yW:=Z.w18 hw);(have yN:=Z.w19 hw);(have yX:=Z.w20 hw);(have hz:=Z.z hw);(conv=>arg 4;cbv);(generalize hP:Tryz.prog=P);cbv;have f1:zA .add .i64 cy 1=cy1:=by rw[zC];exact f1
 simp only[f1];have hu0:Up0 ([]:List (List AV)):=⟨rfl⟩;refine WkB.mk ?_;(refine Z.n (λi=>i) ?_;cbv<;>exact Z.q)
theorem kCJ(cy:Int):k06 Tryz.prog 18 [.ref 0 55 0 0] [.live 55 [brN cy]] (λr hp=>r = .bool true/\∃j,hp = .live 55 [brN cy]::j):=by
 refine k06.mono (k06.give (h':=[.live 55 [brN cy]]) (r':=.bool true) ?_) (λr h hh=>⟨hh.1,[],hh.2⟩);(refine k06.ofI Tryz.func18 (by kernel_rfl) (by kernel_rfl) (Z.w λzA zG yT zD zF zW yR zN zQ zP yC zZ zV zT zK zM zO yE zS yF hw zC zB yM zH zI yK yU zX yB yA yQ yP zE yO zR yD yI yW yN yX hz=>?_));(conv=>arg 2;cbv);(generalize hP:Tryz.prog=P);cbv;have hu0:Up0 ([]:List (List AV)):=⟨rfl⟩;refine WkB.mk ?_;(refine Z.n (λi=>i) ?_;cbv<;>exact Z.q)
theorem kCK:k02 Tryz.prog 13 [] (· = .bool true):=by
 have qn:=kO0 cfZ [] (λb hb=>by cases hb) Z.d [] rfl;rw[newZ] at qn;refine k02.of_call4 (k06.give ?_);(refine k06.ofT (F:=[2]) (sc:=?scc) (r:=?rr) Tryz.func13 (by kernel_rfl) rfl ?hr ?hc (by kernel_rfl) λw hw=>?H);(case hr=>((conv=>lhs;cbv);(try exact rfl)));(case hc=>((repeat' (first|refine' kIS ?_ ?_|refine' kA9 ?_|refine' kIU ?_|refine' kDO ?_|refine' kIT ?_|refine' k7D ?_ ?_|refine' k3F ?_|refine' k4U ?_|refine' q2I (id:=2) rfl ?_|refine' kSR (id:=_) rfl ?_|fail));(try any_goals (conv=>lhs;cbv));(try any_goals exact rfl)));(obtain⟨zA,zG,yT,zD,zF,zW,yR,zN,zQ,zP,yC,zZ,zV,zT,zK,zM,zO,yE,zS,yF⟩:=w);(have zC:=Z.w1 hw);(have zB:=Z.w2 hw);(have yM:=Z.w3 hw);(have zH:=Z.w4 hw);(have zI:=Z.w5 hw);(have yK:=Z.w6 hw);(have yU:=Z.w7 hw);(have zX:=Z.w8 hw);(have yB:=Z.w9 hw);(have yA:=Z.w10 hw);(have yQ:=Z.w11 hw);(have yP:=Z.w12 hw);(have zE:=Z.w13 hw);(have yO:=Z.w14 hw);(have zR:=Z.w15 hw);(have yD:=Z.w16 hw);(have yI:=Z.w17 hw);(have yW:=Z.w18 hw);(have yN:=Z.w19 hw);(have yX:=Z.w20 hw);(have hz:=Z.z hw);(conv=>arg 4;cbv);(generalize hP:Tryz.prog=P);cbv;have hu:∀cy,Up0 [brN cy]:=λcy=>⟨rfl⟩;have p0:=kDK 0 Z.d false;have p1:=kDK 1 Z.d true;have p2:=kDK 2 Z.d false;have p3:=kCJ 3;have d1:zG .eql 2 2=true:=W.eq zB rfl;have d2:zG .eql 4 4=true:=W.eq zB rfl;refine Call.fresh hP (k06.pre qn ?_) (hu 0) rfl ?_
 ·exact⟨Vw.same rfl,Vw.nil 1,trivial⟩
 cbv;repeat' (first|(simp only[d1,d2];cbv)|(refine Call.o (s:=0) hP p0 (hu 0) (hu 1) rfl rfl rfl rfl ?_;cbv)|(refine Call.o (s:=0) hP p1 (hu 1) (hu 2) rfl rfl rfl rfl ?_;cbv)|(refine Call.o (s:=0) hP p2 (hu 2) (hu 3) rfl rfl rfl rfl ?_;cbv)|(refine Call.o (s:=0) hP p3 (hu 3) (hu 3) rfl rfl rfl rfl ?_;cbv)|fail)
 refine WkB.mk ?_;exact Z.i
theorem kFD(l:List Cy)(rs:List (List AV))(yL:rs=l.map kFI):k02 Tryz.prog 14 [.list 2 rs] (λr=>∃o:Bool,r = .bool o/\(o=true->FewC l)):=by
 have hur:Up0 rs:=by rw[yL];exact kUE l
 have hrl:rs.length=l.length:=by rw[yL];simp
 refine Z.y Tryz.func14 λzA _ _ _ _ _ hw zC zB _ _ _ zE hz R hR P hP=>?_;cbv;obtain⟨N,eN,N0,Nn⟩:=Z.l zE rs;have hF:R (.bool false):=hR _ ⟨_,rfl,λh=>by cases h⟩;by_cases h3:400<N
 ·have d3:=W.gt zB h3
  repeat' (first|(simp only[eN,d3];cbv)|fail)
  exact⟨_,Vw.same rfl,hF⟩
 have d3:=W.ngt zB (show N<=400 by omega);repeat' (first|(simp only[eN,d3];cbv)|fail)
 refine k1Q.data hw (S:=Int) (λi=>fr 32 [(2,.bool false),(10,.list 2 rs),(11,N),(12,i)]) (λ_=>[])
  (λi=>0<=i/\i<=N/\∀j,j<i.toNat->∀c,l[j]?=some c->c.1.length<=50/\∀b,b∈c.1->b.length<=300) (λi=>(N-i).toNat) 0 Z.i ⟨Int.le_refl _,N0,λj hj=>by simp at hj⟩ ?_
 rintro i zJ Q' hN hE hR';have zJ:0<=i/\i<=N/\∀j,j<i.toNat->∀c,l[j]?=some c->c.1.length<=50/\∀b,b∈c.1->b.length<=300:=zJ;obtain⟨yJ,yZ,hcc⟩:=zJ;by_cases yH:i<N
 rotate_left 1
 ·have ck:=W.nlt zB (show N<=i by omega)
  have hcA:∀c,c∈l->c.1.length<=50/\∀b,b∈c.1->b.length<=300:=λs hs=>by
   obtain⟨j,hj⟩:=List.mem_iff_getElem?.1 hs;exact hcc j (by have:=(List.getElem?_eq_some_iff.1 hj).1;omega) s hj
  clear hcc;cbv;repeat' (first|(simp only[ck];cbv)|fail)
  refine hE _ _ _ ?_;cbv;exact⟨_,Vw.same rfl,hR _ ⟨_,rfl,λ_=>⟨by omega,hcA⟩⟩⟩
 obtain⟨⟨bs,cm⟩,hs⟩:∃s,l[i.toNat]?=some s:=⟨_,List.getElem?_eq_getElem (show i.toNat<l.length by omega)⟩;obtain⟨br,ebr⟩:=Z.e (bs.map k73);have hubr:Up0 br:=by rw[ebr];exact kCR bs
 have zL:rs[i.toNat]?=some [.list 1 br,.bool cm]:=by rw[yL,List.getElem?_map,hs,ebr];rfl
 have hbl:br.length=bs.length:=by rw[ebr];simp
 obtain⟨i2,ei2⟩:=Z.e (i+1);have hT:(N-i2).toNat<(N-i).toNat:=by omega
 have yS:bs.length<=50->(∀b,b∈bs->b.length<=300)->∀j,j<i2.toNat->∀c,l[j]?=some c->c.1.length<=50/\∀b,b∈c.1->b.length<=300:=λa b j hj s hsj=>by
  by_cases hji:j=i.toNat
  ·rw[hji,hs] at hsj
   cases hsj
   exact⟨a,b⟩
  ·exact hcc j Z.o s hsj
 obtain⟨K,eK,K0,Kn⟩:=Z.l zE br;have ck:=W.lt zB yH;have a5:zA .add .i64 i 1=i2:=by rw[zC,k0S Z.o Z.o,ei2]
 clear hs;by_cases k1:50<K
 ·have e1:=W.gt zB k1
  cbv;repeat' (first|(simp only[ck,eK,e1];cbv)|(refine Idx.mk _ yJ zL ?_;cbv)|fail)
  exact hR' _ _ ⟨_,Vw.same rfl,hF⟩
 have e1:=W.ngt zB (show K<=50 by omega);cbv;repeat' (first|(simp only[ck,eK,e1];cbv)|(refine Idx.mk _ yJ zL ?_;cbv)|fail)
 refine k1Q.data hw (S:=Int) (λj=>fr 32 [(2,.bool false),(10,.list 2 rs),(11,N),(12,i),(21,.list 1 br),(22,K),(23,j)]) (λ_=>[])
  (λj=>0<=j/\j<=K/\∀q,q<j.toNat->∀b,bs[q]?=some b->b.length<=300) (λj=>(K-j).toNat) 0 Z.i ⟨Int.le_refl _,K0,λj hj=>by simp at hj⟩ ?_
 rintro j yV Q2 hN2 hE2 hR2;have yV:0<=j/\j<=K/\∀q,q<j.toNat->∀b,bs[q]?=some b->b.length<=300:=yV;obtain⟨hj0,hj1,hbb⟩:=yV;by_cases hjn:j<K
 rotate_left 1
 ·have d2:=W.nlt zB (show K<=j by omega)
  have hbA:∀b,b∈bs->b.length<=300:=λs hs=>by
   obtain⟨q,hq⟩:=List.mem_iff_getElem?.1 hs;exact hbb q (by have:=(List.getElem?_eq_some_iff.1 hq).1;omega) s hq
  have yS:=yS Z.o hbA;clear hbb hbA;cbv;repeat' (first|(simp only[d2];cbv)|fail)
  refine hE2 _ _ _ ?_;cbv;repeat' (first|(simp only[a5];cbv)|fail)
  refine hN i2 _ _ ?hx ?hi hT
  case hx=>exact Z.i
  case hi=>exact⟨by omega,by omega,yS⟩
 obtain⟨b,hb⟩:∃s,bs[j.toNat]?=some s:=⟨_,List.getElem?_eq_getElem (show j.toNat<bs.length by omega)⟩;obtain⟨bb,ebb⟩:=Z.e (b.map k15);have hubb:Up0 bb:=by rw[ebb];exact k2R b
 have hrowb:br[j.toNat]?=some [.list 1 bb]:=by rw[ebr,List.getElem?_map,hb,ebb];rfl
 have hbbl:bb.length=b.length:=by rw[ebb];simp
 obtain⟨j2,ej2⟩:=Z.e (j+1);have hT2:(K-j2).toNat<(K-j).toNat:=by omega
 have hnb:b.length<=300->∀q,q<j2.toNat->∀b,bs[q]?=some b->b.length<=300:=λa q hq s hsj=>by
  by_cases hji:q=j.toNat
  ·rw[hji,hb] at hsj
   cases hsj
   exact a
  ·exact hbb q Z.o s hsj
 obtain⟨M,eM,M0,Mn⟩:=Z.l zE bb;have d2:=W.lt zB hjn;have a6:zA .add .i64 j 1=j2:=by rw[zC,k0S Z.o Z.o,ej2]
 clear hb hbb;by_cases k2:300<M
 ·have e2:=W.gt zB k2
  cbv;repeat' (first|(simp only[d2,eM,e2];cbv)|(refine Idx.mk _ hj0 hrowb ?_;cbv)|fail)
  refine hR2 _ _ ?_;refine hR' _ _ ⟨_,Vw.same rfl,hF⟩
 have e2:=W.ngt zB (show M<=300 by omega);have hnb:=hnb Z.o;cbv;repeat' (first|(simp only[d2,eM,e2,a6];cbv)|(refine Idx.mk _ hj0 hrowb ?_;cbv)|fail)
 refine hN2 j2 _ _ ?hx2 ?hi2 hT2
 case hx2=>exact Z.i
 case hi2=>exact⟨by omega,by omega,hnb⟩
structure k5Y(ss:List Sg)(gs:List Gr):Prop where
 n:ss.length+gs.length<=100
 l:∀s,s∈ss->s.ps.length+s.nx.length<=600
theorem kFF(ss:List Sg)(gs:List Gr)(es ds:List (List AV))(zU:es=ss.map k0Y)(yG:ds=gs.map k14)(hsl:ss.length<=140737488355328)(hgl:gs.length<=140737488355328)(hpl:∀s,s∈ss->s.ps.length<=140737488355328/\s.nx.length<=140737488355328):k02 Tryz.prog 24 [.agg [.list 3 es,.list 5 ds]] (λr=>∃o:Bool,r = .bool o/\(o=false->k5Y ss gs)):=by
 have hu:Up0 es:=by rw[zU];exact k42 ss
 have hud:Up0 ds:=by rw[yG];exact k43 gs
 have hel:es.length=ss.length:=by rw[zU];simp
 have hdl:ds.length=gs.length:=by rw[yG];simp
 refine Z.y Tryz.func24 λzA _ _ _ _ _ hw zC zB _ _ _ zE hz R hR P hP=>?_;cbv;obtain⟨L,eL,L0,Ln⟩:=Z.l zE es;obtain⟨J,eJ,J0,Jn⟩:=Z.l zE ds;obtain⟨n0,en0⟩:=Z.e (L+J);have a0:zA .add .i64 L J=n0:=by rw[zC,k0S Z.o Z.o,en0]
 have hT:R (.bool true):=hR _ ⟨_,rfl,λh=>by cases h⟩;by_cases h1:100<n0
 ·have d1:=W.gt zB h1
  repeat' (first|(simp only[eL,eJ,a0,d1];cbv)|fail)
  exact⟨_,Vw.same rfl,hT⟩
 have d1:=W.ngt zB (show n0<=100 by omega);repeat' (first|(simp only[eL,eJ,a0,d1];cbv)|fail)
 refine k1Q.data hw (S:=Int×Int) (λs=>fr 34 [(2,.bool false),(3,s.2),(16,.list 3 es),(17,L),(18,s.1)]) (λ_=>[])
  (λs=>0<=s.1/\s.1<=L/\0<=s.2/\s.2<=600/\∀j,j<s.1.toNat->∀x,ss[j]?=some x->x.ps.length+x.nx.length<=600) (λs=>(L-s.1).toNat) (0,n0) Z.i ⟨Int.le_refl _,L0,by simp only;omega,by simp only;omega,λj hj=>by simp at hj⟩ ?_
 rintro⟨i,n⟩ zJ Q' hN hE hR'
 have zJ:0<=i/\i<=L/\0<=n/\n<=600/\∀j,j<i.toNat->∀x,ss[j]?=some x->x.ps.length+x.nx.length<=600:=zJ;obtain⟨yJ,yZ,hn0,hn1,hss⟩:=zJ;by_cases yH:i<L
 ·obtain⟨⟨len,ps,nx⟩,hs⟩:∃s,ss[i.toNat]?=some s:=⟨_,List.getElem?_eq_getElem (show i.toNat<ss.length by omega)⟩
  obtain⟨pq,epq⟩:=Z.e (ps.map k1E);obtain⟨xn,exn⟩:=Z.e (nx.map k0K);have hupq:Up0 pq:=(by rw[epq];exact k7F ps);have huxn:Up0 xn:=(by rw[exn];exact k3K nx);have zL:es[i.toNat]?=some [jz len,.list 2 pq,.list 1 xn]:=(by rw[zU,List.getElem?_map,hs,epq,exn];rfl);have hpq:pq.length=ps.length:=(by rw[epq];simp);have hxl:xn.length=nx.length:=(by rw[exn];simp);have hps:=hpl _ (List.mem_of_getElem? hs);simp only at hps;obtain⟨i2,ei2⟩:=Z.e (i+1);have hT2:(L-i2).toNat<(L-i).toNat:=(by omega);obtain⟨K,eK,K0,Kn⟩:=Z.l zE pq;obtain⟨M,eM,M0,Mn⟩:=Z.l zE xn;obtain⟨w1,ew1⟩:=Z.e (K+M);obtain⟨w2,ew2⟩:=Z.e (n+w1);have a1:zA .add .i64 K M=w1:=(by rw[zC,k0S Z.o Z.o,ew1]);have a2:zA .add .i64 n w1=w2:=(by rw[zC,k0S Z.o Z.o,ew2]);have ck:=W.lt zB yH;have a5:zA .add .i64 i 1=i2:=(by rw[zC,k0S Z.o Z.o,ei2]);by_cases k1:600<w2
  ·have e1:=W.gt zB k1
   cbv;repeat' (first|(simp only[ck,eK,eM,a1,a2,e1];cbv)|(refine Idx.mk _ yJ zL ?_;cbv)|fail)
   exact hR' _ _ ⟨_,Vw.same rfl,hT⟩
  have e1:=W.ngt zB (show w2<=600 by omega)
  have yS:∀j,j<i2.toNat->∀x,ss[j]?=some x->x.ps.length+x.nx.length<=600:=λj hj s hsj=>by
   by_cases hji:j=i.toNat
   ·rw[hji,hs] at hsj
    cases hsj
    simp only;omega
   ·exact hss j Z.o s hsj
  clear hs hss;cbv;repeat' (first|(simp only[ck,eK,eM,a1,a2,e1,a5];cbv)|(refine Idx.mk _ yJ zL ?_;cbv)|fail)
  refine hN (i2,w2) _ _ ?_ ⟨Z.t,Z.t,Z.t,Z.t,yS⟩ hT2;exact Z.i
 ·have ck:=W.nlt zB (show L<=i by omega)
  have hsA:∀s,s∈ss->s.ps.length+s.nx.length<=600:=λs hs=>by
   obtain⟨j,hj⟩:=List.mem_iff_getElem?.1 hs;exact hss j (by have:=(List.getElem?_eq_some_iff.1 hj).1;omega) s hj
  clear hss;cbv;repeat' (first|(simp only[ck];cbv)|fail)
  refine hE _ _ _ ?_;cbv;exact⟨_,Vw.same rfl,hR _ ⟨_,rfl,λ_=>⟨by omega,hsA⟩⟩⟩
theorem k02.of_call{P:Program}{g:FuncId}{args:List AV}{R:AV->Prop}(H:k06 P g args [] (λr hD=>R r/\hD=[])):k02 P g args R:=
 ⟨H.1,λC vs hC RC hv=>(H.2 C vs hC RC hv).mono λe w' ⟨v,r,D,h1,⟨h2,h3⟩,h4,h5,h6,h7,_⟩=>⟨v,r,D,h1,h2,h3,h4,h5,h6,h7⟩⟩
theorem kDD{α: Type}{f: α -> List Int}{k:Nat}:∀ {l:List α},(∀a,a∈l->(f a).length<=k)->(l.flatMap f).length<=k*l.length
 | [],_=>by simp
 | a::l,h=>by
   have h1:=h a List.mem_cons_self;have h2:=kDD (l:=l) λx hx=>h x (List.mem_cons_of_mem _ hx);rw[List.flatMap_cons,List.length_append,List.length_cons,Nat.mul_succ];omega
end Go.Proofs.YtlchlddijclhjaaGreat
set_option maxRecDepth 100000
namespace Go.Proofs.YtlchlddijclhjaaGreat
open Go Go.RowKit Go.Eng
theorem k4J{D:Type}{f:D->List AV}{p:D->Prop}:∀ {es:List (List AV)},(∀r,r∈es->∃d,r=f d/\p d)->∃ds:List D,es=ds.map f/\∀d,d∈ds->p d
 | [],_=>⟨[],rfl,λd hd=>by cases hd⟩
 | r::es,h=>by
   obtain⟨d,h1,h2⟩:=h r (by simp);obtain⟨ds,h3,h4⟩:=k4J (es:=es) λx hx=>h x (by simp[hx])
   exact⟨d::ds,by rw[h1,h3];rfl,λx hx=>by
    rcases List.mem_cons.1 hx with rfl|hx
    ·exact h2
    ·exact h4 x hx⟩
theorem q1N{n:Int}(h:(Lit.int .u8 n).wf=true):0<=n/\n<=255:=by
 simp[Lit.wf,IntKind.min,IntKind.max,IntKind.bits,IntKind.signed] at h;omega
theorem kPL{l:List Sh}{xs:List AV}(h:OkL (.list 1 [.int .u8]::l) xs):∃(b:List Int) (y:List AV),xs = .list 1 (b.map k15)::y/\b.length<=kEV/\k0H b/\OkL l y:=by
 obtain⟨es,y,rfl,hl,hr,k⟩:=k7I h
 obtain⟨b,rfl,hb⟩:=k4J (f:=k15) (p:=λb=>0<=b/\b<=255) (es:=es) λr hrr=>by
  obtain⟨n,_,rfl,hw,k1⟩:=k2A (hr r hrr);obtain rfl:=k7A k1;exact⟨n,rfl,q1N hw⟩
 exact⟨b,y,rfl,by simpa using hl,hb,k⟩
theorem kPK{l:List Sh}{xs:List AV}(h:OkL (.list 1 [.list 1 [.int .u8]]::l) xs):∃(b:List (List Int)) (y:List AV),xs = .list 1 (b.map k73)::y/\b.length<=kEV/\(∀x,x∈b->k0H x/\x.length<=kEV)/\OkL l y:=by
 obtain⟨es,y,rfl,hl,hr,k⟩:=k7I h
 obtain⟨b,rfl,hb⟩:=k4J (f:=k73) (p:=λx=>k0H x/\x.length<=kEV) (es:=es) λr hrr=>by
  obtain⟨b,_,rfl,h1,h2,k1⟩:=kPL (hr r hrr);obtain rfl:=k7A k1;exact⟨b,rfl,h2,h1⟩
 exact⟨b,y,rfl,by simpa using hl,hb,k⟩
theorem kKL{n:Int}(h:(Lit.int .i64 n).wf=true):I64 n:=by
 have:=wf64 h;unfold I64;omega
theorem kHL(x:AV)(h:TyV Tryz.prog 8 23 x):∃c:Cf,x = .agg [jz c.c0,jz c.c1,jz c.c2,jz c.c3,jz c.c4,jz c.c5,jz c.c6,jz c.c7,jz c.c8,jz c.c9,jz c.c10,jz c.c11,jz c.c12,jz c.c13]/\I64 c.c6/\I64 c.c7/\I64 c.c12:=by
 obtain⟨cs,rfl,hx⟩:=h.agg (by kernel_rfl) (show kJF Tryz.prog 8 23=some [.int .i64,.int .i64,.int .i64,.int .i64,.int .i64,.int .i64,.int .i64,.int .i64,.int .i64,.int .i64,.int .i64,.int .i64,.int .i64,.int .i64] from by kernel_rfl);obtain⟨c0,_,rfl,_,hx⟩:=k2A hx;obtain⟨c1,_,rfl,_,hx⟩:=k2A hx;obtain⟨c2,_,rfl,_,hx⟩:=k2A hx;obtain⟨c3,_,rfl,_,hx⟩:=k2A hx;obtain⟨c4,_,rfl,_,hx⟩:=k2A hx;obtain⟨c5,_,rfl,_,hx⟩:=k2A hx;obtain⟨c6,_,rfl,h6,hx⟩:=k2A hx;obtain⟨c7,_,rfl,h7,hx⟩:=k2A hx;obtain⟨c8,_,rfl,_,hx⟩:=k2A hx;obtain⟨c9,_,rfl,_,hx⟩:=k2A hx;obtain⟨c10,_,rfl,_,hx⟩:=k2A hx;obtain⟨c11,_,rfl,_,hx⟩:=k2A hx;obtain⟨c12,_,rfl,h12,hx⟩:=k2A hx;obtain⟨c13,_,rfl,_,hx⟩:=k2A hx;obtain rfl:=k7A hx;exact⟨⟨c0,c1,c2,c3,c4,c5,c6,c7,c8,c9,c10,c11,c12,c13⟩,rfl,kKL h6,kKL h7,kKL h12⟩
end Go.Proofs.YtlchlddijclhjaaGreat
set_option maxRecDepth 100000
namespace Go.Proofs.YtlchlddijclhjaaGreat
open Go Go.RowKit Go.Eng
theorem kBW(x:AV)(h:TyV Tryz.prog 8 80 x):∃(ss:List Sg) (gs:List Gr),x = .agg [.list 3 (ss.map k0Y),.list 5 (gs.map k14)]/\(∀s,s∈ss->q1K s)/\(∀g,g∈gs->q1M g)/\ss.length<=140737488355328/\gs.length<=140737488355328/\∀s,s∈ss->s.ps.length<=140737488355328/\s.nx.length<=140737488355328:=by
 obtain⟨cs,rfl,k0⟩:=h.agg (by kernel_rfl) (show kJF Tryz.prog 8 80=some [.list 3 [.int .i64,.list 2 [.int .i64,.int .i64],.list 1 [.int .i64]],.list 5 [.int .i64,.int .i64,.int .i64,.int .i64,.int .i64]] from by kernel_rfl);clear h;obtain⟨es,_,rfl,hl1,hr,k1⟩:=k7I k0;obtain⟨ds,_,rfl,hl2,hs,k2⟩:=k7I k1;obtain rfl:=k7A k2;clear k0 k1 k2
 obtain⟨ss,rfl,hss⟩:=k4J (f:=k0Y) (p:=λs=>q1K s/\s.ps.length<=140737488355328/\s.nx.length<=140737488355328) (es:=es) λr hrr=>by
  have k0:=hr r hrr;clear hr hrr;obtain⟨len,_,rfl,hl,k1⟩:=k2A k0;obtain⟨ps,_,rfl,hl3,hp,k2⟩:=k7I k1;obtain⟨ns,_,rfl,hl4,hn,k3⟩:=k7I k2;obtain rfl:=k7A k3;clear k0 k1 k2 k3
  obtain⟨qs,rfl,hqs⟩:=k4J (f:=k1E) (p:=λp=>I64 p.1/\I64 p.2) (es:=ps) λr hrr=>by
   have k0:=hp r hrr;clear hp hrr;obtain⟨a,_,rfl,ha,k1⟩:=k2A k0;obtain⟨b,_,rfl,hb,k2⟩:=k2A k1;obtain rfl:=k7A k2;exact⟨(a,b),rfl,kKL ha,kKL hb⟩
  obtain⟨ms,rfl,hms⟩:=k4J (f:=k0K) (p:=λn=>I64 n) (es:=ns) λr hrr=>by
   have k0:=hn r hrr;clear hn hrr;obtain⟨a,_,rfl,ha,k1⟩:=k2A k0;obtain rfl:=k7A k1;exact⟨a,rfl,kKL ha⟩
  exact⟨⟨len,qs,ms⟩,rfl,⟨kKL hl,hqs,hms⟩,by unfold kEV at hl3;simpa using hl3,by unfold kEV at hl4;simpa using hl4⟩
 obtain⟨gs,rfl,hgs⟩:=k4J (f:=k14) (p:=q1M) (es:=ds) λr hrr=>by
  have k0:=hs r hrr;clear hr hs hrr;obtain⟨a,_,rfl,ha,k1⟩:=k2A k0;obtain⟨b,_,rfl,hb,k2⟩:=k2A k1;obtain⟨c,_,rfl,hc,k3⟩:=k2A k2;obtain⟨d,_,rfl,hd,k4⟩:=k2A k3;obtain⟨e,_,rfl,he,k5⟩:=k2A k4;obtain rfl:=k7A k5;exact⟨⟨a,b,c,d,e⟩,rfl,kKL ha,kKL hb,kKL hc,kKL hd,kKL he⟩
 exact⟨ss,gs,rfl,λs hs=>(hss s hs).1,hgs,by unfold kEV at hl1;simpa using hl1,by unfold kEV at hl2;simpa using hl2,λs hs=>(hss s hs).2⟩
theorem kHK(x:AV)(h:TyV Tryz.prog 8 47 x):∃l:List Cy,x = .list 2 (l.map kFI)/\∀c,c∈l->∀b,b∈c.1->k0H b:=by
 have k0:=h.one (by kernel_rfl) (show kJF Tryz.prog 8 47=some [.list 2 [.list 1 [.list 1 [.int .u8]],.bool]] by kernel_rfl)
 have k0:OkL [.list 2 [.list 1 [.list 1 [.int .u8]],.bool]] [x]:=by
  unfold OkL;exact⟨x,[],rfl,k0,by unfold OkL;rfl⟩
 obtain⟨es,_,e1,hl,hr,k1⟩:=k7I k0;obtain rfl:=k7A k1;simp only[List.cons.injEq,and_true] at e1;subst e1
 obtain⟨l,rfl,hp⟩:=k4J (f:=kFI) (p:=λc=>∀b,b∈c.1->k0H b) (es:=es) λr hrr=>by
  obtain⟨bs,_,rfl,h1,h2,k3⟩:=kPK (hr r hrr);obtain⟨c,_,rfl,k2⟩:=kVU k3;obtain rfl:=k7A k2;exact⟨(bs,c),rfl,λb hb=>(h2 b hb).1⟩
 exact⟨l,rfl,hp⟩
end Go.Proofs.YtlchlddijclhjaaGreat
