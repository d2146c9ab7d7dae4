/- Parts of the proofs. -/
import Derived.Test.YtlchlddijclhjaaGreatQ22
import Derived.Test.YtlchlddijclhjaaGreatQ23
import Derived.Test.YtlchlddijclhjaaGreatQZ
set_option linter.unusedVariables false
set_option linter.unusedSimpArgs false
set_option maxHeartbeats 4000000
namespace Go.Eng
open Go Go.RowKit
theorem Ae.weak{P:Program}{n:Nat}{c:BR}{Q:Aq}{a:AA}{h:A7}(H:Ae P n c (λe a h=>∃a' h',Wk n a h a' h'/\Q e a' h') a h):Ae P n c Q a h:=
 ⟨λcode h1 h2=>(match H with|⟨H⟩=>H code h1 h2).post λ_ _ _ hq=>hq⟩
end Go.Eng
namespace Go.Proofs.YtlchlddijclhjaaGreat
open Go Go.RowKit Go.Eng
theorem YU(gs:List Gr)(x:Fo)(n:Nv)(mm:List (List Int))(a b:Int):(Dz gs x n mm a b).1.w=n.w/\(Dz gs x n mm a b).1.c=n.c:=by
 unfold Dz;split
 ·unfold JH
  split
  ·unfold C_ lrn?
   split<;>exact⟨rfl,rfl⟩
  ·exact⟨rfl,rfl⟩
 ·exact⟨rfl,rfl⟩
theorem LZ(ss:List Sg)(gs:List Gr)(n:Nv)(mm:List (List Int))(l:List (List Int))(com:Bool)(s:Ex)(e:s=Bp ss gs n mm l com):s.n.c=n.c:=by
 have h2:=λgs x n mm a b=>(YU gs x n mm a b).2
 have h3:∀(m:Nv) (mm:List (List Int)) (a b:Int),(Bi ss mm m a b).1.c=m.c:=λm mm a b=>by
  unfold Bi;split
  ·split<;>rfl
  ·rfl
 have h4:∀(m:Nv) (mm:List (List Int)),(BO m mm).1.c=m.c:=λm mm=>by unfold BO;split<;>rfl
 subst e;unfold Bp IM IP stepE;simp only[h4,h2,h3,IK]
theorem YT(ss:List Sg)(mm:List (List Int))(n:Nv)(c:Int):(Ce ss mm n (Cc c [])).2.n=0:=rfl
theorem YV(ss:List Sg)(gs:List Gr)(n:Nv)(m:Ml)(com:Bool)(f:Fu)(ov:Bool)(x:Fo)(u:Nv×List (List Int)):∃(n9:Nv) (t:List (List Int)) (r0:Rp) (y:Int),stepE ss gs n m com f ov x u=⟨n9,t,BZ ss gs t r0 n9 f⟩/\(n9.on=true->n9.w.fa=false)/\n9.w=wtV n.c.c12 u.1.w f.n f.cf ov x.ac/\n9.so=decide (n.c.c9<=En n.c.c9 n.c.c10 y f.lo f.hi f.n):=
 ⟨_,_,_,_,rfl,λh=>(congrArg Wt.fa (LX _ _)).trans (NV _ _ h).2,LX _ _,rfl⟩
theorem YW(ss:List Sg)(gs:List Gr)(mm:List (List Int))(r:Rp)(n:Nv)(f:Fu):(BZ ss gs mm r n f).st=n.so:=by
 unfold BZ;cases n.on<;>rfl
theorem YX{ss:List Sg}{gs:List Gr}{n:Nv}{mm:List (List Int)}{com:Bool}{s:Ex}(h9:1<=n.c.c9)(e:s=Bp ss gs n mm [] com) :
 s.n.w.si=min (n.w.si+1) (n.c.c12+1)/\(n.c.c12<min (n.w.si+1) (n.c.c12+1)->s.n.w.fa=true)/\(s.n.on=true->s.n.w.fa=false)/\s.r.st=false:=by
 unfold Bp IM IP at e;simp only at e;have hn:=YT ss mm { n with cy:=n.cy+1 } n.cy;obtain⟨n9,t,r0,y,h1,h2,h3,h4⟩:=YV ss gs n (Cc n.cy []) com (Ce ss mm { n with cy:=n.cy+1 } (Cc n.cy [])).2 _ _ _;rw[h1] at e;subst e;rw[hn,(YU _ _ _ _ _ _).1,(Nt _ _ _ _ _).1,IK] at h3;rw[hn] at h4;refine⟨?_,λh=>?_,h2,?_⟩
 ·simp only[h3];rfl
 ·simp only[h3]
  unfold wtV Fp;simp only[show decide ((0:Int)<1)=true from rfl,if_true];rw[decide_eq_true h];simp
 ·simp only[YW]
  rw[h4];unfold En;rw[if_pos (.inl Z.d)];exact decide_eq_false Z.o
theorem RQ:∀(m:Nat) (ss:List Sg) (gs:List Gr) (n:Nv) (mm:List (List Int)) (k j:Int),BL ss gs n mm k->k+m<=1000000->0<=j->min j (n.c.c12+1)<=n.w.si->∀(i:Nat) (r:Rp),(BP (.ok ss gs n mm) (List.replicate m ([],false)))[i]?=some r->n.c.c12<=j+i->r.md=4/\r.gr=0/\r.st=false
 | 0,ss,gs,n,mm,k,j,h,hk,hj,hs,i,r,hr,hi=>by simp[BP] at hr
 | m+1,ss,gs,n,mm,k,j,h,hk,hj,hs,i,r,hr,hi=>by
   have hn:=UI.next (u:=.ok ss gs n mm) h Z.o (c:=([],false)) ⟨Nat.zero_le _,λb hb=>by cases hb⟩
   obtain⟨s,es⟩:=Z.e (Bp ss gs n mm [] false);have hst:Dm (.ok ss gs n mm) [] false=(.ok ss gs s.n s.mm,s.r):=(by rw[es];rfl);simp only at hn;rw[hst] at hn;have hU:BL ss gs s.n s.mm (k+1):=hn;have hcf:=h.cf.in_;obtain⟨t1,t2,t3,t4⟩:=YX Z.o es;obtain⟨h1,h2,h3,_,_⟩:=NW es;have hc:=LZ ss gs n mm [] false s es;rw[List.replicate_succ] at hr;simp only[BP] at hr;rw[hst] at hr
   cases i with
   | zero =>
     simp only[List.getElem?_cons_zero,Option.some.injEq] at hr;subst hr;have hf:=t2 Z.o;refine⟨h1.2 hf,h2 ?_,t4⟩
     cases ho:s.n.on with
     | false=>rfl
     | true=>exact absurd (t3 ho) (by rw[hf];decide)
   | succ i =>
     simp only[List.getElem?_cons_succ] at hr;refine RQ m ss gs s.n s.mm (k+1) (j+1) hU Z.o Z.o ?_ i r hr (by rw[hc];omega);rw[hc,t1];omega
theorem YY:∀(l:List Cy) (m:Nat) (ss:List Sg) (gs:List Gr) (n:Nv) (mm:List (List Int)) (k:Int),BL ss gs n mm k->k+l.length+m<=1000000->H9 l->∀(i:Nat) (r:Rp),(BP (.ok ss gs n mm) (l++List.replicate m ([],false)))[i]?=some r->(l.length:Int)+n.c.c12<=i->r.md=4/\r.gr=0/\r.st=false
 | [],m,ss,gs,n,mm,k,h,hk,hc,i,r,hr,hi=>by
   have:=h.cf.in_;have:=h.ws;simp at hk hi;exact RQ m ss gs n mm k 0 h hk (Int.le_refl _) Z.o i r hr Z.o
 | c::l,m,ss,gs,n,mm,k,h,hk,hc,i,r,hr,hi=>by
   have:=h.cf.in_;simp only[List.length_cons] at hk hi;have hn:=UI.next (u:=.ok ss gs n mm) h Z.o (hc c List.mem_cons_self)
   obtain⟨s,es⟩:=Z.e (Bp ss gs n mm c.1 c.2);have hst:Dm (.ok ss gs n mm) c.1 c.2=(.ok ss gs s.n s.mm,s.r):=(by rw[es];rfl);rw[hst] at hn
   cases i with
   | zero=>omega
   | succ i =>
     simp only[List.cons_append,BP,List.getElem?_cons_succ] at hr;rw[hst] at hr;exact YY l m ss gs s.n s.mm (k+1) hn Z.o (λx hx=>hc x (List.mem_cons_of_mem _ hx)) i r hr (by rw[LZ ss gs n mm c.1 c.2 s es];omega)
theorem YZ(c:Cf)(ss:List Sg)(gs:List Gr)(l:List Cy)(m:Nat)(hf:D6 ss gs)(hl:l.length+m<=1000000)(hc:H9 l)(i:Nat)(r:Rp)(hr:(CU c ss gs (l++List.replicate m ([],false)))[i]?=some r)(hi:(l.length:Int)+c.c12<=i):r.md=4/\r.gr=0/\r.st=false:=by
 by_cases h:Dl (Dk c) c.c6 c.c8 ss gs
 ·rw[La hf h] at hr
  exact YY l m ss gs _ [] 0 (Lb hf h) Z.o hc i r hr hi
 ·rw[Lc h] at hr;simp at hr
set_option maxRecDepth 100000
abbrev q0C:Cy:=([],false)
theorem Ya{l:List Cy}(h:∀c,c∈l->c.1.length<=50/\∀b,b∈c.1->Ar b/\b.length<=300)(k:Nat):∀c,c∈l++List.replicate k q0C->c.1.length<=50/\∀b,b∈c.1->Ar b/\b.length<=300:=λc hc=>by
 rcases List.mem_append.1 hc with hc|hc
 ·exact h c hc
 ·obtain rfl:=(List.mem_replicate.1 hc).2
  exact⟨by decide,λb hb=>by cases hb⟩
def MRc(l:List Cy):Option (List (List AV)×Nat)->Prop
 | none=>l=[]
 | some (u,m)=>l≠[]/\u=l.map DJ/\m=l.length/\Up0 u
theorem Yb{l:List Cy}{j j2:Int}(h:0<=j)(e:j2=j+1):l++List.replicate j2.toNat q0C=(l++List.replicate j.toNat q0C)++[q0C]:=by
 rw[e,show (j+1).toNat=j.toNat+1 by omega,List.replicate_succ',List.append_assoc]
theorem Yc(c:Cf)(ss:List Sg)(gs:List Gr)(es ds:List (List AV))(zQ:es=ss.map Ah)(zY:ds=gs.map Ak)(h12:I64 c.c12)(more:Int)(hmore:I64 more)(hsI:∀s,s∈ss->HV s)(hgI:∀g,g∈gs->HY g)(l:List Cy)(hb:∀c,c∈l->∀b,b∈c.1->Ar b)(rs:List (List AV))(yD:rs=l.map DJ) :
 A9 Tryz.prog 4 [.agg [c.c0,c.c1,c.c2,c.c3,c.c4,c.c5,c.c6,c.c7,c.c8,c.c9,c.c10,c.c11,c.c12,c.c13],.agg [.list 3 es,.list 5 ds],.list 2 rs,more] (· = .bool true):=by
 have hu:Up0 es:=by rw[zQ];exact Bu ss
 have hud:Up0 ds:=by rw[zY];exact Bv gs
 have hur:Up0 rs:=by rw[yD];exact HZ l
 have q0:=NY ss gs es ds zQ zY l rs yD;have q1:D6 ss gs->EU l->∀k:Nat,k<=100->∀Q,Q=(l++List.replicate k q0C).map DJ->_:=λh1 h2 k hk Q hQ=>Ld c ss gs es ds zQ zY hsI hgI h1 (l++List.replicate k q0C) (by have:=h2.n;rw[List.length_append,List.length_replicate];omega) (Ya (NZ h2 hb) k) Q hQ;have q2:=Na;have q3:D6 ss gs->EU l->∀k:Nat,k<=100->∀(LR i:Int) (r:Rp),LR.toNat=l.length->0<=LR->0<=i->(CU c ss gs (l++List.replicate k q0C))[i.toNat]?=some r->LR+c.c12<=i->r.md=4/\r.gr=0/\r.st=false:=λh1 h2 k hk LR i r e1 e2 e3 e4 e5=>YZ c ss gs l k h1 (by have:=h2.n;omega) (Nb h2 hb) i.toNat r e4 Z.o;have hfl:EU l->∀k:Nat,k<=100->(CU c ss gs (l++List.replicate k q0C)).length<=500:=λh2 k hk=>by have:=Nc c ss gs (l++List.replicate k q0C);have:=h2.n;rw[List.length_append,List.length_replicate] at *;omega
 have hrl:rs.length=l.length:=by rw[yD];simp
 have hln:EU l->l.length<=400:=λh=>h.n;obtain⟨fv,efv⟩:=Z.e (CU c ss gs);simp only[<- efv] at q1 q3 hfl;clear efv;unfold I64 at h12 hmore;obtain⟨c0,c1,c2,c3,c4,c5,c6,c7,c8,c9,c10,c11,c12,c13⟩:=c;simp only at q1 q3 h12;refine Z.y Tryz.func4 λzB _ _ _ zF zK hw zC zA _ _ zI zH hz R hR P hP=>?_;cbv;refine Call.step (by rw[<- hP];exact q0) (by first|rfl|(repeat' (first|exact rfl|assumption|refine uc ?_ ?_|exact ul Z.m|refine ua ?_))) ?_;rintro r ⟨o,rfl,ho⟩;have n1:zF true=false:=by rw[zI];rfl
 have n2:zF false=true:=by rw[zI];rfl
 cases o with
 | false =>
   cbv;repeat' (first|(simp only[n1,n2];cbv)|(refine Call.s hP q2 ?_;cbv)|fail)
   exact Z.r hR
 | true =>
   have q1:=q1 (ho rfl).1 (ho rfl).2;have q3:=q3 (ho rfl).1 (ho rfl).2;have hfl:=hfl (ho rfl).2;have hln:=hln (ho rfl).2;clear q0 ho;cbv;by_cases hm0:more<0
   ·have d1:=W.lt zA hm0
    repeat' (first|(simp only[n1,n2,d1];cbv)|(refine Call.s hP q2 ?_;cbv)|fail)
    exact Z.r hR
   have d1:=W.nlt zA (show 0<=more by omega);by_cases hm1:20<more
   ·have d2:=W.gt zA hm1
    repeat' (first|(simp only[n1,n2,d1,d2];cbv)|(refine Call.s hP q2 ?_;cbv)|fail)
    exact Z.r hR
   have d2:=W.ngt zA (show more<=20 by omega);by_cases hm2:50<c12
   ·have d3:=W.gt zA hm2
    repeat' (first|(simp only[n1,n2,d1,d2,d3];cbv)|(refine Call.s hP q2 ?_;cbv)|fail)
    exact Z.r hR
   have d3:=W.ngt zA (show c12<=50 by omega);obtain⟨t1,et1⟩:=Z.e (c12+1);obtain⟨B,eB⟩:=Z.e (t1+more);have a1:zB .add .i64 c12 1=t1:=(by rw[zC,Ag Z.o Z.o,et1]);have a2:zB .add .i64 t1 more=B:=(by rw[zC,Ag Z.o Z.o,eB]);repeat' (first|(simp only[n1,n2,d1,d2,d3,a1,a2];cbv)|fail)
   clear d1 d2 d3;have hB:B<=71:=(by omega);have D:=λc Q a h=>@Ae.data P _ hw c Q a h (Int×Option (List (List AV)×Nat)) (λs=>fr 78 [(2,.list 2 rs),(4,.ref 0 14 0 0),(5,.ref 1 2 0 0),(8,.bool false),(9,match s.2 with|none=>.emp|some (_,m)=>.sl 2 2 0 m),(37,B),(38,s.1)]) (λs=>match s.2 with|none=>[.live 14 [[c0,c1,c2,c3,c4,c5,c6,c7,c8,c9,c10,c11,c12,c13]],.live 2 [[.list 3 es,.list 5 ds]]]|some (u,_)=>[.live 14 [[c0,c1,c2,c3,c4,c5,c6,c7,c8,c9,c10,c11,c12,c13]],.live 2 [[.list 3 es,.list 5 ds]],.live 2 u]) (λs=>0<=s.1/\(s.1<=B\/s.1=0)/\MRc (l++List.replicate s.1.toNat q0C) s.2) (λs=>(B-s.1).toNat);by_cases hr0:rs=[]
   all_goals first
    | (refine Lx.nil hr0 ?_
       cbv;repeat' (first|(simp only[a1,a2];cbv)|fail)
       refine Ae.weak (D _ _ _ _ (0,none) Z.i ⟨Int.le_refl _,.inr rfl,by have:l=[]:=List.length_eq_zero_iff.1 (by rw[<- hrl,hr0];rfl);rw[this];rfl⟩ ?_))
    | (obtain⟨n,en⟩:=Z.e rs.length
       refine Lx.mk n en hr0 Z.o Z.o ?_;cbv;repeat' (first|(simp only[a1,a2];cbv)|fail)
       refine Ae.weak (D _ _ _ _ (0,some (rs,n)) Z.i ⟨Int.le_refl _,.inr rfl,by refine⟨λh=>hr0 ?_,?_,?_,hur⟩;(have:l=[]:=by simpa using h);rw[yD,this];rfl;simpa using yD;simp[en,hrl]⟩ ?_))
    | fail
   all_goals
    clear D a1 a2 et1 eB
    rintro⟨j,o⟩ zJ Q' hN hE hR'
    have zJ:0<=j/\(j<=B\/j=0)/\MRc (l++List.replicate j.toNat q0C) o:=zJ;obtain⟨hj0,hj1,ho⟩:=zJ;by_cases hjB:j<B
    ·have ck:=W.lt zA hjB
     obtain⟨j2,ej2⟩:=Z.e (j+1);have a4:zB .add .i64 j 1=j2:=(by rw[zC,Ag Z.o Z.o,ej2]);have hT:(B-j2).toNat<(B-j).toNat:=(by omega);have yK:=Yb (l:=l) hj0 ej2
     cases o with
     | none =>
       have ho:l++List.replicate j.toNat q0C=[]:=ho
       have hfin:MRc (l++List.replicate j2.toNat q0C) (some ([[.list 1 [],.bool false]],1)):=by
        rw[yK,ho];exact⟨by simp,rfl,rfl,⟨rfl⟩⟩
       cbv;repeat' (first|(simp only[ck];cbv)|fail)
       refine Fb.mk ?_;cbv;refine⟨λh=>(by cases h),λ_=>⟨⟨rfl,by decide,by decide⟩,?_⟩⟩;repeat' (first|(simp only[a4];cbv)|fail)
       refine hN (j2,some ([[.list 1 [],.bool false]],1)) _ _ ?_ ⟨Z.t,Z.t,hfin⟩ hT;(refine Z.k (λj=>[0,1,2].getD j 0) ?_;cbv<;>exact Z.q)
     | some p =>
       obtain⟨V,M⟩:=p;have ho:l++List.replicate j.toNat q0C≠[]/\V=(l++List.replicate j.toNat q0C).map DJ/\M=(l++List.replicate j.toNat q0C).length/\Up0 V:=ho;obtain⟨hne,hV1,hM1,huV⟩:=ho;have hVl:M=V.length:=(by rw[hV1,hM1];simp);have hMl:M<=500:=(by rw[hM1,List.length_append,List.length_replicate];omega);obtain⟨M2,eM2⟩:=Z.e (M+1);obtain⟨Vr,eVr⟩:=Z.e (V++[[.nils,.bool false]]);obtain⟨Vf,eVf⟩:=Z.e (V++[[.list 1 [],.bool false]]);have eV3:Vf=(l++List.replicate j2.toNat q0C).map DJ:=(by rw[eVf,hV1,yK,List.map_append (l₂:= [q0C])];rfl);have huf:Up0 Vf:=(by rw[eV3];exact HZ _);have hfin:MRc (l++List.replicate j2.toNat q0C) (some (Vf,M2)):=⟨by rw[yK];simp,eV3,by rw[eM2,hM1,yK];simp only[List.length_append,List.length_cons,List.length_nil],huf⟩;clear eV3 hV1 hM1;cbv;repeat' (first|(simp only[ck,a4];cbv)|(refine App.mk Vr M2 eVr hVl eM2 Z.o Z.o ?_;cbv)|(refine And.intro ?_ ?_)|fail)
       refine hN (j2,some (Vf,M2)) _ _ ?_ ⟨Z.t,Z.t,hfin⟩ hT;(refine Z.k (λj=>[0,1,3].getD j 0) ?_;cbv;(repeat' (first|exact trivial|rfl|assumption|(refine Bn.app huV eVr eVf ?_;cbv)|apply And.intro|(simp only[hz,Z.a,AF,AC,AO,AP,AL,reduceCtorEq];first|done|assumption)|exact Bn.same Z.m (by first|assumption|rfl)|exact FzL.mk rfl rfl rfl Z.m (by first|assumption|rfl) Z.d|(refine Bn.one ?_;cbv))))
    ·have ck:=W.nlt zA (show B<=j by omega)
     obtain⟨k,ek⟩:=Z.e j.toNat;have hk:k<=100:=(by omega);rw[<- ek] at ho;obtain⟨Q,eQ⟩:∃Q,Q=(l++List.replicate k q0C).map DJ:=⟨_,rfl⟩;have huQ:Up0 Q:=(by rw[eQ];exact HZ _);have q1:=q1 k hk Q eQ;have q3:=q3 k hk;have hfl:=hfl k hk;obtain⟨F,eF⟩:=Z.e (fv (l++List.replicate k q0C));rw[<- eF] at q1 hfl;simp only[<- eF] at q3;clear eF ek;obtain⟨U,eU⟩:=Z.e (F.map Rp.row);have huU:Up0 U:=(by rw[eU];exact JP F);rw[<- eU] at q1;have hUl:U.length=F.length:=by rw[eU];simp
     (obtain⟨N,eN,N0,Nn⟩:∃L:Int,zK U=L/\0<=L/\L.toNat=U.length:=⟨(U.length:Int),by rw[zH],Int.natCast_nonneg _,Int.toNat_natCast _⟩)
     (obtain⟨LR,eLR,LR0,LRn⟩:∃L:Int,zK rs=L/\0<=L/\L.toNat=rs.length:=⟨(rs.length:Int),by rw[zH],Int.natCast_nonneg _,Int.toNat_natCast _⟩)
     obtain⟨x5,ex5⟩:=Z.e (LR+c12);have a5:zB .add .i64 LR c12=x5:=(by rw[zC,Ag Z.o Z.o,ex5]);have q3:∀(i:Int) (r:Rp),0<=i->F[i.toNat]?=some r->x5<=i->r.md=4/\r.gr=0/\r.st=false:=λi r h0 h1 h2=>q3 LR i r (LRn.trans hrl) LR0 h0 h1 Z.o
     have hq:(∃M,o=some (Q,M)/\M=Q.length)\/(o=none/\Q=[]):=by
      match o,ho with
      | none,ho=>exact .inr ⟨rfl,by rw[eQ,show l++List.replicate k q0C=[] from ho];rfl⟩
      | some (V,M),ho=>exact .inl ⟨M,by rw[ho.2.1,<- eQ],by rw[eQ,List.length_map];exact ho.2.2.1⟩
     clear eQ ho;obtain⟨M,rfl,hM⟩|⟨rfl,rfl⟩:=hq
     all_goals
      cbv;repeat' (first|(simp only[ck];cbv)|fail)
      refine hE _ _ _ ⟨fr 78 [(2,.list 2 rs),(4,.ref 0 14 0 0),(5,.ref 1 2 0 0),(8,.bool false),(9,.list 2 _)],[.live 14 [[c0,c1,c2,c3,c4,c5,c6,c7,c8,c9,c10,c11,c12,c13]],.live 2 [[.list 3 es,.list 5 ds]]],by exact Z.i,?_⟩;cbv;repeat' (first|(simp only[eN];cbv)|(refine Call.s hP q1 ?_;cbv)|fail)
     all_goals
      refine Ae.data hw (S:=Int) (λi=>fr 78 [(2,.list 2 rs),(4,.ref 0 14 0 0),(8,.bool false),(48,.list 32 U),(49,N),(50,i)]) (λ_=>[.live 14 [[c0,c1,c2,c3,c4,c5,c6,c7,c8,c9,c10,c11,c12,c13]]]) (λi=>0<=i/\i<=N) (λi=>(N-i).toNat) 0 Z.i ⟨Int.le_refl _,N0⟩ ?_;clear q1 hN hE hR';rintro i zJ Q' hN hE hR';have zJ:0<=i/\i<=N:=zJ;obtain⟨zW,yZ⟩:=zJ;by_cases yC:i<N
      ·obtain⟨rp,hrp⟩:∃c,F[i.toNat]?=some c:=⟨_,List.getElem?_eq_getElem (show i.toNat<F.length by omega)⟩
       obtain⟨i2,ei2⟩:=Z.e (i+1);have hT:(N-i2).toNat<(N-i).toNat:=(by omega);have hL:=q3 i rp zW hrp;obtain⟨RT,eRT⟩:=Z.e (rp.rt.map D7);have zL:U[i.toNat]?=some (rp.rowL (.list 1 RT)):=(by rw[eU,List.getElem?_map,hrp,eRT];rfl);have huRT:Up0 RT:=(by rw[eRT];exact JQ _);clear eRT hrp;obtain⟨z0,z1,z2,z3,z4,z5,z6,z7,z8,z9,zz,z11,z12,z13,z14,z15,z16,z17,z18,z19,z20,z21,z22,z23,z24,z25,z26,z27,z28,z29,z30,z31⟩:=rp;simp only[Rp.rowL] at zL hL;have a4:zB .add .i64 i 1=i2:=(by rw[zC,Ag Z.o Z.o,ei2]);have ck3:=W.lt zA yC;by_cases hx:x5<=i
       ·have g1:=W.ge zA hx
        obtain⟨hm,hg,hs⟩:=hL hx;have g2:=W.nne zA hm;have g3:=W.nne zA hg;subst hs;cbv;repeat' (first|(simp only[ck3,eLR,a5,g1,g2,g3,n1,n2,a4];cbv)|(refine Idx.mk _ zW zL ?_;cbv)|fail)
        refine hN i2 _ _ ?_ ⟨Z.t,Z.t⟩ hT;exact Z.i
       ·have g1:=W.nge zA (show i<x5 by omega)
        cbv;repeat' (first|(simp only[ck3,eLR,a5,g1,n1,n2,a4];cbv)|(refine Idx.mk _ zW zL ?_;cbv)|fail)
        refine hN i2 _ _ ?_ ⟨Z.t,Z.t⟩ hT;exact Z.i
      ·have ck3:=W.nlt zA (show N<=i by omega)
       cbv;repeat' (first|(simp only[ck3];cbv)|fail)
       refine hE _ _ _ ?_;cbv;repeat' (first|(refine Call.s hP q2 ?_;cbv)|fail)
       exact Z.r hR
set_option maxRecDepth 100000
theorem Yd(x:AV)(h:TyV Tryz.prog 8 3 x):∃n,x = .int .i64 n/\I64 n:=by
 have h:=h.one (by kernel_rfl) (show ED Tryz.prog 8 3=some [.int .i64] from by kernel_rfl);unfold Sh.Ok at h;obtain⟨n,rfl,hn⟩:=h;exact⟨n,rfl,EZ hn⟩
theorem walk_WholeSilent(x0 x1 x2 x3:AV)(h0:TyV Tryz.prog 8 23 x0)(h1:TyV Tryz.prog 8 27 x1)(h2:TyV Tryz.prog 8 28 x2)(h3:TyV Tryz.prog 8 3 x3):A9 Tryz.prog 4 [x0,x1,x2,x3] (λr=>r = .bool true):=by
 obtain⟨c,rfl,_,_,h12⟩:=Nf x0 h0;obtain⟨ss,gs,rfl,hs,hg⟩:=Ng x1 h1;obtain⟨l,rfl,hb⟩:=Nh x2 h2;obtain⟨m,rfl,hm⟩:=Yd x3 h3;exact Yc c ss gs _ _ rfl rfl h12 m hm hs hg l hb _ rfl
end Go.Proofs.YtlchlddijclhjaaGreat
