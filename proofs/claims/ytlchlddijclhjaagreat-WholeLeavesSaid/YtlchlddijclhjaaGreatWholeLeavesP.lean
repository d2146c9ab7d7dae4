/- Parts of the proofs. -/
import Derived.Test.YtlchlddijclhjaaGreatQ22
import Derived.Test.YtlchlddijclhjaaGreatQ23
import Derived.Test.YtlchlddijclhjaaGreatQZ
set_option linter.unusedVariables false
set_option linter.unusedSimpArgs false
set_option maxHeartbeats 4000000
namespace Go.Proofs.YtlchlddijclhjaaGreat
open Go Go.RowKit Go.Eng
theorem gW(c:Cf)(ss:List Sg)(gs:List Gr)(l:List Cy)(hf:D6 ss gs)(hl:l.length<=1000000)(hc:H9 l):JU false false (CU c ss gs l):=by
 by_cases h:Dl (Dk c) c.c6 c.c8 ss gs
 ·rw[La hf h]
  exact Qy l (.ok ss gs (stU c ss gs) []) 0 false false (Lb hf h) Z.o hc ⟨(λh=>by cases h),λ_=>rfl⟩
 ·rw[Lc h];trivial
set_option maxRecDepth 100000
theorem gX(c:Cf)(ss:List Sg)(gs:List Gr)(es ds:List (List AV))(zQ:es=ss.map Ah)(zY:ds=gs.map Ak)(hsI:∀s,s∈ss->HV s)(hgI:∀g,g∈gs->HY g)(l:List Cy)(hb:∀c,c∈l->∀b,b∈c.1->Ar b)(rs:List (List AV))(yD:rs=l.map DJ) :
 A9 Tryz.prog 5 [.agg [c.c0,c.c1,c.c2,c.c3,c.c4,c.c5,c.c6,c.c7,c.c8,c.c9,c.c10,c.c11,c.c12,c.c13],.agg [.list 3 es,.list 5 ds],.list 2 rs] (· = .bool true):=by
 have hu:Up0 es:=by rw[zQ];exact Bu ss
 have hud:Up0 ds:=by rw[zY];exact Bv gs
 have hur:Up0 rs:=by rw[yD];exact HZ l
 have q0:=NY ss gs es ds zQ zY l rs yD;have q1:D6 ss gs->EU l->_:=λh1 h2=>Ld c ss gs es ds zQ zY hsI hgI h1 l (by have:=h2.n;omega) (NZ h2 hb) rs yD;have q2:=Na;have q3:D6 ss gs->EU l->_:=λh1 h2=>gW c ss gs l h1 (by have:=h2.n;omega) (Nb h2 hb);have hfl:EU l->(CU c ss gs l).length<=400:=λh2=>by have:=Nc c ss gs l;have:=h2.n;omega
 obtain⟨fv,efv⟩:=Z.e (CU c ss gs l);rw[<- efv] at q1 q3 hfl;obtain⟨U,eU⟩:=Z.e (fv.map Rp.row);have huU:Up0 U:=by rw[eU];exact JP fv
 rw[<- eU] at q1;obtain⟨c0,c1,c2,c3,c4,c5,c6,c7,c8,c9,c10,c11,c12,c13⟩:=c;simp only at q1;refine Z.y Tryz.func5 λzB zE _ _ zF zK hw zC zA _ _ zI zH hz R hR P hP=>?_;cbv;refine Call.step (by rw[<- hP];exact q0) (by first|rfl|(repeat' (first|exact rfl|assumption|refine uc ?_ ?_|exact ul Z.m|refine ua ?_))) ?_;rintro r ⟨o,rfl,ho⟩;have n1:zF true=false:=by rw[zI];rfl
 have n2:zF false=true:=by rw[zI];rfl
 cases o with
 | false =>
   cbv;repeat' (first|(simp only[n1,n2];cbv)|(refine Call.s hP q2 ?_;cbv)|(refine AB.s hP q2 ?_;cbv)|fail)
   exact Z.r hR
 | true =>
   have q1:=q1 (ho rfl).1 (ho rfl).2;have q3:=q3 (ho rfl).1 (ho rfl).2;have hfl:=hfl (ho rfl).2;clear q0 ho;cbv
   (obtain⟨N,eN,N0,Nn⟩:∃L:Int,zK U=L/\0<=L/\L.toNat=U.length:=⟨(U.length:Int),by rw[zH],Int.natCast_nonneg _,Int.toNat_natCast _⟩)
   have hUl:U.length=fv.length:=(by rw[eU];simp);repeat' (first|(simp only[n1,n2,eN];cbv)|(refine Call.s hP q1 ?_;cbv)|(refine AB.s hP q1 ?_;cbv)|fail)
   refine Ae.data hw (S:=Int×Bool×Bool) (λs=>fr 53 [(6,.bool false),(7,s.2.1),(8,s.2.2),(19,.list 32 U),(20,N),(21,s.1)]) (λ_=>[])
    (λs=>0<=s.1/\s.1<=N/\JU s.2.1 s.2.2 (fv.drop s.1.toNat)) (λs=>(N-s.1).toNat) (0,false,false) Z.i ⟨Int.le_refl _,N0,by simpa using q3⟩ ?_
   clear q1 q3
   rintro⟨i,fl,kn⟩ zJ Q' hN hE hR'
   have zJ:0<=i/\i<=N/\JU fl kn (fv.drop i.toNat):=zJ;obtain⟨zW,yZ,hlv⟩:=zJ;by_cases yC:i<N
   rotate_left 1
   ·have ck:=W.nlt zA (show N<=i by omega)
    cbv;repeat' (first|(simp only[ck];cbv)|fail)
    refine hE _ _ _ ?_;cbv;repeat' (first|(simp only[ck];cbv)|(refine Call.s hP q2 ?_;cbv)|(refine AB.s hP q2 ?_;cbv)|fail)
    exact Z.r hR
   obtain⟨rp,hrp⟩:∃c,fv[i.toNat]?=some c:=⟨_,List.getElem?_eq_getElem (show i.toNat<fv.length by omega)⟩;obtain⟨i2,ei2⟩:=Z.e (i+1);have hT:(N-i2).toNat<(N-i).toNat:=by omega
   have hdr:fv.drop i.toNat=rp::fv.drop i2.toNat:=by
    have h1:=(List.getElem?_eq_some_iff.1 hrp);rw[List.drop_eq_getElem_cons h1.1,h1.2,show i2.toNat=i.toNat+1 by omega]
   rw[hdr] at hlv;obtain⟨hL,hb⟩:(rp.ac=false->(fl=true->rp.md=4)/\(kn=false->rp.gr=0))/\JU (decide (rp.md=4)) (decide (rp.gr≠0)) (fv.drop i2.toNat):=hlv;obtain⟨RT,eRT⟩:=Z.e (rp.rt.map D7);have zL:U[i.toNat]?=some (rp.rowL (.list 1 RT)):=(by rw[eU,List.getElem?_map,hrp,eRT];rfl);have huRT:Up0 RT:=(by rw[eRT];exact JQ _);clear eRT hrp hdr;obtain⟨z0,z1,z2,z3,z4,z5,z6,z7,z8,z9,zz,z11,z12,z13,z14,z15,z16,z17,z18,z19,z20,z21,z22,z23,z24,z25,z26,z27,z28,z29,z30,z31⟩:=rp;simp only[Rp.rowL] at zL hL hb;have a4:zB .add .i64 i 1=i2:=(by rw[zC,Ag Z.o Z.o,ei2]);have ck:=W.lt zA yC;obtain⟨b1,eb1⟩:=Z.e (decide (z1=4));obtain⟨b2,eb2⟩:=Z.e (decide (z2≠0));have d1:zE .eql z1 4=b1:=(by rw[zA,eb1];simp only[AC];rw[Bool.eq_iff_iff];simp);have d2:zE .neq z1 4 = !b1:=(by rw[zA,eb1];simp only[AC];rw[Bool.eq_iff_iff];simp);have d3:zE .neq z2 0=b2:=(by rw[zA,eb2];simp only[AC];rw[Bool.eq_iff_iff];simp);have hL:z16=false->(fl=true->b1=true)/\(kn=false->b2=false):=λh=>⟨λh1=>by rw[eb1];exact decide_eq_true ((hL h).1 h1),λh1=>by rw[eb2];have:=(hL h).2 h1;simp[this]⟩;rw[<- eb1,<- eb2] at hb;clear eb1 eb2 hUl eU
   cases fl<;>cases kn<;>cases z16<;>cases b1<;>cases b2
   all_goals first
    | (exfalso;simp at hL;done)
    | (clear hL
       cbv;repeat' (first|(simp only[ck,n1,n2,d1,d2,d3,a4];cbv)|(refine Idx.mk _ zW zL ?_;cbv)|fail)
       first
       | (refine hN (i2,true,true) _ _ ?_ ⟨Z.t,Z.t,hb⟩ hT;exact Z.i)
       | (refine hN (i2,true,false) _ _ ?_ ⟨Z.t,Z.t,hb⟩ hT;exact Z.i)
       | (refine hN (i2,false,true) _ _ ?_ ⟨Z.t,Z.t,hb⟩ hT;exact Z.i)
       | (refine hN (i2,false,false) _ _ ?_ ⟨Z.t,Z.t,hb⟩ hT;exact Z.i)
       | (trace_state;fail))
    | fail
end Go.Proofs.YtlchlddijclhjaaGreat
set_option maxRecDepth 100000
namespace Go.Proofs.YtlchlddijclhjaaGreat
open Go Go.RowKit Go.Eng
theorem walk_WholeLeaves(x0 x1 x2:AV)(h0:TyV Tryz.prog 8 23 x0)(h1:TyV Tryz.prog 8 27 x1)(h2:TyV Tryz.prog 8 28 x2):A9 Tryz.prog 5 [x0,x1,x2] (λr=>r = .bool true):=by
 obtain⟨c,rfl,_⟩:=Nf x0 h0;obtain⟨ss,gs,rfl,hs,hg⟩:=Ng x1 h1;obtain⟨l,rfl,hb⟩:=Nh x2 h2;exact gX c ss gs _ _ rfl rfl hs hg l hb _ rfl
end Go.Proofs.YtlchlddijclhjaaGreat
