/- Parts of the proofs. -/
import Derived.KernelRfl
import Derived.Test.YtlchlddijclhjaaGreatQ8
import Derived.Test.YtlchlddijclhjaaGreatQ18
import Derived.Test.YtlchlddijclhjaaGreatQ14
import Derived.Test.YtlchlddijclhjaaGreatQ9
import Derived.Test.YtlchlddijclhjaaGreatQ13
import Derived.Test.YtlchlddijclhjaaGreatQ11
import Derived.Test.YtlchlddijclhjaaGreatQ10
import Derived.Test.YtlchlddijclhjaaGreatQ16
import Derived.Test.YtlchlddijclhjaaGreatQZ
set_option linter.unusedVariables false
set_option linter.unusedSimpArgs false
set_option maxHeartbeats 4000000
namespace Go.Proofs.YtlchlddijclhjaaGreat
open Go Go.RowKit Go.Eng
set_option maxRecDepth 100000
theorem aN{a b d:Int}(h:a-b=d)(ha:I62 a)(hb:I62 b):A9 Tryz.prog 166 [a,b] (· = .int .i64 d):=by
 refine Z.y Tryz.func166 λ_ zE _ _ _ _ _ _ _ _ _ _ _ hz R hR P hP=>?_;cbv;refine Call.stepE (by rw[<- hP];exact Je h ha hb) rfl ?_;cbv;obtain⟨o,eo⟩:=Z.f (zE .lss a 0);simp only[eo];refine Call.stepE (by rw[<- hP];exact Sc d o) rfl ?_;cbv;exact Z.r hR
def DZ(ss:List Sg)(f:Nat->Int)(from_ at_:Int)(s:Int×Bool)(l:List Int):Int×Bool:=
 if f (Bw l).toNat = -1 then s
 else if s.2=false\/BU ss from_ l+f (Bw l).toNat-at_<s.1 then (BU ss from_ l+f (Bw l).toNat-at_,true) else s
theorem aO{ss:List Sg}{f:Nat->Int}{from_ at_ a:Int}{b:Bool}{l:List Int}(h:f (Bw l).toNat = -1):DZ ss f from_ at_ (a,b) l=(a,b):=by unfold DZ;rw[if_pos h]
theorem Sd{ss:List Sg}{f:Nat->Int}{from_ at_ a:Int}{b:Bool}{l:List Int}{d:Int}(h:f (Bw l).toNat ≠ -1)(hd:BU ss from_ l+f (Bw l).toNat-at_=d)(h2:b=false\/d<a):DZ ss f from_ at_ (a,b) l=(d,true):=by unfold DZ;rw[if_neg h,hd,if_pos h2]
theorem aP{ss:List Sg}{f:Nat->Int}{from_ at_ a:Int}{b:Bool}{l:List Int}{d:Int}(h:f (Bw l).toNat ≠ -1)(hd:BU ss from_ l+f (Bw l).toNat-at_=d)(h2:b=true)(h3:a<=d):DZ ss f from_ at_ (a,b) l=(a,b):=by
 unfold DZ;rw[if_neg h,hd,if_neg (by simp[h2];omega)]
theorem Oi:∀(l:List Int),l≠[]->Bw l∈l
 | [],h=>absurd rfl h
 | [a],_=>List.mem_cons_self
 | a::b::l,_=>List.mem_cons_of_mem _ (Oi (b::l) (by simp))
theorem Si:∀(P:List Int),P≠[]->P[P.length-1]?=some (Bw P)
 | [],h=>absurd rfl h
 | [a],_=>rfl
 | a::b::l,_=>by
   have:=Si (b::l) (by simp);simpa[Bw] using this
theorem Sj{ss:List Sg}(hln:CS ss){from_:Int}(hf:0<=from_/\from_<=1099511627776){l:List Int}(hl:l.length<=12): -1099511627776<=BU ss from_ l/\BU ss from_ l<=13194139533312:=by
 have h1:=Sk (from_:=from_) hln hf l;have h2:=Io l;omega
theorem aI(ss:List Sg)(gs:List Gr)(es ds:List (List AV))(zQ:es=ss.map Ah)(zY:ds=gs.map Ak)(hln:CS ss)(from_:Int)(hf:0<=from_/\from_<=1099511627776)(m:List (List Int))(hw1:∀l,l∈m->Cu ss l)(hm:m.length<=1000)(rs:List (List AV))(yD:rs=m.map rtC)
 (f:Nat->Int) (os:List (List AV)) (hos:∀x,x<ss.length->os[x]?=some [.int .i64 (f x)]) (huo:Up0 os) (hfb:∀x,x<ss.length -> -1<=f x/\f x<=1125899906842624) (at_:Int) (hat: -35184372088832<=at_/\at_<=35184372088832) (v:Int×Bool) (ev:v=m.foldl (DZ ss f from_ at_) (0,false)) :
 A9 Tryz.prog 108 [.agg [.list 3 es,.list 5 ds],.list 1 os,.agg [from_,.list 13 rs],at_] (· = .tuple [v.1,v.2]):=by
 have hu:Up0 es:=by rw[zQ];exact Bu ss
 have hud:Up0 ds:=by rw[zY];exact Bv gs
 have hur:Up0 rs:=by rw[yD];exact BM (f:=rtC) (λd=>rfl) m
 have hrl:rs.length=m.length:=by rw[yD];simp
 obtain⟨v1,v2⟩:=v;refine Z.y Tryz.func108 λzB _ _ _ _ zK hw zC _ _ _ _ zH hz R hR P hP=>?_;cbv
 (obtain⟨L,eL,L0,Ln⟩:∃L:Int,zK rs=L/\0<=L/\L.toNat=rs.length:=⟨(rs.length:Int),by rw[zH],Int.natCast_nonneg _,Int.toNat_natCast _⟩)
 simp only[eL]
 refine Ae.data hw (S:=Int×Int×Bool) (λs=>fr 53 [(1,.list 1 os),(3,at_),(4,.ref 0 2 0 0),(6,.ref 1 2 0 0),(10,s.2.1),(11,s.2.2),(17,.list 13 rs),(18,L),(19,s.1)])
  (λ_=>[.live 2 [[.list 3 es,.list 5 ds]],.live 2 [[from_,.list 13 rs]]])
  (λs=>0<=s.1/\s.1<=L/\(s.2.1,s.2.2)=(m.take s.1.toNat).foldl (DZ ss f from_ at_) (0,false)) (λs=>(L-s.1).toNat) (0,0,false) Z.i ⟨Int.le_refl _,L0,rfl⟩ ?_
 rintro⟨i,a,b⟩ zJ Q' hN hE hR'
 have zJ:0<=i/\i<=L/\(a,b)=(m.take i.toNat).foldl (DZ ss f from_ at_) (0,false):=zJ;cbv;obtain⟨zW,yZ,hab⟩:=zJ;(split<;>rename_i hc<;>(try (simp only[hz,Z.a,AF,AC,AO,AP,AL,reduceCtorEq] at hc))<;>(try cbv))
 ·obtain⟨i2,ei2⟩:=Z.e (i+1)
  have a4:zB .add .i64 i 1=i2:=(by rw[zC,Ag Z.o Z.o,ei2]);have hT:(L-i2).toNat<(L-i).toNat:=(by omega);obtain⟨l,hl⟩:∃b,m[i.toNat]?=some b:=⟨_,List.getElem?_eq_getElem (show i.toNat<m.length by omega)⟩;have hlm:=List.mem_of_getElem? hl;have hway:=hw1 l hlm;have hlr:rs[i.toNat]?=some (rtC l):=(by rw[yD,List.getElem?_map,hl];rfl);have hend:=NJ ss gs es ds zQ zY hln from_ hf rs hur l hway.len.1 hway.seg;obtain⟨row,erow⟩:=Z.e (toR l);have hlr:rs[i.toNat]?=some row.row:=(by rw[erow];exact hlr);have hend:A9 Tryz.prog 167 [.agg [from_,.list 13 rs],.agg [.list 3 es,.list 5 ds],.agg row.row] (· = .int .i64 (BU ss from_ l)):=(by rw[erow];exact hend);obtain⟨n,s0,s1,s2,s3,s4,s5,s6,s7,s8,s9,s10,s11⟩:=row;refine Idx.mk _ zW hlr ?_;cbv;obtain⟨q,eq⟩:=Z.e (Bw l)
  have zH:n=Bh l/\1<=l.length/\l.length<=12:=by
   have:=congrArg R13.n erow;exact⟨this,hway.len.2,hway.len.1⟩
  have hnl:n=l.length:=by rw[zH.1,Io]
  have hs:∀j:Nat,j<12->n=(j:Int)+1->l.getD j 0=q:=λj hj h=>by
   have h1:=Si l (by intro h0;rw[h0] at zH;simp at zH);rw[show l.length-1=j by omega] at h1;rw[eq,List.getD_eq_getElem?_getD,h1];rfl
  simp only[toR,R13.mk.injEq] at erow;obtain⟨_,g0,g1,g2,g3,g4,g5,g6,g7,g8,g9,g10,g11⟩:=erow;have l1:n=1->s0=q:=λh=>(by rw[g0];exact hs 0 Z.d Z.o);have l2:n=2->s1=q:=λh=>(by rw[g1];exact hs 1 Z.d Z.o);have l3:n=3->s2=q:=λh=>(by rw[g2];exact hs 2 Z.d Z.o);have l4:n=4->s3=q:=λh=>(by rw[g3];exact hs 3 Z.d Z.o);have l5:n=5->s4=q:=λh=>(by rw[g4];exact hs 4 Z.d Z.o);have l6:n=6->s5=q:=λh=>(by rw[g5];exact hs 5 Z.d Z.o);have l7:n=7->s6=q:=λh=>(by rw[g6];exact hs 6 Z.d Z.o);have l8:n=8->s7=q:=λh=>(by rw[g7];exact hs 7 Z.d Z.o);have l9:n=9->s8=q:=λh=>(by rw[g8];exact hs 8 Z.d Z.o);have l10:n=10->s9=q:=λh=>(by rw[g9];exact hs 9 Z.d Z.o);have l11:n=11->s10=q:=λh=>(by rw[g10];exact hs 10 Z.d Z.o);have l12:n=12->s11=q:=λh=>(by rw[g11];exact hs 11 Z.d Z.o);have c1:zB .sub .i64 1 1=0:=(by rw[zC];rfl);have c2:zB .sub .i64 2 1=1:=(by rw[zC];rfl);have c3:zB .sub .i64 3 1=2:=(by rw[zC];rfl);have c4:zB .sub .i64 4 1=3:=(by rw[zC];rfl);have c5:zB .sub .i64 5 1=4:=(by rw[zC];rfl);have c6:zB .sub .i64 6 1=5:=(by rw[zC];rfl);have c7:zB .sub .i64 7 1=6:=(by rw[zC];rfl);have c8:zB .sub .i64 8 1=7:=(by rw[zC];rfl);have c9:zB .sub .i64 9 1=8:=(by rw[zC];rfl);have c10:zB .sub .i64 10 1=9:=(by rw[zC];rfl);have c11:zB .sub .i64 11 1=10:=(by rw[zC];rfl);have c12:zB .sub .i64 12 1=11:=(by rw[zC];rfl);have hqm:q∈l:=(by rw[eq];exact Oi l (by intro h0;rw[h0] at zH;simp at zH));have hqb:=hway.seg q hqm;obtain⟨fq,efq⟩:=Z.e (f q.toNat);have hqo:os[q.toNat]?=some [.int .i64 fq]:=(by rw[efq];exact hos q.toNat hqb.2);have hfq:=hfb q.toNat hqb.2;rw[<- efq] at hfq;obtain⟨e,ee⟩:=Z.e (BU ss from_ l);have heb:=Sj hln hf (l:=l) hway.len.1;rw[<- ee] at hend heb
  have hft:(m.take i2.toNat).foldl (DZ ss f from_ at_) (0,false)=DZ ss f from_ at_ (a,b) l:=by
   rw[show m.take i2.toNat=m.take i.toNat++[l] by rw[ei2];exact Eu zW hl,List.foldl_append,<- hab];rfl
  obtain⟨d1,ed1⟩:=Z.e (e+fq);obtain⟨d,ed⟩:=Z.f (d1-at_);have a5:zB .add .i64 e fq=d1:=(by rw[zC,Ag Z.o Z.o,ed1]);have hsub:=aN ed (by unfold I62;omega) (by unfold I62;omega);have hdd:BU ss from_ l+f (Bw l).toNat-at_=d:=(by rw[<- eq,<- efq,<- ee];omega);have hn12:n=1\/n=2\/n=3\/n=4\/n=5\/n=6\/n=7\/n=8\/n=9\/n=10\/n=11\/n=12:=(by omega);clear hs zH hnl g0 g1 g2 g3 g4 g5 g6 g7 g8 g9 g10 g11;rcases hn12 with h|h|h|h|h|h|h|h|h|h|h|h
  all_goals
   subst h;simp only[c1,c2,c3,c4,c5,c6,c7,c8,c9,c10,c11,c12];refine InN.mk Z.d Z.d ?_;cbv;first|rw[l1 rfl] at hend ⊢ | rw[l2 rfl] at hend ⊢ | rw[l3 rfl] at hend ⊢ | rw[l4 rfl] at hend ⊢ | rw[l5 rfl] at hend ⊢ | rw[l6 rfl] at hend ⊢ | rw[l7 rfl] at hend ⊢ | rw[l8 rfl] at hend ⊢ | rw[l9 rfl] at hend ⊢ | rw[l10 rfl] at hend ⊢ | rw[l11 rfl] at hend ⊢ | rw[l12 rfl] at hend ⊢
   refine Idx.mk _ hqb.1 hqo ?_;cbv;(split<;>rename_i hm1<;>(try (simp only[hz,Z.a,AF,AC,AO,AP,AL,reduceCtorEq] at hm1))<;>(try cbv))
   ·simp only[a4]
    refine hN (i2,a,b) _ _ ?hx ?hi hT
    case hx=>(refine Z.k (λj=>[0,1].getD j 0) ?_;cbv<;>exact Z.q)
    case hi=>exact⟨by omega,by omega,by rw[hft,aO (by rw[<- eq,<- efq];exact hm1)]⟩
   ·refine Call.stepE (by rw[<- hP];exact hend) (by simp only[Af,AV.upto,hu.get,hud.get,hur.get];rfl) ?_
    cbv;simp only[a5];refine Call.stepE (by rw[<- hP];exact hsub) rfl ?_;cbv;have hm2:f (Bw l).toNat ≠ -1:=(by rw[<- eq,<- efq];exact hm1);repeat' (split<;>rename_i h<;>(try (simp only[hz,Z.a,AF,AC,AO,AP,AL,reduceCtorEq] at h))<;>(try cbv))
    ·simp only[a4]
     refine hN (i2,d,true) _ _ ?hx ?hi hT
     case hx=>(refine Z.k (λj=>[0,1].getD j 0) ?_;cbv<;>exact Z.q)
     case hi =>
      refine⟨by omega,by omega,?_⟩;rw[hft,Sd hm2 hdd (by first|(left;assumption)|(right;omega))]
    ·simp only[a4]
     refine hN (i2,d,true) _ _ ?hx ?hi hT
     case hx=>(refine Z.k (λj=>[0,1].getD j 0) ?_;cbv<;>exact Z.q)
     case hi =>
      refine⟨by omega,by omega,?_⟩;rw[hft,Sd hm2 hdd (by first|(left;assumption)|(right;omega))]
    ·simp only[a4]
     refine hN (i2,a,b) _ _ ?hx ?hi hT
     case hx=>(refine Z.k (λj=>[0,1].getD j 0) ?_;cbv<;>exact Z.q)
     case hi =>
      refine⟨by omega,by omega,?_⟩;rw[hft,aP hm2 hdd Z.m Z.o]
 ·refine hE _ _ _ ?_
  cbv;rw[List.take_of_length_le Z.o,<- ev] at hab;simp only[Prod.mk.injEq] at hab;exact⟨_,Vw.same rfl,hR _ (by rw[hab.1,hab.2];rfl)⟩
def nxF(ss:List Sg)(i:Nat):List Int:=match ss[i]? with|some s=>s.nx|none=>[]
def Bc(ss:List Sg)(i:Nat):Int:=match ss[i]? with|some s=>s.len|none=>1
theorem Oj{ss:List Sg}{gs:List Gr}(h:BN ss gs):∀i,i<ss.length->∀j,j∈nxF ss i->j.toNat<ss.length:=by
 intro i hi j hj;unfold nxF at hj;rw[List.getElem?_eq_getElem hi] at hj;obtain⟨k,hk⟩:=List.mem_iff_getElem?.1 hj;have:=(h.seg i hi ss[i] (List.getElem?_eq_getElem hi)).nx k (List.getElem?_eq_some_iff.1 hk).1 j hk;omega
theorem Ol{ss:List Sg}{gs:List Gr}(h:BN ss gs):∀i,i<ss.length->1<=Bc ss i:=by
 intro i hi;unfold Bc;rw[List.getElem?_eq_getElem hi];exact(h.seg i hi ss[i] (List.getElem?_eq_getElem hi)).pos
structure Own(n:Nat)(os:List (List AV))(f:Nat->Int):Prop where
 len:os.length=n
 at_:∀x,x<n->os[x]?=some [.int .i64 (f x)]
theorem Own.set{n:Nat}{os:List (List AV)}{f:Nat->Int}(h:Own n os f){i:Nat}(v:Int):Own n (os.set i [.int .i64 v]) (upd f i v):=by
 refine⟨by rw[List.length_set];exact h.len,λx hx=>?_⟩;unfold upd;by_cases hxi:x=i
 ·subst hxi
  rw[if_pos rfl,List.getElem?_set_self (by rw[h.len];exact hx)]
 ·rw[if_neg hxi,List.getElem?_set_ne (Ne.symm hxi)]
  exact h.at_ x hx
theorem Own.up{n:Nat}{os:List (List AV)}{f:Nat->Int}(h:Own n os f):Up0 os:=by
 have e:os=(List.range n).map λx=>[AV.int .i64 (f x)]:=by
  apply List.ext_getElem?;intro x;by_cases hx:x<n
  ·rw[h.at_ x hx,List.getElem?_map,List.getElem?_range hx];rfl
  ·rw[List.getElem?_eq_none (by rw[h.len];omega),List.getElem?_eq_none (by rw[List.length_map,List.length_range];omega)]
 rw[e];exact BM (f:=λx=>[AV.int .i64 (f x)]) (λd=>rfl) _
theorem Own.rep(n:Nat):Own n (List.replicate n [.int .i64 0]) (λ_=>0):=⟨by simp,λx hx=>by simp[hx]⟩
theorem WI(ss:List Sg)(gs:List Gr)(es ds:List (List AV))(zQ:es=ss.map Ah)(zY:ds=gs.map Ak)(hok:BN ss gs):A9 Tryz.prog 36 [.agg [.list 3 es,.list 5 ds]] (λr=>∃os,r = .list 1 os/\Own ss.length os (J (nxF ss) (Bc ss) ss.length)):=by
 have hu:Up0 es:=by rw[zQ];exact Bu ss
 have hud:Up0 ds:=by rw[zY];exact Bv gs
 have hel:es.length=ss.length:=by rw[zQ];simp
 have yC:=Oj hok;have hL:=Ol hok;refine Z.y Tryz.func36 λzB _ _ _ _ zK hw zC _ yJ _ _ zH hz R hR P hP=>?_;cbv
 (obtain⟨L,eL,L0,Ln⟩:∃L:Int,zK es=L/\0<=L/\L.toNat=es.length:=⟨(es.length:Int),by rw[zH],Int.natCast_nonneg _,Int.toNat_natCast _⟩)
 simp only[eL];refine Mk.mk (List.replicate L.toNat [.int .i64 0]) L.toNat L0 (Int.le_refl _) (by have:=hok.le;omega) (by have:=hok.le;omega) rfl rfl ?_;obtain⟨n,en⟩:=Z.f L.toNat;obtain⟨os,eos⟩:=Z.f (List.replicate L.toNat [AV.int .i64 0]);have hos:Own n os (λ_=>0):=by rw[<- eos,en];exact Own.rep n
 rw[eos,en];clear eos;cbv;have nL:n=ss.length:=by omega
 have huo:=hos.up;refine Ae.data hw (S:=Int×List (List AV)) (λs=>fr 90 [(1,.ref 0 2 0 0),(3,.sl 1 1 0 n),(16,.list 3 es),(17,L),(18,s.1)]) (λs=>[.live 2 [[.list 3 es,.list 5 ds]],.live 1 s.2]) (λs=>0<=s.1/\s.1<=L/\Own n s.2 (λx=>if x<s.1.toNat then J (nxF ss) (Bc ss) 0 x else 0)) (λs=>(L-s.1).toNat) (0,os) Z.i ⟨Int.le_refl _,L0,by simpa using hos⟩ ?_
 rintro⟨i,os⟩ zJ Q' hN hE hR'
 have zJ:0<=i/\i<=L/\Own n os (λx=>if x<i.toNat then J (nxF ss) (Bc ss) 0 x else 0):=zJ;cbv;obtain⟨zW,yZ,hos⟩:=zJ;have huo:=hos.up;(split<;>rename_i hc<;>(try (simp only[eL] at hc))<;>(try (simp only[hz,Z.a,AF,AC,AO,AP,AL,reduceCtorEq] at hc))<;>(try cbv))
 ·obtain⟨⟨len,ps,nx⟩,hd,zL⟩:=BI (f:=Ah) (ds:=ss) (i:=i) zW Z.o
  obtain⟨q1,eq1⟩:=Z.f (ps.map Ap);obtain⟨n1,en1⟩:=Z.f (nx.map Ac);have zL:es[i.toNat]?=some [.int .i64 len,.list 2 q1,.list 1 n1]:=(by rw[zQ,<- eq1,<- en1];exact zL);have hnl:n1.length=nx.length:=by rw[<- en1];simp
  (obtain⟨K,eK,K0,Kn⟩:∃L:Int,zK n1=L/\0<=L/\L.toNat=n1.length:=⟨(n1.length:Int),by rw[zH],Int.natCast_nonneg _,Int.toNat_natCast _⟩)
  obtain⟨i',ei'⟩:=Z.f (i+1);have ei:zB .add .i64 i 1=i':=(by rw[zC,Ag (by have:=hok.le;omega) (by have:=hok.le;omega)];exact ei');have hT:(L-i').toNat<(L-i).toNat:=(by omega);refine Idx.mk [.int .i64 len,.list 2 q1,.list 1 n1] zW zL ?_;cbv;obtain⟨k,ek⟩:=Z.f i.toNat;have hk:k<n:=(by omega);have ek':i'.toNat=k+1:=by omega
  have eJ:J (nxF ss) (Bc ss) 0 k=if nx.isEmpty then 0 else -1:=by
   unfold J nxF;rw[<- ek,hd]
  rw[ek] at hos;(split<;>rename_i h1<;>(try (simp only[eK] at h1))<;>(try (simp only[hz,Z.a,AF,AC,AO,AP,AL,reduceCtorEq] at h1))<;>(try cbv))
  ·refine At.mk k zW Z.o (by rw[Nat.zero_add];exact ek) ?_
   cbv;obtain⟨os',eos'⟩:=Z.f (os.set k [.int .i64 (-1)]);refine Ie.mk [.int .i64 0] os' (by rw[hos.at_ k hk,if_neg (Nat.lt_irrefl _)]) eos'.symm ?_
   have hos':Own n os' (λx=>if x<i'.toNat then J (nxF ss) (Bc ss) 0 x else 0):=by
    rw[<- eos'];have:=hos.set (i:=k) (-1);refine⟨this.len,λx hx=>?_⟩;rw[this.at_ x hx,ek'];show some [AV.int .i64 (if x=k then -1 else if x<k then J (nxF ss) (Bc ss) 0 x else 0)]=_;by_cases hxk:x=k
    ·subst hxk
     have k0:0<n1.length:=(by rw[<- Kn];exact Int.pos_iff_toNat_pos.1 h1);have hne:nx.isEmpty=false:=(by cases nx with|nil=>exfalso;rw[hnl] at k0;exact absurd k0 Z.d|cons a b=>rfl);rw[if_pos rfl,if_pos Z.o,eJ,hne];rfl
    ·rw[if_neg hxk]
     by_cases hlt:x<k
     ·rw[if_pos hlt,if_pos Z.o]
     ·rw[if_neg hlt,if_neg Z.o]
   have huo':=hos'.up;cbv;simp only[ei];refine hN (i',os') _ _ ?hx ?hi hT
   case hx=>exact Z.i
   case hi=>exact⟨by omega,by omega,hos'⟩
  ·simp only[ei]
   refine hN (i',os) _ _ ?hx ?hi hT
   case hx=>exact Z.i
   case hi =>
    refine⟨by omega,by omega,hos.len,λx hx=>?_⟩;rw[hos.at_ x hx,ek'];show some [AV.int .i64 (if x<k then J (nxF ss) (Bc ss) 0 x else 0)]=_;by_cases hxk:x=k
    ·subst hxk
     have k0:n1.length=0:=(by rw[<- Kn];exact Int.toNat_eq_zero.2 h1);have hne:nx.isEmpty=true:=(by cases nx with|nil=>rfl|cons a b=>exfalso;rw[k0] at hnl;cases hnl);rw[if_neg (Nat.lt_irrefl _),if_pos Z.o,eJ,hne];rfl
    ·by_cases hlt:x<k
     ·rw[if_pos hlt,if_pos Z.o]
     ·rw[if_neg hlt,if_neg Z.o]
 refine hE _ _ _ ?_;cbv;have hos:Own n os (J (nxF ss) (Bc ss) 0):=⟨hos.len,λx hx=>by rw[hos.at_ x hx,if_pos Z.o]⟩;have huo:=hos.up;clear hN hE hR' hc zW yZ;simp only[eL];obtain⟨f,ef⟩:=Z.f (J (nxF ss) (Bc ss) 0);have hG:=ZU yC hL (f:=f) (B:=0) (Int.le_refl _) (λx _=>by rw[ef]);rw[ef] at hos;rw[<- nL] at yC hL hG;have hn2:n<=200:=by have:=hok.le;omega
 have hll:∀j:Nat,j<n->Bc ss j<=1099511627776:=λj hj=>by
  have hj:j<ss.length:=(by omega);unfold Bc;rw[List.getElem?_eq_getElem hj];exact(hok.seg j hj ss[j] (List.getElem?_eq_getElem hj)).le
 refine Ae.data hw (S:=Int×List (List AV)) (λs=>fr 90 [(1,.ref 0 2 0 0),(3,.sl 1 1 0 n),(33,L),(34,s.1)]) (λs=>[.live 2 [[.list 3 es,.list 5 ds]],.live 1 s.2]) (λs=>0<=s.1/\s.1<=L/\∃f,Own n s.2 f/\Gr0 n (nxF ss) (Bc ss) s.1.toNat (s.1*439804651110400) f) (λs=>(L-s.1).toNat) (0,os) Z.i ⟨Int.le_refl _,L0,f,hos,by simpa using hG⟩ ?_;clear hG hos ef f
 rintro⟨r,os⟩ zJ Q' hN hE hR'
 have zJ:0<=r/\r<=L/\∃f,Own n os f/\Gr0 n (nxF ss) (Bc ss) r.toNat (r*439804651110400) f:=zJ;cbv;obtain⟨hr0,hr1,f,hos,hG⟩:=zJ;have huo:=hos.up;(split<;>rename_i hc<;>(try (simp only[eL] at hc))<;>(try (simp only[hz,Z.a,AF,AC,AO,AP,AL,reduceCtorEq] at hc))<;>(try cbv))
 ·simp only[eL]
  obtain⟨r',er'⟩:=Z.f (r+1);have er:zB .add .i64 r 1=r':=(by rw[zC,Ag Z.o Z.o];exact er');have hT:(L-r').toNat<(L-r).toNat:=(by omega);obtain⟨rn,ern⟩:=Z.f r.toNat;rw[ern] at hG;refine Ae.data hw (S:=Int×List (List AV)) (λs=>fr 90 [(1,.ref 0 2 0 0),(3,.sl 1 1 0 n),(33,L),(34,r),(37,.list 3 es),(38,L),(39,s.1)]) (λs=>[.live 2 [[.list 3 es,.list 5 ds]],.live 1 s.2]) (λs=>0<=s.1/\s.1<=L/\∃f,Own n s.2 f/\Gs n (nxF ss) (Bc ss) rn s.1.toNat 0 (r*439804651110400+s.1*2199023255552) f) (λs=>(L-s.1).toNat) (0,os) Z.i ⟨Int.le_refl _,L0,f,hos,by have:=ZV yC hL hG;simpa using this⟩ ?_;clear hG hos huo
  rintro⟨i,os⟩ zJ Q2 hN2 hE2 hR2
  have zJ:0<=i/\i<=L/\∃f,Own n os f/\Gs n (nxF ss) (Bc ss) rn i.toNat 0 (r*439804651110400+i*2199023255552) f:=zJ;cbv;obtain⟨zW,yZ,f,hos,hG⟩:=zJ;have huo:=hos.up;(split<;>rename_i hc2<;>(try (simp only[hz,Z.a,AF,AC,AO,AP,AL,reduceCtorEq] at hc2))<;>(try cbv))
  ·obtain⟨⟨len,ps,nx⟩,hd,zL⟩:=BI (f:=Ah) (ds:=ss) (i:=i) zW Z.o
   obtain⟨q1,eq1⟩:=Z.f (ps.map Ap);obtain⟨n1,en1⟩:=Z.f (nx.map Ac);have zL:es[i.toNat]?=some [.int .i64 len,.list 2 q1,.list 1 n1]:=(by rw[zQ,<- eq1,<- en1];exact zL);have yJ:Up0 n1:=(by rw[<- en1];exact CG nx);have hnl:n1.length=nx.length:=by rw[<- en1];simp
   (obtain⟨K,eK,K0,Kn⟩:∃L:Int,zK n1=L/\0<=L/\L.toNat=n1.length:=⟨(n1.length:Int),by rw[zH],Int.natCast_nonneg _,Int.toNat_natCast _⟩)
   obtain⟨i',ei'⟩:=Z.f (i+1);have ei:zB .add .i64 i 1=i':=(by rw[zC,Ag Z.o Z.o];exact ei');have hT2:(L-i').toNat<(L-i).toNat:=(by omega);obtain⟨m,em⟩:=Z.f i.toNat;have hm:m<n:=(by omega);have em':i'.toNat=m+1:=(by omega);have enx:nxF ss m=nx:=(by unfold nxF;rw[<- em,hd]);rw[em] at hG;have hK2:nx.length<=2:=(by rw[em] at hd;exact(hok.seg m Z.o _ hd).two);refine Idx.mk [.int .i64 len,.list 2 q1,.list 1 n1] zW zL ?_;cbv;simp only[eK];refine Ae.data hw (S:=Int×List (List AV)) (λs=>fr 90 [(1,.ref 0 2 0 0),(3,.sl 1 1 0 n),(6,i),(33,L),(34,r),(37,.list 3 es),(38,L),(39,i),(45,.list 1 n1),(46,K),(47,s.1)]) (λs=>[.live 2 [[.list 3 es,.list 5 ds]],.live 1 s.2]) (λs=>0<=s.1/\s.1<=K/\∃f,Own n s.2 f/\Gs n (nxF ss) (Bc ss) rn m s.1.toNat (r*439804651110400+i*2199023255552+s.1*1099511627776) f) (λs=>(K-s.1).toNat) (0,os) Z.i ⟨Int.le_refl _,K0,f,hos,by simpa using hG⟩ ?_;clear hG hos huo
   rintro⟨k,os⟩ zJ Q3 hN3 hE3 hR3
   have zJ:0<=k/\k<=K/\∃f,Own n os f/\Gs n (nxF ss) (Bc ss) rn m k.toNat (r*439804651110400+i*2199023255552+k*1099511627776) f:=zJ;cbv;obtain⟨hk0,hk1,f,hos,hG⟩:=zJ;have huo:=hos.up;(split<;>rename_i hc3<;>(try (simp only[hz,Z.a,AF,AC,AO,AP,AL,reduceCtorEq] at hc3))<;>(try cbv))
   ·obtain⟨j,hj,hjr⟩:=BI (f:=Ac) (ds:=nx) (i:=k) hk0 Z.o
    have hjr:n1[k.toNat]?=some [.int .i64 j]:=(by rw[<- en1];exact hjr);obtain⟨k',ek'⟩:=Z.f (k+1);have ekk:zB .add .i64 k 1=k':=(by rw[zC,Ag Z.o Z.o];exact ek');have hT3:(K-k').toNat<(K-k).toNat:=(by omega);refine Idx.mk [.int .i64 j] hk0 hjr ?_;cbv;have hjm:j∈nxF ss m:=by rw[enx];exact List.mem_of_getElem? hj
    have hjb:0<=j/\j<n:=by
     rw[em] at hd;have:=(hok.seg m Z.o _ hd).nx k.toNat (List.getElem?_eq_some_iff.1 hj).1 j hj;omega
    obtain⟨hj0,hjl⟩:=hjb;obtain⟨jn,ejn⟩:=Z.f j.toNat;have hjn:jn<n:=(by omega);have hjz:0+j.toNat=jn:=(by rw[Nat.zero_add];exact ejn);have hmz:0+i.toNat=m:=(by rw[Nat.zero_add];exact em);have hil:i<n:=(by omega);obtain⟨⟨len2,ps2,nx2⟩,hd2,yW⟩:=BI (f:=Ah) (ds:=ss) (i:=j) hj0 Z.o;obtain⟨q2,eq2⟩:=Z.f (ps2.map Ap);obtain⟨n2,en2⟩:=Z.f (nx2.map Ac);have yW:es[j.toNat]?=some [.int .i64 len2,.list 2 q2,.list 1 n2]:=(by rw[zQ,<- eq2,<- en2];exact yW);have el2:Bc ss jn=len2:=(by unfold Bc;rw[<- ejn,hd2]);have hl1:=hL jn hjn;have hl2:=hll jn hjn;rw[el2] at hl1 hl2;have hrj:=hos.at_ jn hjn;have hri:=hos.at_ m hm;have hgj:=hG.ge jn hjn;have hgi:=hG.ge m hm;obtain⟨cj,ecj⟩:=Z.f (f jn);obtain⟨ci,eci⟩:=Z.f (f m);rw[ecj] at hrj hgj;rw[eci] at hri hgi;obtain⟨fa,efa⟩:=Z.f (cj+len2);have efw:zB .add .i64 cj len2=fa:=(by rw[zC,Ag Z.o Z.o];exact efa);obtain⟨os',eos'⟩:=Z.f (os.set m [.int .i64 fa]);have hos':Own n os' (upd f m fa):=(by rw[<- eos'];exact hos.set fa);have huo':=hos'.up;have ekn:k'.toNat=k.toNat+1:=by omega
    have hkey:∀g,(∀x,x<n->g x=if x=m then bst ci cj len2 else f x)->Gs n (nxF ss) (Bc ss) rn m k'.toNat (r*439804651110400+i*2199023255552+k'*1099511627776) g:=by
     intro g hg;rw[ekn];refine ZZ yC hL hm hG (j:=j) (by rw[enx];exact hj) (by rw[ejn,el2];omega) (by rw[ejn,el2];omega) λx hx=>?_;rw[hg x hx,ejn,el2,ecj,eci]
    repeat' (first
     | (simp only[efw,ekk];cbv)
     | (simp only[efw,ekk])
     | (refine At.mk jn hj0 hjl hjz ?_;cbv)
     | (refine At.mk m zW hil hmz ?_;cbv)
     | (refine Ik.mk [.int .i64 cj] hrj ?_;cbv)
     | (refine Ik.mk [.int .i64 ci] hri ?_;cbv)
     | (refine Idx.mk [.int .i64 len2,.list 2 q2,.list 1 n2] hj0 yW ?_;cbv)
     | (refine Ie.mk [.int .i64 ci] os' hri eos'.symm ?_;cbv)
     | (split<;>rename_i h<;>(try (simp only[efw,ekk] at h))<;>(try (simp only[hz,Z.a,AF,AC,AO,AP,AL,reduceCtorEq] at h))<;>(try cbv)))
    all_goals first
     | (refine hN3 (k',os') _ _ ?hx ?hi hT3
        case hx=>exact Z.i
        case hi =>
         refine⟨by omega,by omega,upd f m fa,hos',hkey _ λx hx=>?_⟩;unfold upd bst;split
         ·split<;>omega
         ·rfl)
     | (refine hN3 (k',os) _ _ ?hx ?hi hT3
        case hx=>exact Z.i
        case hi =>
         refine⟨by omega,by omega,f,hos,hkey _ λx hx=>?_⟩;unfold bst;split
         ·rename_i e
          rw[e,eci];split<;>omega
         ·rfl)
   ·refine hE3 _ _ _ ?_
    cbv;simp only[ei]
    have hG':Gs n (nxF ss) (Bc ss) rn i'.toNat 0 (r*439804651110400+i'*2199023255552) f:=by
     have e1:k.toNat=(nxF ss m).length:=(by rw[enx];omega);rw[e1] at hG;rw[em'];have:=ZX yC hL hm hG;exact⟨this.lo,λx hx=>by have:=this.ge x hx;omega,this.old,this.new,this.at_⟩
    refine hN2 (i',os) _ _ ?hx ?hi hT2
    case hx=>exact Z.i
    case hi=>exact⟨by omega,by omega,f,hos,hG'⟩
  ·refine hE2 _ _ _ ?_
   cbv;simp only[er];have eb:r*439804651110400+L*2199023255552<=r'*439804651110400:=by omega
   have hG':Gr0 n (nxF ss) (Bc ss) r'.toNat (r'*439804651110400) f:=by
    have e1:i.toNat=n:=(by omega);have e2:r'.toNat=rn+1:=(by omega);rw[e1] at hG;rw[e2];have:=ZW yC hL hG;exact⟨this.lo,λx hx=>by have:=this.ge x hx;omega,this.up⟩
   refine hN (r',os) _ _ ?hx ?hi hT
   case hx=>exact Z.i
   case hi=>exact⟨by omega,by omega,f,hos,hG'⟩
 ·refine hE _ _ _ ?_
  cbv;refine⟨_,Vw.sl (es:=os) rfl huo.get (by rw[hos.len];omega),hR _ ⟨os,?_,?_⟩⟩
  ·rw[List.drop_zero,List.take_of_length_le (by rw[hos.len];exact Nat.le_refl _)]
  ·have e1:r.toNat=n:=by omega
   rw[e1] at hG;rw[<- nL];exact⟨hos.len,λx hx=>by rw[hos.at_ x hx,Za yC hL hG hx]⟩
theorem Om{n:Nat}{nx:Nat->List Int}{L:Nat->Int}(yC:∀i,i<n->∀j,j∈nx i->j.toNat<n)(hL:∀i,i<n->1<=L i){M:Int}(hM:0<=M)(hl:∀j,j<n->L j<=M):∀(r:Nat) {i:Nat},i<n->J nx L r i<=r*M
 | 0,i,hi=>by unfold J;split<;>omega
 | r+1,i,hi=>by
   have e:((r+1:Nat):Int)*M=r*M+M:=(by rw[Int.natCast_add,Int.add_mul];simp);rw[e];rcases OQ (L:=L) (cur:=J nx L r) (l:=nx i) (b:=J nx L r i) with h|⟨j,h1,h2,h3⟩
   ·have:=Om yC hL hM hl r hi
    have h:J nx L (r+1) i=J nx L r i:=h;omega
   ·have hj:=yC i hi j h1
    have:=Om yC hL hM hl r hj;have h3:J nx L (r+1) i=J nx L r j.toNat+L j.toNat:=h3;have:=hl _ hj;omega
theorem Sa{ss:List Sg}{gs:List Gr}(h:BN ss gs)(x:Nat)(hx:x<ss.length): -1<=J (nxF ss) (Bc ss) ss.length x/\J (nxF ss) (Bc ss) ss.length x<=1125899906842624:=by
 refine⟨JX (Oj h) (Ol h) _ hx,?_⟩
 have h1:=Om (Oj h) (Ol h) (M:=1099511627776) Z.d (λj hj=>by
  unfold Bc;rw[List.getElem?_eq_getElem hj];exact(h.seg j hj ss[j] (List.getElem?_eq_getElem hj)).le) ss.length hx
 have h2:=h.le;have h3:(ss.length:Int)*1099511627776<=200*1099511627776:=Int.mul_le_mul_of_nonneg_right Z.o Z.d;omega
theorem aQ(ps:List (Int×Int))(q:List (List AV))(hq:q=ps.map Ap)(len:Int):A9 Tryz.prog 183 [.list 2 q,len] (λr=>∃e:Int,r = .int .i64 e/\(e=0↔Hl ps len)):=by
 have hu:Up0 q:=by rw[hq];exact E5 ps
 have hql:q.length=ps.length:=by rw[hq];simp
 refine Z.y Tryz.func183 λzB _ _ _ _ zK hw zC _ yJ _ _ zH hz R hR P hP=>?_;cbv
 (obtain⟨L,eL,L0,Ln⟩:∃L:Int,zK q=L/\0<=L/\L.toNat=q.length:=⟨(q.length:Int),by rw[zH],Int.natCast_nonneg _,Int.toNat_natCast _⟩)
 have hF:¬Hl ps len->R (.int .i64 11):=λhn=>hR _ ⟨_,rfl,⟨λh=>absurd h Z.d,λh=>absurd h hn⟩⟩;(split<;>rename_i h1<;>(try (simp only[eL] at h1))<;>(try (simp only[hz,Z.a,AF,AC,AO,AP,AL,reduceCtorEq] at h1))<;>(try cbv))
 ·exact⟨_,Vw.same rfl,hF λhM=>(by have:=hM.ne;omega)⟩
 (split<;>rename_i h2<;>(try (simp only[eL] at h2))<;>(try (simp only[hz,Z.a,AF,AC,AO,AP,AL,reduceCtorEq] at h2))<;>(try cbv))
 ·exact⟨_,Vw.same rfl,hF λhM=>(by have:=hM.le;omega)⟩
 obtain⟨⟨x,y⟩,hd,zL⟩:=BI (f:=Ap) (ds:=ps) (i:=0) (Int.le_refl 0) Z.o;have zL:q[(0:Int).toNat]?=some [.int .i64 x,.int .i64 y]:=by rw[hq];exact zL
 refine Idx.mk [.int .i64 x,.int .i64 y] Z.d zL ?_;cbv;(split<;>rename_i h3<;>(try (simp only[hz,Z.a,AF,AC,AO,AP,AL,reduceCtorEq] at h3))<;>(try cbv))
 ·exact⟨_,Vw.same rfl,hF λhM=>h3 (hM.zero _ hd)⟩
 refine Ae.data hw (S:=Int) (λi=>fr 59 [(0,.list 2 q),(1,len),(22,.list 2 q),(23,L),(24,i)]) (λi=>[]) (λi=>0<=i/\i<=L/\∀j,j<i.toNat->Ip ps len j) (λi=>(L-i).toNat) 0 Z.i ⟨Int.le_refl _,L0,λj hj=>(by simp at hj)⟩ ?_;rintro i zJ Q' hN hE hR';have zJ:0<=i/\i<=L/\∀j,j<i.toNat->Ip ps len j:=zJ;cbv;obtain⟨zW,yZ,hl⟩:=zJ;(split<;>rename_i hc<;>(try (simp only[eL] at hc))<;>(try (simp only[hz,Z.a,AF,AC,AO,AP,AL,reduceCtorEq] at hc))<;>(try cbv))
 ·obtain⟨⟨a,b⟩,hd2,yW⟩:=BI (f:=Ap) (ds:=ps) (i:=i) zW Z.o
  have yW:q[i.toNat]?=some [.int .i64 a,.int .i64 b]:=(by rw[hq];exact yW);obtain⟨i',ei'⟩:=Z.f (i+1);obtain⟨im,eim⟩:=Z.f (i-1);have ei:zB .add .i64 i 1=i':=(by rw[zC,Ag Z.o Z.o];exact ei');have em:zB .sub .i64 i 1=im:=(by rw[zC,Bj Z.o Z.o];exact eim);have hT:(L-i').toNat<(L-i).toNat:=by omega
  obtain⟨a',b',hp'⟩:∃a' b',0<i->0<=im/\ps[i.toNat-1]?=some (a',b')/\q[im.toNat]?=some [.int .i64 a',.int .i64 b']:=by
   by_cases h:0<i
   ·obtain⟨⟨a',b'⟩,k1,k2⟩:=BI (f:=Ap) (ds:=ps) (i:=im) Z.o Z.o
    exact⟨a',b',λ_=>⟨by omega,by rw[<- k1];congr 1;omega,by rw[hq];exact k2⟩⟩
   ·exact⟨0,0,λh'=>absurd h' h⟩
  have fin:(-1048576<=b/\b<=1048576/\a<len/\(0<i->a'<a))->∀j,j<i'.toNat->Ip ps len j:=by
   intro hh;rw[<- ei'];refine Fj zW hl λp hp=>?_;rw[hd2] at hp;obtain rfl:(a,b)=p:=(by simpa using hp);refine⟨hh.1,hh.2.1,hh.2.2.1,λhj o ho=>?_⟩;rw[(hp' Z.o).2.1] at ho;obtain rfl:(a',b')=o:=(by simpa using ho);exact hh.2.2.2 Z.o
  have bad:Hl ps len -> -1048576<=b/\b<=1048576/\a<len/\(0<i->a'<a):=by
   intro hM;obtain⟨m1,m2,m3,m4⟩:=hM.all i.toNat Z.o _ hd2;exact⟨m1,m2,m3,λh=>m4 Z.o _ (hp' h).2.1⟩
  repeat' (first
   | (refine hR' _ _ ⟨_,Vw.same rfl,hF λhM=>?_⟩;obtain⟨m1,m2,m3,m4⟩:=bad hM;clear hN hE hR' hR hF;omega)
   | (refine Idx.mk [.int .i64 a,.int .i64 b] zW yW ?_;cbv)
   | (simp only[em];refine Idx.mk [.int .i64 a',.int .i64 b'] (hp' Z.m).1 (hp' Z.m).2.2 ?_;cbv)
   | (split<;>rename_i h<;>(try (simp only[hz,Z.a,AF,AC,AO,AP,AL,reduceCtorEq] at h))<;>(try cbv)))
  all_goals
   refine hN i' _ _ ?hx ?hi hT
   case hx=>exact Z.i
   case hi=>exact⟨by omega,by omega,fin ⟨by omega,by omega,by omega,by omega⟩⟩
 ·refine hE _ _ _ ?_
  cbv;exact⟨_,Vw.same rfl,hR _ ⟨_,rfl,⟨λ_=>⟨by omega,by omega,λp hp=>(by rw[show ps[0]?=some (x,y) from hd] at hp;obtain rfl:(x,y)=p:=(by simpa using hp);exact h3),λj hj=>hl j Z.o⟩,λ_=>rfl⟩⟩⟩
def Oo(nx:List Int)(many:Int)(j:Nat):Prop:=∀n,nx[j]?=some n->0<=n/\n<many/\(0<j->∀o,nx[j-1]?=some o->o<n)
theorem aR(s:Sg)(q n1:List (List AV))(hq:q=s.ps.map Ap)(hn1:n1=s.nx.map Ac)(es ds:List (List AV))(hu:Up0 es)(hud:Up0 ds)(many:Int)(hmany:many.toNat=es.length)(hm0:0<=many):A9 Tryz.prog 126 [.agg [.list 3 es,.list 5 ds],.agg [s.len,.list 2 q,.list 1 n1]] (λr=>∃o:Bool,r = .bool o/\(o=true↔Ci s many)):=by
 obtain⟨len,ps,nx⟩:=s;have hq:q=ps.map Ap:=hq;have hn1:n1=nx.map Ac:=hn1;have huq:Up0 q:=by rw[hq];exact E5 ps
 have yJ:Up0 n1:=by rw[hn1];exact CG nx
 have hnl:n1.length=nx.length:=by rw[hn1];simp
 refine Z.y Tryz.func126 λzB _ _ _ _ zK hw zC _ _ _ _ zH hz R hR P hP=>?_;cbv
 (obtain⟨L,eL,L0,Ln⟩:∃L:Int,zK n1=L/\0<=L/\L.toNat=n1.length:=⟨(n1.length:Int),by rw[zH],Int.natCast_nonneg _,Int.toNat_natCast _⟩)
 (obtain⟨M,eM,M0,Mn⟩:∃L:Int,zK es=L/\0<=L/\L.toNat=es.length:=⟨(es.length:Int),by rw[zH],Int.natCast_nonneg _,Int.toNat_natCast _⟩)
 obtain rfl:M=many:=by omega
 have hF:¬Ci ⟨len,ps,nx⟩ M->R (.bool false):=λhn=>hR _ ⟨_,rfl,⟨λh=>(by cases h),λh=>absurd h hn⟩⟩;(split<;>rename_i h1<;>(try (simp only[hz,Z.a,AF,AC,AO,AP,AL,reduceCtorEq] at h1))<;>(try cbv))
 ·exact⟨_,Vw.same rfl,hF λhM=>(by have k:1<=len:=hM.pos;omega)⟩
 (split<;>rename_i h2<;>(try (simp only[hz,Z.a,AF,AC,AO,AP,AL,reduceCtorEq] at h2))<;>(try cbv))
 ·exact⟨_,Vw.same rfl,hF λhM=>(by have k:len<=1099511627776:=hM.le;omega)⟩
 refine Call.step (by rw[<- hP];exact aQ ps q hq len) (by exact Up0.one huq rfl) ?_;rintro r ⟨o,rfl,hmay⟩;cbv;(split<;>rename_i h3<;>(try (simp only[hz,Z.a,AF,AC,AO,AP,AL,reduceCtorEq] at h3))<;>(try cbv))
 ·exact⟨_,Vw.same rfl,hF λhM=>h3 (hmay.2 hM.may)⟩
 have hmay:=hmay.1 h3;(split<;>rename_i h4<;>(try (simp only[eL] at h4))<;>(try (simp only[hz,Z.a,AF,AC,AO,AP,AL,reduceCtorEq] at h4))<;>(try cbv))
 ·exact⟨_,Vw.same rfl,hF λhM=>(by have k:nx.length<=2:=hM.two;omega)⟩
 simp only[eL];refine Ae.data hw (S:=Int) (λi=>fr 61 [(2,.ref 0 2 0 0),(3,.ref 1 3 0 0),(30,.list 1 n1),(31,L),(32,i)]) (λi=>[.live 2 [[.list 3 es,.list 5 ds]],.live 3 [[len,.list 2 q,.list 1 n1]]]) (λi=>0<=i/\i<=L/\∀j,j<i.toNat->Oo nx M j) (λi=>(L-i).toNat) 0 Z.i ⟨Int.le_refl _,L0,λj hj=>(by simp at hj)⟩ ?_;rintro i zJ Q' hN hE hR';have zJ:0<=i/\i<=L/\∀j,j<i.toNat->Oo nx M j:=zJ;cbv;obtain⟨zW,yZ,hl⟩:=zJ;(split<;>rename_i hc<;>(try (simp only[eL] at hc))<;>(try (simp only[hz,Z.a,AF,AC,AO,AP,AL,reduceCtorEq] at hc))<;>(try cbv))
 ·obtain⟨n,hd2,yW⟩:=BI (f:=Ac) (ds:=nx) (i:=i) zW Z.o
  have yW:n1[i.toNat]?=some [.int .i64 n]:=(by rw[hn1];exact yW);obtain⟨i',ei'⟩:=Z.f (i+1);obtain⟨im,eim⟩:=Z.f (i-1);have ei:zB .add .i64 i 1=i':=(by rw[zC,Ag Z.o Z.o];exact ei');have em:zB .sub .i64 i 1=im:=(by rw[zC,Bj Z.o Z.o];exact eim);have hT:(L-i').toNat<(L-i).toNat:=by omega
  obtain⟨o',hp'⟩:∃o',0<i->0<=im/\nx[i.toNat-1]?=some o'/\n1[im.toNat]?=some [.int .i64 o']:=by
   by_cases h:0<i
   ·obtain⟨o',k1,k2⟩:=BI (f:=Ac) (ds:=nx) (i:=im) Z.o Z.o
    exact⟨o',λ_=>⟨by omega,by rw[<- k1];congr 1;omega,by rw[hn1];exact k2⟩⟩
   ·exact⟨0,λh'=>absurd h' h⟩
  have bad:Ci ⟨len,ps,nx⟩ M->0<=n/\n<M/\(0<i->o'<n):=λhM=>by
   obtain⟨k1,k2⟩:=hM.nx i.toNat (show i.toNat<nx.length by omega) n hd2;refine⟨k1,k2,λh=>?_⟩;have h1:i.toNat=1:=(by omega);have p1:=(hp' h).2.1;rw[h1] at p1 hd2;exact hM.lt o' n p1 hd2
  have fin:(0<=n/\n<M/\(0<i->o'<n))->∀j,j<i'.toNat->Oo nx M j:=by
   intro hh;rw[<- ei'];refine Fj zW hl λm hm=>?_;rw[hd2] at hm;obtain rfl:n=m:=(by simpa using hm);refine⟨hh.1,hh.2.1,λhj o ho=>?_⟩;rw[(hp' Z.o).2.1] at ho;obtain rfl:o'=o:=(by simpa using ho);exact hh.2.2 Z.o
  repeat' (first
   | (refine hR' _ _ ⟨_,Vw.same rfl,hF λhM=>?_⟩;obtain⟨m1,m2,m3⟩:=bad hM;clear hN hE hR' hR hF;omega)
   | (refine Idx.mk [.int .i64 n] zW yW ?_;cbv)
   | (simp only[em];refine Idx.mk [.int .i64 o'] (hp' Z.m).1 (hp' Z.m).2.2 ?_;cbv)
   | (split<;>rename_i h<;>(try (simp only[eL,eM] at h))<;>(try (simp only[hz,Z.a,AF,AC,AO,AP,AL,reduceCtorEq] at h))<;>(try cbv)))
  all_goals
   refine hN i' _ _ ?hx ?hi hT
   case hx=>(refine Z.k (λj=>[0,1].getD j 0) ?_;cbv<;>exact Z.q)
   case hi=>exact⟨by omega,by omega,fin ⟨by omega,by omega,by omega⟩⟩
 ·refine hE _ _ _ ?_
  cbv;refine⟨_,Vw.same rfl,hR _ ⟨_,rfl,⟨λ_=>⟨h1,by omega,hmay,by simp only;omega,λj hj n hn=>?_,λa b ha hb=>?_⟩,λ_=>rfl⟩⟩⟩
  ·have:=hl j (by simp only at hj;omega) n hn
   exact⟨this.1,this.2.1⟩
  ·have hb1:=(List.getElem?_eq_some_iff.1 hb).1
   exact(hl 1 (by simp only at hb1;omega) b hb).2.2 Z.d a ha
theorem aU(ss:List Sg)(gs:List Gr)(hsl:ss.length<=1000000)(hgl:gs.length<=1000000)(es ds:List (List AV))(zQ:es=ss.map Ah)(zY:ds=gs.map Ak)(i g1 g2 g3 g4 g5:Int)(zW:0<=i)(hd:gs[i.toNat]?=some ⟨g1,g2,g3,g4,g5⟩) :
 A9 Tryz.prog 127 [.agg [.list 3 es,.list 5 ds],i,.agg [g1,g2,g3,g4,g5]] (λr=>∃o:Bool,r = .bool o/\(o=true↔Ig ss gs i.toNat)):=by
 have hu:Up0 es:=by rw[zQ];exact Bu ss
 have hud:Up0 ds:=by rw[zY];exact Bv gs
 have hel:es.length=ss.length:=by rw[zQ];simp
 have hil:i.toNat<gs.length:=(List.getElem?_eq_some_iff.1 hd).1;obtain⟨im,eim⟩:=Z.f (i-1)
 obtain⟨p1,p2,p3,p4,p5,hp⟩:∃p1 p2 p3 p4 p5,0<i->0<=im/\gs[i.toNat-1]?=some ⟨p1,p2,p3,p4,p5⟩/\ds[im.toNat]?=some [.int .i64 p1,.int .i64 p2,.int .i64 p3,.int .i64 p4,.int .i64 p5]:=by
  by_cases h:0<i
  ·obtain⟨⟨p1,p2,p3,p4,p5⟩,k1,k2⟩:=BI (f:=Ak) (ds:=gs) (i:=im) Z.o Z.o
   exact⟨p1,p2,p3,p4,p5,λ_=>⟨by omega,by rw[<- k1];congr 1;omega,by rw[zY];exact k2⟩⟩
  ·exact⟨0,0,0,0,0,λh'=>absurd h' h⟩
 obtain⟨len,q1,n1,yD⟩:∃len q1 n1,0<=g2->g2.toNat<ss.length->es[g2.toNat]?=some [.int .i64 len,.list 2 q1,.list 1 n1]/\∀s,ss[g2.toNat]?=some s->s.len=len:=by
  by_cases h:0<=g2/\g2.toNat<ss.length
  ·obtain⟨⟨len,ps,nx⟩,k1,k2⟩:=BI (f:=Ah) (ds:=ss) (i:=g2) h.1 Z.o
   exact⟨len,_,_,λ_ _=>⟨by rw[zQ];exact k2,λs hs=>by rw[k1] at hs;obtain rfl:(⟨len,ps,nx⟩:Sg)=s:=(by simpa using hs);rfl⟩⟩
  ·exact⟨0,[],[],λh' h''=>absurd ⟨h',h''⟩ h⟩
 have key:Ig ss gs i.toNat↔(1<=g1/\g1<=65535/\(0<i->p1<g1)/\0<=g2/\g2.toNat<ss.length/\0<=g3/\g3<=len/\0<=g4/\g4<=1048576/\0<=g5/\g5<=16777216):=by
  constructor
  ·intro h
   obtain⟨k1,k2,k3,k4,k5,k6,k7,k8,k9,k10,k11⟩:=h _ hd;simp only at k1 k2 k3 k4 k5 k6 k7 k8 k9 k10 k11;obtain⟨s,hs⟩:∃s,ss[g2.toNat]?=some s:=⟨_,List.getElem?_eq_getElem k4⟩;exact⟨by omega,k2,λhi=>k11 Z.o _ (hp hi).2.1,k3,k4,k5,by have:=k6 s hs;rw[(yD k3 k4).2 s hs] at this;exact this,k7,k8,k9,k10⟩
  ·rintro⟨k1,k2,k3,k4,k5,k6,k7,k8,k9,k10,k11⟩ g hg
   rw[hd] at hg;obtain rfl:(⟨g1,g2,g3,g4,g5⟩:Gr)=g:=(by simpa using hg);refine⟨by simp only;omega,k2,k4,k5,k6,λs hs=>by rw[(yD k4 k5).2 s hs];exact k7,k8,k9,k10,k11,λhj o ho=>?_⟩;rw[(hp Z.o).2.1] at ho;obtain rfl:(⟨p1,p2,p3,p4,p5⟩:Gr)=o:=(by simpa using ho);exact k3 Z.o
 rw[key];clear key;refine Z.y Tryz.func127 λzB _ _ _ _ zK _ zC zA _ _ _ zH hz R hR P hP=>?_;cbv
 (obtain⟨L,eL,L0,Ln⟩:∃L:Int,zK es=L/\0<=L/\L.toNat=es.length:=⟨(es.length:Int),by rw[zH],Int.natCast_nonneg _,Int.toNat_natCast _⟩)
 have em:0<i->zB .sub .i64 i 1=im:=λh=>by rw[zC,Bj Z.o Z.o];exact eim
 have hF:¬(1<=g1/\g1<=65535/\(0<i->p1<g1)/\0<=g2/\g2.toNat<ss.length/\0<=g3/\g3<=len/\0<=g4/\g4<=1048576/\0<=g5/\g5<=16777216)->R (.bool false):=λhn=>hR _ ⟨_,rfl,⟨λh=>(by cases h),λh=>absurd h hn⟩⟩
 repeat' (first
  | exact⟨_,Vw.same rfl,hF Z.o⟩
  | (simp only[em Z.m];refine Idx.mk [.int .i64 p1,.int .i64 p2,.int .i64 p3,.int .i64 p4,.int .i64 p5] (hp Z.m).1 (hp Z.m).2.2 ?_;cbv)
  | (refine Idx.mk [.int .i64 len,.list 2 q1,.list 1 n1] Z.o (yD Z.o Z.o).1 ?_;cbv)
  | (split<;>rename_i h<;>(try (simp only[eL] at h))<;>(try (simp only[hz,Z.a,AF,AC,AO,AP,AL,reduceCtorEq] at h))<;>(try cbv)))
 all_goals
  refine⟨_,Vw.same rfl,hR _ ⟨_,rfl,?_⟩⟩;rw[zA];simp only[AC,decide_eq_true_eq];omega
theorem QI(ss:List Sg)(gs:List Gr)(hsl:ss.length<=1000000)(hgl:gs.length<=1000000)(es ds:List (List AV))(zQ:es=ss.map Ah)(zY:ds=gs.map Ak):A9 Tryz.prog 67 [.agg [.list 3 es,.list 5 ds]] (λr=>∃e i,r = .tuple [.int .i64 e,.int .i64 i]/\(e=0↔BN ss gs)):=by
 have hu:Up0 es:=by rw[zQ];exact Bu ss
 have hud:Up0 ds:=by rw[zY];exact Bv gs
 have hel:es.length=ss.length:=by rw[zQ];simp
 have hdl:ds.length=gs.length:=by rw[zY];simp
 refine Z.y Tryz.func67 λzB _ _ _ zF zK hw zC _ yJ _ zI zH hz R hR P hP=>?_;cbv
 (obtain⟨L,eL,L0,Ln⟩:∃L:Int,zK es=L/\0<=L/\L.toNat=es.length:=⟨(es.length:Int),by rw[zH],Int.natCast_nonneg _,Int.toNat_natCast _⟩)
 (obtain⟨J,eJ,J0,Jn⟩:∃L:Int,zK ds=L/\0<=L/\L.toNat=ds.length:=⟨(ds.length:Int),by rw[zH],Int.natCast_nonneg _,Int.toNat_natCast _⟩)
 have hF:∀e i:Int,e≠0->¬BN ss gs->R (.tuple [e,i]):=λe i he hn=>hR _ ⟨_,_,rfl,λh=>absurd h he,λh=>absurd h hn⟩;(split<;>rename_i h1<;>(try (simp only[eL] at h1))<;>(try (simp only[hz,Z.a,AF,AC,AO,AP,AL,reduceCtorEq] at h1))<;>(try cbv))
 ·exact⟨_,Vw.same rfl,hF _ _ Z.d λhM=>(by have:=hM.ne;omega)⟩
 (split<;>rename_i h2<;>(try (simp only[eL] at h2))<;>(try (simp only[hz,Z.a,AF,AC,AO,AP,AL,reduceCtorEq] at h2))<;>(try cbv))
 ·exact⟨_,Vw.same rfl,hF _ _ Z.d λhM=>(by have:=hM.le;omega)⟩
 (split<;>rename_i h3<;>(try (simp only[eJ] at h3))<;>(try (simp only[hz,Z.a,AF,AC,AO,AP,AL,reduceCtorEq] at h3))<;>(try cbv))
 ·exact⟨_,Vw.same rfl,hF _ _ Z.d λhM=>(by have:=hM.gle;omega)⟩
 simp only[eL];refine Ae.data hw (S:=Int) (λi=>fr 53 [(1,.ref 0 2 0 0),(25,.list 3 es),(26,L),(27,i)]) (λi=>[.live 2 [[.list 3 es,.list 5 ds]]]) (λi=>0<=i/\i<=L/\∀j,j<i.toNat->∀s,ss[j]?=some s->Ci s L) (λi=>(L-i).toNat) 0 Z.i ⟨Int.le_refl _,L0,λj hj=>(by simp at hj)⟩ ?_;rintro i zJ Q' hN hE hR';have zJ:0<=i/\i<=L/\∀j,j<i.toNat->∀s,ss[j]?=some s->Ci s L:=zJ;cbv;obtain⟨zW,yZ,hl⟩:=zJ;have eLL:L.toNat=ss.length:=by omega
 have hLL:∀s,Ci s (ss.length:Int)↔Ci s L:=λs=>by rw[show (ss.length:Int)=L by omega]
 have n1:zF true=false:=by rw[zI];rfl
 have n2:zF false=true:=by rw[zI];rfl
 (split<;>rename_i hc<;>(try (simp only[eL] at hc))<;>(try (simp only[hz,Z.a,AF,AC,AO,AP,AL,reduceCtorEq] at hc))<;>(try cbv))
 ·obtain⟨⟨len,ps,nx⟩,hd,zL⟩:=BI (f:=Ah) (ds:=ss) (i:=i) zW Z.o
  obtain⟨q1,eq1⟩:=Z.f (ps.map Ap);obtain⟨m1,en1⟩:=Z.f (nx.map Ac);have zL:es[i.toNat]?=some [.int .i64 len,.list 2 q1,.list 1 m1]:=(by rw[zQ,<- eq1,<- en1];exact zL);have huq:Up0 q1:=(by rw[<- eq1];exact E5 ps);have yJ:Up0 m1:=(by rw[<- en1];exact CG nx);obtain⟨i',ei'⟩:=Z.f (i+1);have ei:zB .add .i64 i 1=i':=(by rw[zC,Ag Z.o Z.o];exact ei');have hT:(L-i').toNat<(L-i).toNat:=(by omega);refine Idx.mk [.int .i64 len,.list 2 q1,.list 1 m1] zW zL ?_;cbv;refine Call.step (by rw[<- hP];exact aR ⟨len,ps,nx⟩ q1 m1 eq1.symm en1.symm es ds hu hud L Z.o L0) (by first|rfl|(repeat' (first|exact rfl|assumption|refine uc ?_ ?_|exact ul Z.m|refine ua ?_))) ?_;rintro r ⟨o,rfl,ho⟩;cbv
  cases o with
  | false =>
    simp only[n2];cbv;refine hR' _ _ ⟨_,Vw.same rfl,hF _ _ Z.d λhM=>?_⟩;have:=ho.2 ((hLL _).1 (hM.seg i.toNat Z.o _ hd));cases this
  | true =>
    simp only[n1];cbv;simp only[ei];refine hN i' _ _ ?hx ?hi hT
    case hx=>exact Z.i
    case hi =>
     refine⟨by omega,by omega,?_⟩;rw[<- ei'];refine Fj zW hl λm hm=>?_;rw[hd] at hm;obtain rfl:(⟨len,ps,nx⟩:Sg)=m:=(by simpa using hm);exact ho.1 rfl
 refine hE _ _ _ ?_;cbv;have hseg:∀j,j<ss.length->∀s,ss[j]?=some s->Ci s L:=λj hj=>hl j Z.o;clear hl hN hE hR';simp only[eJ];refine Ae.data hw (S:=Int) (λi=>fr 53 [(1,.ref 0 2 0 0),(39,.list 5 ds),(40,J),(41,i)]) (λi=>[.live 2 [[.list 3 es,.list 5 ds]]]) (λi=>0<=i/\i<=J/\∀j,j<i.toNat->Ig ss gs j) (λi=>(J-i).toNat) 0 Z.i ⟨Int.le_refl _,J0,λj hj=>(by simp at hj)⟩ ?_;rintro i zJ Q' hN hE hR';have zJ:0<=i/\i<=J/\∀j,j<i.toNat->Ig ss gs j:=zJ;cbv;obtain⟨zW,yZ,hl⟩:=zJ;(split<;>rename_i hc<;>(try (simp only[eJ] at hc))<;>(try (simp only[hz,Z.a,AF,AC,AO,AP,AL,reduceCtorEq] at hc))<;>(try cbv))
 ·obtain⟨⟨g1,g2,g3,g4,g5⟩,hd,zL⟩:=BI (f:=Ak) (ds:=gs) (i:=i) zW Z.o
  have zL:ds[i.toNat]?=some [.int .i64 g1,.int .i64 g2,.int .i64 g3,.int .i64 g4,.int .i64 g5]:=(by rw[zY];exact zL);obtain⟨i',ei'⟩:=Z.f (i+1);have ei:zB .add .i64 i 1=i':=(by rw[zC,Ag Z.o Z.o];exact ei');have hT:(J-i').toNat<(J-i).toNat:=(by omega);have hgi:∀P:Nat->Prop,(∀j,j<i.toNat->P j)->P i.toNat->∀j,j<i'.toNat->P j:=λP h1 h2=>(by rw[<- ei'];exact Fj zW h1 h2);refine Idx.mk [.int .i64 g1,.int .i64 g2,.int .i64 g3,.int .i64 g4,.int .i64 g5] zW zL ?_;cbv;refine Call.step (by rw[<- hP];exact aU ss gs hsl hgl es ds zQ zY i g1 g2 g3 g4 g5 zW hd) (by first|rfl|(repeat' (first|exact rfl|assumption|refine uc ?_ ?_|exact ul Z.m|refine ua ?_))) ?_;rintro r ⟨o,rfl,ho⟩;cbv
  cases o with
  | false =>
    simp only[n2];cbv;refine hR' _ _ ⟨_,Vw.same rfl,hF _ _ Z.d λhM=>?_⟩;have:=ho.2 (hM.grp i.toNat Z.o);cases this
  | true =>
    simp only[n1];cbv;simp only[ei];refine hN i' _ _ ?hx ?hi hT
    case hx=>exact Z.i
    case hi=>exact⟨by omega,by omega,hgi _ hl (ho.1 rfl)⟩
 refine hE _ _ _ ?_;cbv;exact⟨_,Vw.same rfl,hR _ ⟨_,_,rfl,λ_=>⟨by omega,by omega,by omega,λj hj s hs=>(hLL s).2 (hseg j hj s hs),λj hj=>hl j Z.o⟩,λ_=>rfl⟩⟩
theorem Vw.rows{h:A7}{z:Nat}{es rs:List (List AV)}(hl:es.length=rs.length)(hz:∀r,r∈rs->r.length=z)(H:∀(i:Nat) (r:List AV),rs[i]?=some r->∃e,es[i]?=some e/\VwL h e r):Vw h (.list z es) (.list z rs):=by
 intro C hC RC u hu;rcases hu.lists with ⟨⟨a,cap,rfl⟩,he⟩|⟨a,cap,f,rfl,hcap,hsp,hz',hcell,hown,hvv⟩
 ·have:rs=[]:=by rw[he] at hl;exact List.length_eq_zero_iff.1 hl.symm
  subst this;exact .listNil z a cap
 ·refine .list z rs a es.length cap f hl.symm hcap hsp hz (λi j hi hj=>hcell i j hi hj) (λh1 h2 ho=>?_) λi r hr j x hx=>?_
  ·rcases ho with ho|⟨s,⟨z',es',hs⟩,_⟩
   ·exact hown h1 h2 (.inl ho)
   ·simp at hs
  ·obtain⟨e,he,hv⟩:=H i r hr
   obtain⟨k1,k2⟩:=hv.get;obtain⟨v,hv1,hv2⟩:=k2 j x hx;exact hv2 C hC RC _ (hvv i e he j v hv1)
theorem EH(x a b:Int)(o:Bool)(ho:o=decide (a<=x/\x<=b)):A9 Tryz.prog 186 [x,a,b] (· = .bool o):=by
 refine Z.y Tryz.func186 λ_ zE _ _ _ _ _ _ zA _ _ _ _ hz R hR P hP=>?_;cbv;(split<;>rename_i h<;>(try (simp only[hz,Z.a,AF,AC,AO,AP,AL,reduceCtorEq] at h))<;>(try cbv))
 ·have v:zE .leq x b=o:=by rw[zA,ho];simp[AC];omega
  simp only[v];exact Z.r hR
 ·have v:o=false:=by rw[ho];simp;omega
  subst v;exact Z.r hR
theorem aV(c0 c1 c2 c3 c4 c5 c6 c7 c8 c9 c10 c11 c12 c13 p:Int)(h0:1<=c0)(h1:c0<=1024)(h2:0<=c2)(h3:c2<=8388608)(hp:p=(c2+c0-1)/c0):A9 Tryz.prog 196 [.agg [c0,c1,c2,c3,c4,c5,c6,c7,c8,c9,c10,c11,c12,c13]] (· = .int .i64 p):=by
 have hq:Fv true c2 1 c0=(p,0):=by
  rw[Yo h2 Z.d Z.o,Int.mul_one];have hd:=Int.mul_ediv_add_emod c2 c0;have hm0:=Int.emod_nonneg c2 (show c0≠0 by omega);have hm1:=Int.emod_lt_of_pos c2 (show 0<c0 by omega);have hle:c2/c0<=c2:=Int.ediv_le_self _ h2;have hge:0<=c2/c0:=Int.ediv_nonneg h2 Z.o;obtain⟨q,eq⟩:=Z.e (c2/c0);rw[<- eq] at hd hle hge ⊢;by_cases hz:0<c2%c0
  ·have e1:p=q+1:=by
    rw[hp,show c2+c0-1=(c2%c0-1)+(q+1)*c0 by rw[Int.add_mul,Int.one_mul,Int.mul_comm q c0];omega,Int.add_mul_ediv_right _ _ Z.o,Int.ediv_eq_zero_of_lt Z.o Z.o];omega
   rw[if_pos ⟨hz,rfl⟩,e1];unfold Fs;simp only[Bool.false_eq_true,if_false];rw[if_pos Z.o]
  ·have e1:p=q:=by
    rw[hp,show c2+c0-1=(c0-1)+q*c0 by rw[Int.mul_comm q c0];omega,Int.add_mul_ediv_right _ _ Z.o,Int.ediv_eq_zero_of_lt Z.o Z.o];omega
   rw[if_neg (λh=>hz h.1),e1];unfold Fs;simp only[Bool.false_eq_true,if_false];rw[if_pos Z.o]
 have hc:=RZ c2 1 c0 p 0 Z.o Z.o Z.d Z.d Z.o Z.o Z.o hq;refine Z.y Tryz.func196 λ_ _ _ _ _ _ _ _ _ _ _ _ _ hz R hR P hP=>?_;cbv;refine Call.stepE (by rw[<- hP];exact hc) rfl ?_;cbv;exact Z.r hR
def cfL(c0 c1 c2 c3 c4 c5 c6 c7 c8 c9 c10 c11 c12 c13:Int):List AV:=[c0,c1,c2,c3,c4,c5,c6,c7,c8,c9,c10,c11,c12,c13]
def ruO(c0 c1 c2 c3 c4 c5 c6 c7 c8 c9 c10 c11 c12 c13:Int):List Bool:=[decide (¬(c0<1\/1024<c0)),decide (¬(c1<131072\/8388608<c1\/c2<c1\/8388608<c2)),decide (¬(c1<IntKind.i64.wrap (IntKind.i64.wrap (c2-c1)*16))),decide (¬(c3<0\/1048576<c3\/c4<0\/65536<c4)),decide (¬(c5<0\/1048576<c5)),decide (¬(c6<1\/16777216<c6\/c7<1\/1048576<c7)),decide (¬(IntKind.i64.wrap (32000*c1)<IntKind.i64.wrap (c6*c0))),decide (¬(c8<0\/1048576<c8)),decide (¬(c9<1\/1000<c9\/c12<1\/1000<c12)),decide (¬(c10<(c2+c0-1)/c0\/c10<IntKind.i64.wrap (3*c3)\/16777216<c10)),decide (¬(c11<0\/1073741824<c11)),decide (¬(c13<1\/1048576<c13))]
def ruI:List Nat:=[185,187,188,189,190,191,192,193,194,195,197,198]
def ruR(c:List AV):List (List AV):=ruI.map λg=>[.func (.func g) [] [.cref c]]
def Jf:List Bool->Int->Int
 | [],_=>0
 | b::l,k=>if b=true then Jf l (k+1) else k
section
variable (c0 c1 c2 c3 c4 c5 c6 c7 c8 c9 c10 c11 c12 c13:Int)
theorem aW(o:Bool)(ho:o=decide (¬(c0<1\/1024<c0))):A9 Tryz.prog 185 [.cref (cfL c0 c1 c2 c3 c4 c5 c6 c7 c8 c9 c10 c11 c12 c13)] (· = .bool o):=by
 have w0:=EH c0 1 1024 o (by rw[ho];apply decide_eq_decide.2;omega);refine Z.y Tryz.func185 λ_ _ _ _ _ _ _ _ _ _ _ _ _ hz R hR P hP=>?_;cbv;repeat' (first|(refine Call.s hP w0 ?_;cbv)|(refine AB.s hP w0 ?_;cbv)|fail)
 exact Z.r hR
theorem aX(o:Bool)(ho:o=decide (¬(c1<131072\/8388608<c1\/c2<c1\/8388608<c2))):A9 Tryz.prog 187 [.cref (cfL c0 c1 c2 c3 c4 c5 c6 c7 c8 c9 c10 c11 c12 c13)] (· = .bool o):=by
 obtain⟨b0,e0⟩:=Z.e (decide (131072<=c1/\c1<=8388608));obtain⟨b1,e1⟩:=Z.e (decide (c1<=c2/\c2<=8388608));have w0:=EH c1 131072 8388608 b0 e0;have w1:=EH c2 c1 8388608 b1 e1;obtain rfl:o=(b0 && b1):=by rw[ho,e0,e1,<- Bool.decide_and];apply decide_eq_decide.2;omega
 clear ho e0 e1
 cases b0<;>(
  refine Z.y Tryz.func187 λ_ _ _ _ _ _ _ _ _ _ _ _ _ hz R hR P hP=>?_;cbv;repeat' (first|(refine Call.s hP w0 ?_;cbv)|(refine AB.s hP w0 ?_;cbv)|(refine Call.s hP w1 ?_;cbv)|(refine AB.s hP w1 ?_;cbv)|fail)
  exact Z.r hR)
theorem aY(o:Bool)(ho:o=decide (¬(c1<IntKind.i64.wrap (IntKind.i64.wrap (c2-c1)*16)))):A9 Tryz.prog 188 [.cref (cfL c0 c1 c2 c3 c4 c5 c6 c7 c8 c9 c10 c11 c12 c13)] (· = .bool o):=by
 have f:decide (IntKind.i64.wrap (16*IntKind.i64.wrap (c2-c1))<=c1)=o:=by rw[ho,Int.mul_comm];apply decide_eq_decide.2;omega
 clear ho;refine Z.y Tryz.func188 λzB zE _ _ _ _ _ zC zA _ _ _ _ hz R hR P hP=>?_;cbv;have v:zE .leq (zB .mul .i64 16 (zB .sub .i64 c2 c1)) c1=o:=by rw[zA,zC];exact f
 simp only[v];exact Z.r hR
theorem aZ(o:Bool)(ho:o=decide (¬(c3<0\/1048576<c3\/c4<0\/65536<c4))):A9 Tryz.prog 189 [.cref (cfL c0 c1 c2 c3 c4 c5 c6 c7 c8 c9 c10 c11 c12 c13)] (· = .bool o):=by
 obtain⟨b0,e0⟩:=Z.e (decide (0<=c3/\c3<=1048576));obtain⟨b1,e1⟩:=Z.e (decide (0<=c4/\c4<=65536));have w0:=EH c3 0 1048576 b0 e0;have w1:=EH c4 0 65536 b1 e1;obtain rfl:o=(b0 && b1):=by rw[ho,e0,e1,<- Bool.decide_and];apply decide_eq_decide.2;omega
 clear ho e0 e1
 cases b0<;>(
  refine Z.y Tryz.func189 λ_ _ _ _ _ _ _ _ _ _ _ _ _ hz R hR P hP=>?_;cbv;repeat' (first|(refine Call.s hP w0 ?_;cbv)|(refine AB.s hP w0 ?_;cbv)|(refine Call.s hP w1 ?_;cbv)|(refine AB.s hP w1 ?_;cbv)|fail)
  exact Z.r hR)
theorem aa(o:Bool)(ho:o=decide (¬(c5<0\/1048576<c5))):A9 Tryz.prog 190 [.cref (cfL c0 c1 c2 c3 c4 c5 c6 c7 c8 c9 c10 c11 c12 c13)] (· = .bool o):=by
 have w0:=EH c5 0 1048576 o (by rw[ho];apply decide_eq_decide.2;omega);refine Z.y Tryz.func190 λ_ _ _ _ _ _ _ _ _ _ _ _ _ hz R hR P hP=>?_;cbv;repeat' (first|(refine Call.s hP w0 ?_;cbv)|(refine AB.s hP w0 ?_;cbv)|fail)
 exact Z.r hR
theorem af(o:Bool)(ho:o=decide (¬(c6<1\/16777216<c6\/c7<1\/1048576<c7))):A9 Tryz.prog 191 [.cref (cfL c0 c1 c2 c3 c4 c5 c6 c7 c8 c9 c10 c11 c12 c13)] (· = .bool o):=by
 obtain⟨b0,e0⟩:=Z.e (decide (1<=c6/\c6<=16777216));obtain⟨b1,e1⟩:=Z.e (decide (1<=c7/\c7<=1048576));have w0:=EH c6 1 16777216 b0 e0;have w1:=EH c7 1 1048576 b1 e1;obtain rfl:o=(b0 && b1):=by rw[ho,e0,e1,<- Bool.decide_and];apply decide_eq_decide.2;omega
 clear ho e0 e1
 cases b0<;>(
  refine Z.y Tryz.func191 λ_ _ _ _ _ _ _ _ _ _ _ _ _ hz R hR P hP=>?_;cbv;repeat' (first|(refine Call.s hP w0 ?_;cbv)|(refine AB.s hP w0 ?_;cbv)|(refine Call.s hP w1 ?_;cbv)|(refine AB.s hP w1 ?_;cbv)|fail)
  exact Z.r hR)
theorem ah(o:Bool)(ho:o=decide (¬(IntKind.i64.wrap (32000*c1)<IntKind.i64.wrap (c6*c0)))):A9 Tryz.prog 192 [.cref (cfL c0 c1 c2 c3 c4 c5 c6 c7 c8 c9 c10 c11 c12 c13)] (· = .bool o):=by
 have f:decide (IntKind.i64.wrap (c6*c0)<=IntKind.i64.wrap (32000*c1))=o:=by rw[ho];apply decide_eq_decide.2;omega
 clear ho;refine Z.y Tryz.func192 λzB zE _ _ _ _ _ zC zA _ _ _ _ hz R hR P hP=>?_;cbv;have v:zE .leq (zB .mul .i64 c6 c0) (zB .mul .i64 32000 c1)=o:=by rw[zA,zC];exact f
 simp only[v];exact Z.r hR
theorem ak(o:Bool)(ho:o=decide (¬(c8<0\/1048576<c8))):A9 Tryz.prog 193 [.cref (cfL c0 c1 c2 c3 c4 c5 c6 c7 c8 c9 c10 c11 c12 c13)] (· = .bool o):=by
 have w0:=EH c8 0 1048576 o (by rw[ho];apply decide_eq_decide.2;omega);refine Z.y Tryz.func193 λ_ _ _ _ _ _ _ _ _ _ _ _ _ hz R hR P hP=>?_;cbv;repeat' (first|(refine Call.s hP w0 ?_;cbv)|(refine AB.s hP w0 ?_;cbv)|fail)
 exact Z.r hR
theorem au(o:Bool)(ho:o=decide (¬(c9<1\/1000<c9\/c12<1\/1000<c12))):A9 Tryz.prog 194 [.cref (cfL c0 c1 c2 c3 c4 c5 c6 c7 c8 c9 c10 c11 c12 c13)] (· = .bool o):=by
 obtain⟨b0,e0⟩:=Z.e (decide (1<=c9/\c9<=1000));obtain⟨b1,e1⟩:=Z.e (decide (1<=c12/\c12<=1000));have w0:=EH c9 1 1000 b0 e0;have w1:=EH c12 1 1000 b1 e1;obtain rfl:o=(b0 && b1):=by rw[ho,e0,e1,<- Bool.decide_and];apply decide_eq_decide.2;omega
 clear ho e0 e1
 cases b0<;>(
  refine Z.y Tryz.func194 λ_ _ _ _ _ _ _ _ _ _ _ _ _ hz R hR P hP=>?_;cbv;repeat' (first|(refine Call.s hP w0 ?_;cbv)|(refine AB.s hP w0 ?_;cbv)|(refine Call.s hP w1 ?_;cbv)|(refine AB.s hP w1 ?_;cbv)|fail)
  exact Z.r hR)
theorem av(h0:1<=c0)(h1:c0<=1024)(h2:0<=c2)(h3:c2<=8388608)(o:Bool)(ho:o=decide (¬(c10<(c2+c0-1)/c0\/c10<IntKind.i64.wrap (3*c3)\/16777216<c10))):A9 Tryz.prog 195 [.cref (cfL c0 c1 c2 c3 c4 c5 c6 c7 c8 c9 c10 c11 c12 c13)] (· = .bool o):=by
 obtain⟨p,ep⟩:∃p,p=(c2+c0-1)/c0:=⟨_,rfl⟩;obtain⟨t,et⟩:=Z.e (IntKind.i64.wrap (3*c3));obtain⟨m,em⟩:=Z.e (AL true p t);have q1:=aV c0 c1 c2 c3 c4 c5 c6 c7 c8 c9 c10 c11 c12 c13 p h0 h1 h2 h3 ep;rw[<- ep,<- et] at ho;have hm:m=max p t:=by rw[em];unfold AL;simp;omega
 have q2:=EH c10 m 16777216 o (by rw[ho];apply decide_eq_decide.2;omega);clear ho ep hm;(refine A9.ofY Tryz.func195 (by kernel_rfl) (by kernel_rfl) (Z.w λzB _ _ _ _ _ yO _ _ _ _ _ _ _ _ _ _ _ _ _ _ zC _ _ _ _ _ yS _ _ _ _ _ _ _ _ _ _ _ _ _ hz R hR=>?_));(conv=>arg 2;cbv);(generalize hP:Tryz.prog=P);cbv;have v1:zB .mul .i64 3 c3=t:=by rw[zC];exact et.symm
 have v2:yO true p t=m:=by rw[yS];exact em.symm
 repeat' (first
  | (refine AB.stepE (by rw[<- hP];exact q1) rfl ?_;cbv)
  | (simp only[v1];cbv)
  | (simp only[v1])
  | (simp only[v2])
  | (refine Call.stepE (by rw[<- hP];exact q2) rfl ?_;cbv)
  | (refine AB.stepE (by rw[<- hP];exact q2) rfl ?_;cbv)
  | fail)
 exact Z.r hR
theorem ax(o:Bool)(ho:o=decide (¬(c11<0\/1073741824<c11))):A9 Tryz.prog 197 [.cref (cfL c0 c1 c2 c3 c4 c5 c6 c7 c8 c9 c10 c11 c12 c13)] (· = .bool o):=by
 have w0:=EH c11 0 1073741824 o (by rw[ho];apply decide_eq_decide.2;omega);refine Z.y Tryz.func197 λ_ _ _ _ _ _ _ _ _ _ _ _ _ hz R hR P hP=>?_;cbv;repeat' (first|(refine Call.s hP w0 ?_;cbv)|(refine AB.s hP w0 ?_;cbv)|fail)
 exact Z.r hR
theorem ay(o:Bool)(ho:o=decide (¬(c13<1\/1048576<c13))):A9 Tryz.prog 198 [.cref (cfL c0 c1 c2 c3 c4 c5 c6 c7 c8 c9 c10 c11 c12 c13)] (· = .bool o):=by
 have w0:=EH c13 1 1048576 o (by rw[ho];apply decide_eq_decide.2;omega);refine Z.y Tryz.func198 λ_ _ _ _ _ _ _ _ _ _ _ _ _ hz R hR P hP=>?_;cbv;repeat' (first|(refine Call.s hP w0 ?_;cbv)|(refine AB.s hP w0 ?_;cbv)|fail)
 exact Z.r hR
theorem az:A9 Tryz.prog 135 [.agg (cfL c0 c1 c2 c3 c4 c5 c6 c7 c8 c9 c10 c11 c12 c13)] (· = .list 1 (ruR (cfL c0 c1 c2 c3 c4 c5 c6 c7 c8 c9 c10 c11 c12 c13))):=by
 refine Z.y Tryz.func135 λ_ _ _ _ _ _ _ _ _ _ _ _ _ hz R hR P hP=>?_;cbv;refine⟨_,Vw.rows (rs:=ruR (cfL c0 c1 c2 c3 c4 c5 c6 c7 c8 c9 c10 c11 c12 c13)) rfl (λr hr=>?_) λi r hi=>?_,hR _ rfl⟩
 ·obtain⟨g,_,rfl⟩:=List.mem_map.1 hr
  rfl
 ·have hir:=(List.getElem?_eq_some_iff.1 hi).1
  simp only[ruR,ruI,List.map_cons,List.map_nil,List.length_cons,List.length_nil] at hir;have hi':i=0\/i=1\/i=2\/i=3\/i=4\/i=5\/i=6\/i=7\/i=8\/i=9\/i=10\/i=11:=(by omega);rcases hi' with rfl|rfl|rfl|rfl|rfl|rfl|rfl|rfl|rfl|rfl|rfl|rfl
  all_goals
   simp only[ruR,ruI,List.map_cons,List.getElem?_cons_zero,List.getElem?_cons_succ,Option.some.injEq] at hi;subst hi;exact⟨_,rfl,⟨Vw.func trivial ⟨Vw.ref (es:=[cfL c0 c1 c2 c3 c4 c5 c6 c7 c8 c9 c10 c11 c12 c13]) (row:=cfL c0 c1 c2 c3 c4 c5 c6 c7 c8 c9 c10 c11 c12 c13) rfl rfl rfl (Nat.zero_le _) Z.d,trivial⟩,trivial⟩⟩
theorem ruAt(i:Nat)(g:Nat)(o:Bool)(hg:ruI[i]?=some g)(ho:(ruO c0 c1 c2 c3 c4 c5 c6 c7 c8 c9 c10 c11 c12 c13)[i]?=some o)(hp:∀j,j<i->(ruO c0 c1 c2 c3 c4 c5 c6 c7 c8 c9 c10 c11 c12 c13)[j]?=some true):A9 Tryz.prog g [.cref (cfL c0 c1 c2 c3 c4 c5 c6 c7 c8 c9 c10 c11 c12 c13)] (· = .bool o):=by
 have hi:i<12:=(List.getElem?_eq_some_iff.1 hg).1;have hi':i=0\/i=1\/i=2\/i=3\/i=4\/i=5\/i=6\/i=7\/i=8\/i=9\/i=10\/i=11:=by omega
 rcases hi' with rfl|rfl|rfl|rfl|rfl|rfl|rfl|rfl|rfl|rfl|rfl|rfl<;>obtain rfl:=Option.some.inj (show some _=some g from hg)<;>have ho:=(Option.some.inj (show some _=some o from ho)).symm
 ·exact aW c0 c1 c2 c3 c4 c5 c6 c7 c8 c9 c10 c11 c12 c13 o ho
 ·exact aX c0 c1 c2 c3 c4 c5 c6 c7 c8 c9 c10 c11 c12 c13 o ho
 ·exact aY c0 c1 c2 c3 c4 c5 c6 c7 c8 c9 c10 c11 c12 c13 o ho
 ·exact aZ c0 c1 c2 c3 c4 c5 c6 c7 c8 c9 c10 c11 c12 c13 o ho
 ·exact aa c0 c1 c2 c3 c4 c5 c6 c7 c8 c9 c10 c11 c12 c13 o ho
 ·exact af c0 c1 c2 c3 c4 c5 c6 c7 c8 c9 c10 c11 c12 c13 o ho
 ·exact ah c0 c1 c2 c3 c4 c5 c6 c7 c8 c9 c10 c11 c12 c13 o ho
 ·exact ak c0 c1 c2 c3 c4 c5 c6 c7 c8 c9 c10 c11 c12 c13 o ho
 ·exact au c0 c1 c2 c3 c4 c5 c6 c7 c8 c9 c10 c11 c12 c13 o ho
 ·have h1:=of_decide_eq_true (Option.some.inj (show some (decide _)=some true from hp 0 Z.d))
  have h2:=of_decide_eq_true (Option.some.inj (show some (decide _)=some true from hp 1 Z.d));exact av c0 c1 c2 c3 c4 c5 c6 c7 c8 c9 c10 c11 c12 c13 Z.o Z.o Z.o Z.o o ho
 ·exact ax c0 c1 c2 c3 c4 c5 c6 c7 c8 c9 c10 c11 c12 c13 o ho
 ·exact ay c0 c1 c2 c3 c4 c5 c6 c7 c8 c9 c10 c11 c12 c13 o ho
theorem firW:E8 c0 c1 c2 c3 c4 c5 c6 c7 c8 c9 c10 c11 c12 c13=Jf (ruO c0 c1 c2 c3 c4 c5 c6 c7 c8 c9 c10 c11 c12 c13) 1:=by
 simp only[E8,Jf,ruO,decide_eq_true_eq,ite_not];rfl
theorem a_(w:Int)(hw0:w=E8 c0 c1 c2 c3 c4 c5 c6 c7 c8 c9 c10 c11 c12 c13)(e:Int)(he:e=if w=0 then 0 else 50):A9 Tryz.prog 80 [.agg [c0,c1,c2,c3,c4,c5,c6,c7,c8,c9,c10,c11,c12,c13]] (· = .tuple [e,w]):=by
 have q0:=az c0 c1 c2 c3 c4 c5 c6 c7 c8 c9 c10 c11 c12 c13;have qa:=ruAt c0 c1 c2 c3 c4 c5 c6 c7 c8 c9 c10 c11 c12 c13;rw[firW] at hw0;obtain⟨O,eO⟩:=Z.e (ruO c0 c1 c2 c3 c4 c5 c6 c7 c8 c9 c10 c11 c12 c13);rw[<- eO] at hw0;simp only[<- eO] at qa;have hO:O.length=12:=by rw[eO];rfl
 obtain⟨RL,eRL⟩:=Z.e (ruR (cfL c0 c1 c2 c3 c4 c5 c6 c7 c8 c9 c10 c11 c12 c13));rw[<- eRL] at q0;clear eO;refine Z.y Tryz.func80 λzB _ _ _ zF zK hw zC zA _ _ zI zH hz R hR P hP=>?_;cbv;refine Call.stepE (by rw[<- hP];exact q0) rfl ?_;have l12:zK RL=12:=by rw[zH,eRL];rfl
 cbv;simp only[l12];have huR:Up0 RL:=by rw[eRL];exact⟨rfl⟩
 refine Ae.data hw (S:=Int) (λi=>fr 20 [(2,(0:Int)),(3,(0:Int)),(7,.list 1 RL),(8,(12:Int)),(9,i)]) (λ_=>[]) (λi=>0<=i/\i<=12/\w=Jf (O.drop i.toNat) (i+1)/\∀j,j<i.toNat->O[j]?=some true) (λi=>(12-i).toNat) 0 Z.i ⟨Int.le_refl _,by decide,by simpa using hw0,λj hj=>by simp at hj⟩ ?_;rintro i zJ Q' hN hE hR';have zJ:0<=i/\i<=12/\w=Jf (O.drop i.toNat) (i+1)/\∀j,j<i.toNat->O[j]?=some true:=zJ;obtain⟨zW,yZ,hwf,hpr⟩:=zJ;have nt:zF true=false:=by rw[zI];rfl
 have nf:zF false=true:=by rw[zI];rfl
 by_cases yC:i<12
 ·obtain⟨g,hg⟩:∃g,ruI[i.toNat]?=some g:=⟨_,List.getElem?_eq_getElem (show i.toNat<12 by omega)⟩
  obtain⟨o,ho⟩:∃o,O[i.toNat]?=some o:=⟨_,List.getElem?_eq_getElem (show i.toNat<O.length by omega)⟩;have q:=qa i.toNat g o hg ho hpr;have zL:RL[i.toNat]?=some [.func (.func g) [] [.cref (cfL c0 c1 c2 c3 c4 c5 c6 c7 c8 c9 c10 c11 c12 c13)]]:=(by rw[eRL];simp only[ruR,List.getElem?_map,hg,Option.map_some]);unfold cfL at q zL;obtain⟨i2,ei2⟩:=Z.e (i+1);have a4:zB .add .i64 i 1=i2:=(by rw[zC,Ag Z.o Z.o,ei2]);have ck:=W.lt zA yC;have hT:(12-i2).toNat<(12-i).toNat:=by omega
  have hdr:O.drop i.toNat=o::O.drop i2.toNat:=by
   have h1:=(List.getElem?_eq_some_iff.1 ho);rw[List.drop_eq_getElem_cons h1.1,h1.2,show i2.toNat=i.toNat+1 by omega]
  rw[hdr] at hwf;clear hg hdr eRL q0 qa
  cases o with
  | false =>
    have hwi:w=i2:=(by rw[hwf,ei2];rfl);have hR1:R (.tuple [(50:Int),i2]):=hR _ (by rw[he,if_neg Z.o,hwi]);clear he hwi hwf ho hpr;cbv;repeat' (first|(simp only[ck,nf,a4];cbv)|(refine Call.s hP q ?_;cbv)|(refine AB.s hP q ?_;cbv)|(refine Idx.mk _ zW zL ?_;cbv)|fail)
    exact hR' _ _ ⟨_,Vw.same rfl,hR1⟩
  | true =>
    have hwi:w=Jf (O.drop i2.toNat) (i2+1):=by rw[hwf,<- ei2];rfl
    have hp2:∀j,j<i2.toNat->O[j]?=some true:=λj hj=>by
     by_cases hji:j=i.toNat
     ·rw[hji];exact ho
     ·exact hpr j Z.o
    clear hwf ho hpr;cbv;repeat' (first|(simp only[ck,nt,a4];cbv)|(refine Call.s hP q ?_;cbv)|(refine AB.s hP q ?_;cbv)|(refine Idx.mk _ zW zL ?_;cbv)|fail)
    refine hN i2 _ _ ?_ ⟨by omega,by omega,hwi,hp2⟩ hT;exact Z.i
 ·have ck:=W.nlt zA (show 12<=i by omega)
  rw[List.drop_eq_nil_of_le Z.o] at hwf;have hR1:R (.tuple [(0:Int),(0:Int)]):=hR _ (by rw[he,if_pos (by rw[hwf];rfl),hwf];rfl);clear hwf hpr he;cbv;repeat' (first|(simp only[ck];cbv)|fail)
  refine hE _ _ _ ?_;cbv;exact⟨_,Vw.same rfl,hR1⟩
end
def Ih(ss:List Sg)(gs:List Gr)(c6 c8:Int)(j:Nat):Prop:=
 ∀g,gs[j]?=some g->g.acc+c8+c6<=g.off/\∀s,ss[g.seg.toNat]?=some s->g.acc+c8+c6<=s.len-g.off
structure Dl(w c6 c8:Int)(ss:List Sg)(gs:List Gr):Prop where
 wr:w=0
 tr:BN ss gs
 fit:∀j,j<gs.length->Ih ss gs c6 c8 j
theorem bA(c0 c1 c2 c3 c4 c5 c6 c7 c8 c9 c10 c11 c12 c13 g1 g2 g3 g4 g5 v:Int)(h4:0<=g4/\g4<=1048576)(h8:0<=c8/\c8<=1048576)(h6:0<=c6/\c6<=16777216)(hv:v=g4+c8+c6):A9 Tryz.prog 81 [.agg [c0,c1,c2,c3,c4,c5,c6,c7,c8,c9,c10,c11,c12,c13],.agg [g1,g2,g3,g4,g5]] (· = .int .i64 v):=by
 obtain⟨x,ex⟩:=Z.e (g4+c8);refine Z.y Tryz.func81 λzB _ _ _ _ _ _ zC _ _ _ _ _ hz R hR P hP=>?_;cbv;have a1:zB .add .i64 g4 c8=x:=by rw[zC,Ag Z.o Z.o,ex]
 have a2:zB .add .i64 x c6=v:=by rw[zC,Ag Z.o Z.o];omega
 simp only[a1,a2];exact Z.r hR
theorem WG(c0 c1 c2 c3 c4 c5 c6 c7 c8 c9 c10 c11 c12 c13:Int)(ss:List Sg)(gs:List Gr)(hsl:ss.length<=1000000)(hgl:gs.length<=1000000)(es ds:List (List AV))(zQ:es=ss.map Ah)(zY:ds=gs.map Ak):A9 Tryz.prog 34 [.agg [c0,c1,c2,c3,c4,c5,c6,c7,c8,c9,c10,c11,c12,c13],.agg [.list 3 es,.list 5 ds]] (λr=>∃e i,r = .tuple [.int .i64 e,.int .i64 i]/\(e=0↔Dl (E8 c0 c1 c2 c3 c4 c5 c6 c7 c8 c9 c10 c11 c12 c13) c6 c8 ss gs)):=by
 have hu:Up0 es:=by rw[zQ];exact Bu ss
 have hud:Up0 ds:=by rw[zY];exact Bv gs
 have hel:es.length=ss.length:=by rw[zQ];simp
 have hdl:ds.length=gs.length:=by rw[zY];simp
 obtain⟨w,ew⟩:=Z.e (E8 c0 c1 c2 c3 c4 c5 c6 c7 c8 c9 c10 c11 c12 c13);obtain⟨ew0,eew⟩:∃e:Int,e=if w=0 then 0 else 50:=⟨_,rfl⟩
 have q1:=a_ c0 c1 c2 c3 c4 c5 c6 c7 c8 c9 c10 c11 c12 c13 w ew ew0 eew;have hcf:w=0->ES c0 c1 c2 c3 c4 c5 c6 c7 c8 c9 c10 c11 c12 c13:=λh=>LH (by rw[<- ew,h]);rw[<- ew];clear ew;by_cases hw0:w=0
 rotate_left 1
 ·rw[if_neg hw0] at eew
  subst eew;refine Z.y Tryz.func34 λ_ _ _ _ _ _ _ _ zA _ _ _ _ hz R hR P hP=>?_;cbv;have d1:=W.ne zA (show (50:Int)≠0 by decide);repeat' (first|(simp only[d1];cbv)|(refine Call.s hP q1 ?_;cbv)|(refine AB.s hP q1 ?_;cbv)|fail)
  exact⟨_,Vw.same rfl,hR _ ⟨_,_,rfl,λh=>absurd h Z.d,λh=>absurd h.wr hw0⟩⟩
 rw[if_pos hw0] at eew;subst eew;have hCC:=hcf hw0;unfold ES at hCC;have h6:0<=c6/\c6<=16777216:=by omega
 have h8:0<=c8/\c8<=1048576:=by omega
 clear hCC hcf
 have hseg:∀j:Nat,BN ss gs->∀g,gs[j]?=some g->0<=g.seg/\g.seg.toNat<ss.length/\0<=g.off/\g.off<=1099511627776/\0<=g.acc/\g.acc<=1048576/\∀s,ss[g.seg.toNat]?=some s->g.off<=s.len/\s.len<=1099511627776:=λj hT g hg=>by
  obtain⟨k1,k2,k3,k4,k5,k6,k7,k8,k9,k10,k11⟩:=hT.grp j (List.getElem?_eq_some_iff.1 hg).1 g hg;have hs:=λs hs=>(hT.seg g.seg.toNat k4 s hs).le;obtain⟨s,hss⟩:∃s,ss[g.seg.toNat]?=some s:=⟨_,List.getElem?_eq_getElem k4⟩;exact⟨k3,k4,k5,by have:=k6 s hss;have:=hs s hss;omega,k7,k8,λs h=>⟨k6 s h,hs s h⟩⟩
 refine Z.y Tryz.func34 λzB _ _ _ _ zK hw zC zA _ _ _ zH hz R hR P hP=>?_;cbv
 (obtain⟨J,eJ,J0,Jn⟩:∃L:Int,zK ds=L/\0<=L/\L.toNat=ds.length:=⟨(ds.length:Int),by rw[zH],Int.natCast_nonneg _,Int.toNat_natCast _⟩)
 have d1:=W.nne zA (a:=0) rfl;repeat' (first|(simp only[d1];cbv)|(refine Call.s hP q1 ?_;cbv)|(refine AB.s hP q1 ?_;cbv)|fail)
 refine Call.step (by rw[<- hP];exact QI ss gs hsl hgl es ds zQ zY) (by first|rfl|(repeat' (first|exact rfl|assumption|refine uc ?_ ?_|exact ul Z.m|refine ua ?_))) ?_;rintro r ⟨e,i0,rfl,he⟩;cbv;by_cases he0:e=0
 rotate_left 1
 ·have d2:=W.ne zA he0
  simp only[d2];cbv;exact⟨_,Vw.same rfl,hR _ ⟨_,_,rfl,λh=>absurd h Z.d,λh=>absurd (he.2 h.tr) he0⟩⟩
 have hT:=he.1 he0;have d2:=W.nne zA he0;simp only[d2];cbv;simp only[eJ];refine Ae.data hw (S:=Int) (λi=>fr 61 [(2,.ref 0 14 0 0),(3,.ref 1 2 0 0),(30,.list 5 ds),(31,J),(32,i)]) (λi=>[.live 14 [[c0,c1,c2,c3,c4,c5,c6,c7,c8,c9,c10,c11,c12,c13]],.live 2 [[.list 3 es,.list 5 ds]]]) (λi=>0<=i/\i<=J/\∀j,j<i.toNat->Ih ss gs c6 c8 j) (λi=>(J-i).toNat) 0 Z.i ⟨Int.le_refl _,J0,λj hj=>(by simp at hj)⟩ ?_;rintro i zJ Q' hN hE hR';have zJ:0<=i/\i<=J/\∀j,j<i.toNat->Ih ss gs c6 c8 j:=zJ;cbv;obtain⟨zW,yZ,hl⟩:=zJ;(split<;>rename_i hc<;>(try (simp only[eJ] at hc))<;>(try (simp only[hz,Z.a,AF,AC,AO,AP,AL,reduceCtorEq] at hc))<;>(try cbv))
 ·obtain⟨⟨g1,g2,g3,g4,g5⟩,hd,zL⟩:=BI (f:=Ak) (ds:=gs) (i:=i) zW Z.o
  have zL:ds[i.toNat]?=some [.int .i64 g1,.int .i64 g2,.int .i64 g3,.int .i64 g4,.int .i64 g5]:=(by rw[zY];exact zL);obtain⟨k1,k2,k3,k4,k5,k6,k7⟩:=hseg i.toNat hT _ hd;simp only at k1 k2 k3 k4 k5 k6 k7;obtain⟨⟨len,ps,nx⟩,hs1,hs2⟩:=BI (f:=Ah) (ds:=ss) (i:=g2) k1 k2;obtain⟨q1,eq1⟩:=Z.f (ps.map Ap);obtain⟨m1,en1⟩:=Z.f (nx.map Ac);have hs2:es[g2.toNat]?=some [.int .i64 len,.list 2 q1,.list 1 m1]:=(by rw[zQ,<- eq1,<- en1];exact hs2);obtain⟨k8,k9⟩:=k7 _ hs1;simp only at k8 k9;obtain⟨i',ei'⟩:=Z.f (i+1);have ei:zB .add .i64 i 1=i':=(by rw[zC,Ag Z.o Z.o];exact ei');have hT2:(J-i').toNat<(J-i).toNat:=(by omega);obtain⟨left,eleft⟩:=Z.e (len-g3);obtain⟨far,efar⟩:=Z.e (g4+c8+c6);have a1:zB .sub .i64 len g3=left:=(by rw[zC,Bj Z.o Z.o,eleft]);have q2:=bA c0 c1 c2 c3 c4 c5 c6 c7 c8 c9 c10 c11 c12 c13 g1 g2 g3 g4 g5 far ⟨k5,k6⟩ h8 h6 efar
  have key:Ih ss gs c6 c8 i.toNat↔far<=g3/\far<=left:=by
   constructor
   ·intro h
    obtain⟨h1,h2⟩:=h _ hd;have:=h2 _ hs1;simp only at h1 this;omega
   ·rintro⟨h1,h2⟩ g hg
    rw[hd] at hg;obtain rfl:(⟨g1,g2,g3,g4,g5⟩:Gr)=g:=(by simpa using hg);refine⟨by simp only;omega,λs hs=>?_⟩;simp only at hs;rw[hs1] at hs;obtain rfl:(⟨len,ps,nx⟩:Sg)=s:=(by simpa using hs);simp only;omega
  have hgi:∀P:Nat->Prop,(∀j,j<i.toNat->P j)->P i.toNat->∀j,j<i'.toNat->P j:=λP h1 h2=>(by rw[<- ei'];exact Fj zW h1 h2);have bad:¬(far<=g3/\far<=left)->R (.tuple [(11:Int),i]):=λh=>hR _ ⟨_,_,rfl,λh0=>absurd h0 Z.d,λhM=>absurd (key.1 (hM.fit i.toNat Z.o)) h⟩;refine Idx.mk [.int .i64 g1,.int .i64 g2,.int .i64 g3,.int .i64 g4,.int .i64 g5] zW zL ?_;cbv;refine Idx.mk _ k1 hs2 ?_;cbv;simp only[a1];repeat' (first|(refine Call.s hP q2 ?_;cbv)|(refine AB.s hP q2 ?_;cbv)|fail)
  (split<;>rename_i h1<;>(try (simp only[hz,Z.a,AF,AC,AO,AP,AL,reduceCtorEq] at h1))<;>(try cbv))
  ·exact hR' _ _ ⟨_,Vw.same rfl,bad Z.o⟩
  (split<;>rename_i h2<;>(try (simp only[hz,Z.a,AF,AC,AO,AP,AL,reduceCtorEq] at h2))<;>(try cbv))
  ·exact hR' _ _ ⟨_,Vw.same rfl,bad Z.o⟩
  simp only[ei];refine hN i' _ _ ?hx ?hi hT2
  case hx=>exact Z.i
  case hi=>exact⟨by omega,by omega,hgi _ hl (key.2 ⟨by omega,by omega⟩)⟩
 ·refine hE _ _ _ ?_
  cbv;exact⟨_,Vw.same rfl,hR _ ⟨_,_,rfl,λ_=>⟨hw0,hT,λj hj=>hl j Z.o⟩,λ_=>rfl⟩⟩
structure Rp where
 cy:Int
 md:Int
 gr:Int
 lo:Int
 hi:Int
 es:Int
 sl:Int
 sh:Int
 no:Int
 di:Int
 rt:List (List Int)
 fi:Int
 cl:Bool
 cf:Bool
 s0:Int
 s1:Int
 ac:Bool
 fa:Bool
 st:Bool
 ro:Bool
 ov:Bool
 ml:Int
 mh:Int
 pe:Int
 a0:Int
 b0:Int
 a1:Int
 b1:Int
 bad:Int
 sta:Int
 twi:Int
 bey:Int
def Rp.rowL(r:Rp)(rt:AV):List AV:=.int .i64 r.cy::[.int .i64 r.md,.int .i64 r.gr,.int .i64 r.lo,.int .i64 r.hi,.int .i64 r.es,.int .i64 r.sl,.int .i64 r.sh,.int .i64 r.no,.int .i64 r.di,rt,.int .i64 r.fi,.bool r.cl,.bool r.cf,.int .i64 r.s0,.int .i64 r.s1,.bool r.ac,.bool r.fa,.bool r.st,.bool r.ro,.bool r.ov,.int .i64 r.ml,.int .i64 r.mh,.int .i64 r.pe,.int .i64 r.a0,.int .i64 r.b0,.int .i64 r.a1,.int .i64 r.b1,.int .i64 r.bad,.int .i64 r.sta,.int .i64 r.twi,.int .i64 r.bey]
def Rp.row(r:Rp):List AV:=r.rowL (.list 1 (r.rt.map D7))
def rp0(cy:Int):Rp:=⟨cy,4,0,0,0,0,0,0,0,0,[],0,false,false,0,0,false,false,false,false,false,0,0,0,0,0,0,0,0,0,0,0⟩
def JH(gs:List Gr)(n:Nv)(mm:List (List Int))(x:Fo)(a b:Int):Nv×List (List Int):=match gs[x.g.toNat]? with|some G=>(C_ G n x a b,[[G.seg]])|none=>(n,mm)
def FY(ss:List Sg)(gs:List Gr)(mm:List (List Int))(n:Nv)(wl wh:Int)(m:Ml)(a b:Int):Fo:=
 if m.has 5=false then ⟨0,[],true,false⟩
 else match gs.findIdx? λG=>G.id == m.val 5 with
  | none=>⟨0,[],false,false⟩
  | some i=>match gs[i]? with
    | none=>⟨0,[],false,false⟩
    | some G=>if n.on=false then ⟨i,[],true,true⟩ else ⟨i,FH ss mm n wl wh a b G,decide (0<(FH ss mm n wl wh a b G).length),decide (0<(FH ss mm n wl wh a b G).length)⟩
noncomputable def MI(X m:Int):Int:=by
 classical
 exact if h:∃v,GY X m v then Classical.choose h else 0
def Er(ss:List Sg):Nat->Int:=J (nxF ss) (Bc ss) ss.length
def peV(b:Bool)(x y:Int):Int:=match b with|true=>x|false=>y
noncomputable def BZ(ss:List Sg)(gs:List Gr)(mm:List (List Int))(r:Rp)(n:Nv)(f:Fu):Rp:=
 let r1:Rp:={ r with fi:=f.n,cl:=f.cl,cf:=f.cf,s0:=f.s0,s1:=f.s1,sl:=f.lo,sh:=f.hi,no:=(f.lo+f.hi)/2,di:=n.di,st:=n.so,ro:=n.ro,ml:=n.m0,mh:=n.m1,a0:=n.a0,b0:=n.b0,a1:=n.a1,b1:=n.b1,md:=EB n.w.fa n.on f.n f.cf,pe:=n.c.c6 }
 match n.on with
 | false=>r1
 | true =>
   let v:=mm.foldl (DZ ss (Er ss) n.p.fr n.p.hi) (0,false)
   let pe:=peV v.2 (MI (2*n.c.c13*GZ v.1) n.c.c6) n.c.c6
   { r1 with gr:=(match gs[n.gr.toNat]? with|some G=>G.id|none=>0),lo:=n.p.lo,hi:=n.p.hi,es:=n.p.est,rt:=mm,pe:=pe,ov:=decide (pe<f.hi) }
structure Ex where
 n:Nv
 mm:List (List Int)
 r:Rp
def BO(n:Nv)(mm:List (List Int)):Nv×List (List Int):=match n.w.fa with|true=>({ n with on:=false,gr:=0,p:=JG },[])|false=>(n,mm)
noncomputable def stepE(ss:List Sg)(gs:List Gr)(n:Nv)(m:Ml)(com:Bool)(f:Fu)(ov:Bool)(x:Fo)(u:Nv×List (List Int)):Ex:=
 let n6:Nv:={ u.1 with w:=wtV n.c.c12 u.1.w f.n f.cf ov x.ac }
 let t:=BO n6 u.2
 let sc:=En n.c.c9 n.c.c10 t.1.sc f.lo f.hi f.n
 let q:=Dj n.c.c11 ⟨t.1.ra,t.1.ro,t.1.m0,t.1.m1⟩ (decide (n.c.c9<=sc)) com f.lo f.hi
 let n9:Nv:={ t.1 with sc:=sc,so:=decide (n.c.c9<=sc),ra:=q.an,ro:=q.on,m0:=q.lo,m1:=q.hi }
 ⟨n9,t.2,BZ ss gs t.2 { rp0 n.cy with bad:=m.bad,sta:=m.stale,twi:=m.twice,bey:=m.beyond,ac:=x.ac,fa:= !x.ok } n9 f⟩
def Dz(gs:List Gr)(x:Fo)(n:Nv)(mm:List (List Int))(a b:Int):Nv×List (List Int):=match x.ac with|true=>JH gs n mm x a b|false=>(n,mm)
noncomputable def IP(ss:List Sg)(gs:List Gr)(n:Nv)(m:Ml)(com:Bool)(f:Fu)(n3:Nv)(z:Nv×List (List Int)×Bool):Ex:=
 let x:=FY ss gs z.2.1 z.1 n3.p.lo n3.p.hi m f.lo f.hi
 stepE ss gs n m com f z.2.2 x (Dz gs x z.1 z.2.1 f.lo f.hi)
noncomputable def IM(ss:List Sg)(gs:List Gr)(n:Nv)(mm:List (List Int))(m:Ml)(com:Bool)(y:Nv×Fu):Ex:=
 let n3:Nv:={ y.1 with cl:=y.1.cl && y.2.cl }
 IP ss gs n m com y.2 n3 (Bi ss mm n3 y.2.lo y.2.hi)
noncomputable def Bp(ss:List Sg)(gs:List Gr)(n:Nv)(mm:List (List Int))(l:List (List Int))(com:Bool):Ex:=
 IM ss gs n mm (Cc n.cy l) com (Ce ss mm { n with cy:=n.cy+1 } (Cc n.cy l))
end Go.Proofs.YtlchlddijclhjaaGreat
namespace Go.Eng
open Go Go.RowKit
def two(s t:Nat)(i:Nat):Nat:=match i with|0=>s|_=>t
theorem Call.o2{P P0:Program}{g:FuncId}{args0 args:List AV}{v:AV}{z0 z1 s t:Nat}{e0 e1 f0 f1:List (List AV)}{a:AA}{dst:Option Nat}{h:A7}{K:AA->A7->Prop}(hP:P0=P)
 (H:AJ P0 g args0 [.live z0 e0,.live z1 e1] (λr hD=>r=v/\hD=[.live z0 f0,.live z1 f1])) (u0:Up0 e0) (u1:Up0 e1) (w0:Up0 f0) (w1:Up0 f1) (hv:v.upto 0=true) (hs:h[s]?=some (.live z0 e0)) (ht:h[t]?=some (.live z1 e1)) (hne:s≠t) (ha:Af 2 args0=true) (hr:BH (two s t) args0=args)
 (hK:K (Aj a dst v) ((h.set s (.live z0 f0)).set t (.live z1 f1))):Call P g args h (Cn K a dst):=by
 subst hP;refine Call.of (AJ.frame (two s t) H ?_ ?_ ha hr ?_)
 ·intro i hi j hj he
  simp only[List.length_cons,List.length_nil] at hi hj;have h1:i=0\/i=1:=(by omega);have h2:j=0\/j=1:=(by omega);rcases h1 with rfl|rfl<;>rcases h2 with rfl|rfl
  ·rfl
  ·exact absurd he hne
  ·exact absurd he (Ne.symm hne)
  ·rfl
 ·intro i hi
  simp only[List.length_cons,List.length_nil] at hi;have h1:i=0\/i=1:=(by omega);rcases h1 with rfl|rfl
  ·exact⟨z0,e0,rfl,Ed 2 _ u0.get,by rw[E_ u0];exact hs⟩
  ·exact⟨z1,e1,rfl,Ed 2 _ u1.get,by rw[E_ u1];exact ht⟩
 ·rintro r hD ⟨rfl,rfl⟩
  refine⟨GU 2 r hv,λi hi=>?_,?_⟩
  ·simp only[List.length_cons,List.length_nil] at hi
   have h1:i=0\/i=1:=(by omega);rcases h1 with rfl|rfl
   ·exact⟨z0,f0,rfl,Ed 2 _ w0.get⟩
   ·exact⟨z1,f1,rfl,Ed 2 _ w1.get⟩
  ·rw[FF _ r hv]
   show K (Aj a dst r) ((h.set s (GV (two s t) (.live z0 f0))).set t (GV (two s t) (.live z1 f1)));rw[show GV (two s t) (.live z0 f0) = .live z0 f0 from congrArg (Ai.live z0) (E_ w0),show GV (two s t) (.live z1 f1) = .live z1 f1 from congrArg (Ai.live z1) (E_ w1)];exact hK
theorem AJ.weak{P:Program}{g:FuncId}{args:List AV}{h h':A7}{K:AV->A7->Prop}(hw:WkB h.length args h args h')(hl:h'.length=h.length)(H:AJ P g args h' K):AJ P g args h K:=by
 obtain⟨hw⟩:=hw;refine⟨H.1,λC vs hC RC hv=>?_⟩;have hst:St C args { tmps:=vs,defers:=[] }:=⟨RC,hv,rfl⟩;obtain⟨D',k1,k2,k3,k4,k5⟩:=hw C _ hC hst (Nat.le_refl _);have:=H.2 D' vs k1 k3.rel k3.vrs;rw[k2] at this;refine this.mono λe w' ⟨v,r,D,h1,h2,h3,h4,h5,h6,h7⟩=>?_;rw[hl] at h6 h7;exact⟨v,r,D,h1,h2,h3,h4,h5,k4.trans h6,h7⟩
end Go.Eng
namespace Go.Proofs.YtlchlddijclhjaaGreat
open Go Go.RowKit Go.Eng
def Nv.rowP(n:Nv)(pl:AV):List AV:=.int .i64 n.c.c0 :: .int .i64 n.c.c1 :: .int .i64 n.c.c2 :: .int .i64 n.c.c3 :: .int .i64 n.c.c4 :: .int .i64 n.c.c5 :: .int .i64 n.c.c6 :: .int .i64 n.c.c7 :: .int .i64 n.c.c8 :: .int .i64 n.c.c9 :: .int .i64 n.c.c10 :: .int .i64 n.c.c11 :: .int .i64 n.c.c12 :: .int .i64 n.c.c13 ::
 .list 3 n.es :: .list 5 n.ds :: .bool false :: .int .i64 n.cy :: .int .i64 n.g0 :: .int .i64 n.g1 :: .list 1 n.os :: .bool n.k0.kn :: .int .u16 n.k0.la :: .int .i64 n.k0.su::[.bool n.k1.kn,.int .u16 n.k1.la,.int .i64 n.k1.su,.int .i64 n.a0,.int .i64 n.b0,.int .i64 n.a1,.int .i64 n.b1,.int .i64 n.lo,.int .i64 n.hi,.int .i64 n.di,
 .bool n.on,.int .i64 n.gr,.int .i64 n.p.lo,.int .i64 n.p.hi,.int .i64 n.p.est,.int .i64 n.p.fr,pl,.bool n.cl,.int .i64 n.o0,.int .i64 n.o1,.int .i64 n.s0,.int .i64 n.s1,.int .i64 n.sc,.bool n.so,.bool n.ra,.bool n.ro,.int .i64 n.m0,.int .i64 n.m1,.int .i64 n.w.si,.int .i64 n.w.st,.bool n.w.fa]
theorem NvU.rowN_up{n:Nv}(h:NvU n):Up0 [n.rowP .nils]:=by
 obtain⟨h1,h2,h3,h4⟩:=h;exact⟨by simp only[Nv.rowP,BC,Af,AV.upto,h1.get,h2.get,h3.get];rfl⟩
theorem Rp.up(r:Rp):Up0 [r.row]:=⟨by
 have h:=(JQ r.rt).get;simp only[Rp.row,Rp.rowL,BC,Af,AV.upto,h];rfl⟩
theorem Rp.upL(r:Rp):Up0 [r.rowL .nils]:=⟨by simp only[Rp.rowL,BC,Af,AV.upto];rfl⟩
theorem Sb{ss:List Sg}{gs:List Gr}(hT:BN ss gs){from_ at_:Int}(hf:0<=from_/\from_<=1099511627776)(ha: -35184372088832<=at_/\at_<=35184372088832):∀(m:List (List Int)),(∀l,l∈m->Cu ss l)->∀s:Int×Bool,-1152921504606846976<=s.1/\s.1<=1152921504606846976 ->
 -1152921504606846976<=(m.foldl (DZ ss (Er ss) from_ at_) s).1/\(m.foldl (DZ ss (Er ss) from_ at_) s).1<=1152921504606846976
 | [],_,s,h=>h
 | l::m,hw,s,h=>by
   rw[List.foldl_cons];refine Sb hT hf ha m (λx hx=>hw x (List.mem_cons_of_mem _ hx)) _ ?_;have h1:=hw l List.mem_cons_self;have h2:=Sj hT.lensOk hf h1.len.1;have h3:l≠[]:=λe=>by have:=h1.len.2;rw[e] at this;simp at this
   have h4:=Sa hT (Bw l).toNat (h1.seg _ (Oi l h3)).2;have h5:Er ss (Bw l).toNat=J (nxF ss) (Bc ss) ss.length (Bw l).toNat:=rfl;unfold DZ;split
   ·exact h
   ·split
    ·simp only;omega
    ·exact h
theorem aJ{X m v:Int}(hX:0<=X)(hm:0<=m)(e:v=MI X m):GY X m v:=by
 have h:∃v,GY X m v:=by
  obtain⟨r,hr⟩:=Ru hX;exact⟨_,Rw hm hr⟩
 rw[e];unfold MI;rw[dif_pos h];exact Classical.choose_spec h
theorem aK{c f:Int}(h:1<=c):0<=2*c*GZ f:=by
 refine Int.mul_nonneg Z.o ?_;unfold GZ;split<;>omega
theorem ND{ss:List Sg}{gs:List Gr}(h:BN ss gs):∀s,s∈ss->Ev s.ps:=λs hs=>by
 obtain⟨j,hj⟩:=List.mem_iff_getElem?.1 hs;have hm:=(h.seg j (List.getElem?_eq_some_iff.1 hj).1 s hj).may;refine⟨hm.zero,hm.ne,hm.le,λi hi=>?_⟩;have hp:=hm.all i hi;obtain⟨p,hp2⟩:∃p,s.ps[i]?=some p:=⟨_,List.getElem?_eq_getElem hi⟩;have e:(s.ps.getD i (0,0))=p:=by rw[List.getD_eq_getElem?_getD,hp2];rfl
 rw[e];have:=hp p hp2;omega
theorem Sl{ss:List Sg}(hp:∀s,s∈ss->Ev s.ps)(lo hi:Int):∀(l:List Int) (s:Int×Int×Bool) (a:Int),s.1<=s.2.1 /\ -1048576<=s.1/\s.2.1<=1048576->(grw ss lo hi s a l).1<=(grw ss lo hi s a l).2.1 /\ -1048576<=(grw ss lo hi s a l).1/\(grw ss lo hi s a l).2.1<=1048576
 | [],s,a,h=>h
 | n::l,s,a,h=>by
   unfold grw;refine Sl hp lo hi l _ _ ?_;split
   ·have hb:∀x y,(Bl (DI ss n) x y (DI ss n).length).1<=(Bl (DI ss n) x y (DI ss n).length).2.1 /\ -1048576<=(Bl (DI ss n) x y (DI ss n).length).1/\(Bl (DI ss n) x y (DI ss n).length).2.1<=1048576:=λx y=>by
     have h1:=JK (DI ss n) x y (DI ss n).length
     have h2:=Oq (ps:=DI ss n) (λi hi=>by
      unfold DI at hi ⊢;split at hi
      ·rename_i s hs
       exact(hp s (List.mem_of_getElem? hs)).gr i hi
      ·simp at hi) x y (DI ss n).length (Nat.le_refl _)
     exact⟨h1,h2.1,h2.2.1⟩
    have:=hb (max lo a-a) (min hi (a+BD ss n)-a);unfold LJ;split
    ·simp only;omega
    ·simp only;omega
   ·exact h
theorem Sm{ss:List Sg}(hp:∀s,s∈ss->Ev s.ps)(lo hi fr:Int):∀(m:List (List Int)) (s:Int×Int×Bool),s.1<=s.2.1 /\ -1048576<=s.1/\s.2.1<=1048576->(m.foldl (λs l=>grw ss lo hi s (-fr) l) s).1<=(m.foldl (λs l=>grw ss lo hi s (-fr) l) s).2.1 /\ -1048576<=(m.foldl (λs l=>grw ss lo hi s (-fr) l) s).1/\(m.foldl (λs l=>grw ss lo hi s (-fr) l) s).2.1<=1048576
 | [],s,h=>h
 | l::m,s,h=>by
   rw[List.foldl_cons];exact Sm hp lo hi fr m _ (Sl hp lo hi l s (-fr) h)
theorem Vm{ss:List Sg}(hp:∀s,s∈ss->Ev s.ps)(mm:List (List Int)){n:Nv}(hg:n.g0<=n.g1 /\ -1048576<=n.g0/\n.g1<=1048576):(CX ss mm n).1<=(CX ss mm n).2 /\ -1048576<=(CX ss mm n).1/\(CX ss mm n).2<=1048576:=by
 have h:=Sm hp n.p.lo n.p.hi n.p.fr mm (0,0,false) Z.d;unfold CX;split
 ·exact hg
 ·split
  ·exact hg
  ·simp only
   split
   ·exact h
   ·exact hg
theorem QB{l:List Int}(h:Ar l)(he:(frV l).e=0):((frV l).k=1\/(frV l).k=2\/(frV l).k=5)/\0<=(frV l).v/\(frV l).v<=65535\/((frV l).k=3\/(frV l).k=4) /\ -2147483648<=(frV l).v/\(frV l).v<=2147483647:=by
 unfold frV at he ⊢;split at he
 ·simp at he
 split at he
 ·simp at he
 split at he
 ·simp at he
 split at he
 ·simp at he
 rename_i h1 h2 h3 h4;rw[if_neg h1,if_neg h2,if_neg h3,if_neg h4];simp only;have hk:=MJ (l.getD 0 0);have zH:(l.length:Int)=5+Da (l.getD 0 0):=Classical.byContradiction λhn=>h3 (.inr hn);rcases hk with hk|⟨hk,hk2⟩|⟨hk,hk2⟩
 ·exact absurd hk h2
 ·rw[hk,if_neg Z.d]
  refine .inl ⟨hk2,?_⟩;obtain⟨a,b,c,d,e,f,g,rfl⟩:=Sn l Z.o;have hd:=h d (by simp);have he:=h e (by simp);show 0<=(0*256+d)*256+e/\(0*256+d)*256+e<=65535;omega
 ·rw[hk,if_pos rfl]
  refine .inr ⟨hk2,?_⟩;obtain⟨a,b,c,d,e,f,g,x,y,rfl⟩:=Sq l Z.o;have hd:=h d (by simp);have he:=h e (by simp);have hf:=h f (by simp);have hg:=h g (by simp);show -2147483648<=D_ ((((0*256+d)*256+e)*256+f)*256+g)/\D_ ((((0*256+d)*256+e)*256+f)*256+g)<=2147483647;unfold D_;split<;>omega
theorem bB{s:Int}{m:Ml}(h:F7 m){l:List Int}(hl:Ar l):F7 (Dy s m (frV l)):=by
 have hf:=QB hl;unfold Dy;split
 ·exact⟨h.v1,h.v2,h.v3,h.v4⟩
 ·rename_i he
  have he:(frV l).e=0:=Classical.not_not.1 he;have hf:=hf he;split
  ·exact⟨h.v1,h.v2,h.v3,h.v4⟩
  ·split
   ·exact⟨h.v1,h.v2,h.v3,h.v4⟩
   ·generalize frV l=F at hf ⊢
    obtain⟨k,sq,v,e⟩:=F;simp only at hf;obtain⟨p1,p2,p3,p4⟩:=h;obtain⟨h1,h2,h3,h4,h5,v1,v2,v3,v4,v5,bad,stale,twice,beyond⟩:=m;have hk:k=1\/k=2\/k=3\/k=4\/k=5:=(by omega);rcases hk with rfl|rfl|rfl|rfl|rfl
    ·show F7 ⟨true,h2,h3,h4,h5,v,v2,v3,v4,v5,bad,stale,twice,beyond⟩
     exact⟨λ_=>by show 0<=v/\v<=65535;omega,λh=>p2 h,λh=>p3 h,λh=>p4 h⟩
    ·show F7 ⟨h1,true,h3,h4,h5,v1,v,v3,v4,v5,bad,stale,twice,beyond⟩
     exact⟨λh=>p1 h,λ_=>by show 0<=v/\v<=65535;omega,λh=>p3 h,λh=>p4 h⟩
    ·show F7 ⟨h1,h2,true,h4,h5,v1,v2,v,v4,v5,bad,stale,twice,beyond⟩
     exact⟨λh=>p1 h,λh=>p2 h,λ_=>by show -2147483648<=v/\v<=2147483648;omega,λh=>p4 h⟩
    ·show F7 ⟨h1,h2,h3,true,h5,v1,v2,v3,v,v5,bad,stale,twice,beyond⟩
     exact⟨λh=>p1 h,λh=>p2 h,λh=>p3 h,λ_=>by show -2147483648<=v/\v<=2147483648;omega⟩
    ·show F7 ⟨h1,h2,h3,h4,true,v1,v2,v3,v4,v,bad,stale,twice,beyond⟩
     exact⟨λh=>p1 h,λh=>p2 h,λh=>p3 h,λh=>p4 h⟩
theorem Sr{s:Int}:∀(l:List (List Int)) (m:Ml),F7 m->(∀b,b∈l->Ar b)->F7 (l.foldl (λm b=>Dy s m (frV b)) m)
 | [],m,h,_=>h
 | b::l,m,h,hb=>by
   rw[List.foldl_cons];exact Sr l _ (bB h (hb b List.mem_cons_self)) λx hx=>hb x (List.mem_cons_of_mem _ hx)
theorem Vk(c:Int){l:List (List Int)}(h:∀b,b∈l->Ar b):F7 (Cc c l):=by
 unfold Cc;refine Sr _ _ ?_ λb hb=>h b (List.mem_of_mem_take hb);exact⟨λh=>by simp[ml0,Ml.has] at h,λh=>by simp[ml0,Ml.has] at h,λh=>by simp[ml0,Ml.has] at h,λh=>by simp[ml0,Ml.has] at h⟩
structure Ot(ss:List Sg)(gs:List Gr)(n:Nv)(mm:List (List Int)):Prop where
 fr:0<=n.p.fr/\n.p.fr<=1099511627776
 ok:Kg ss ⟨n.p.lo,n.p.hi,n.p.est,mm⟩
 ne:mm≠[]
 rs:n.p.rs=mm.map rtC
 gr:0<=n.gr/\∃G,gs[n.gr.toNat]?=some G
structure BL(ss:List Sg)(gs:List Gr)(n:Nv)(mm:List (List Int))(k:Int):Prop where
 cf:ER n.c
 tr:BN ss gs
 es:n.es=ss.map Ah
 ds:n.ds=gs.map Ak
 os:n.os=(List.range ss.length).map λx=>[AV.int .i64 (Er ss x)]
 kk:0<=k/\k<=1000000
 cy:n.cy=k
 g:n.g0<=n.g1 /\ -1048576<=n.g0/\n.g1<=1048576
 k0: -32768*k<=n.k0.su/\n.k0.su<=32768*k
 k1: -32768*k<=n.k1.su/\n.k1.su<=32768*k
 c0:0<n.a0/\n.a0<=n.b0/\n.b0<=8388608
 c1:0<n.a1/\n.a1<=n.b1/\n.b1<=8388608
 sp: -n.c.c6<=n.lo/\n.lo<=n.hi/\n.hi<=n.c.c6
 di:0<=n.di/\n.di<=16777216*k
 on:n.on=true->Ot ss gs n mm
 off:n.on=false->n.gr=0/\n.p=JG/\mm=[]
 or: -17592186044416<=n.o0/\n.o0<=n.o1/\n.o1<=17592186044416
 s0: -32768*k<=n.s0/\n.s0<=32768*k
 s1: -32768*k<=n.s1/\n.s1<=32768*k
 sc:0<=n.sc/\n.sc<=1000
 mo:n.m0<=n.m1 /\ -16777216*k<=n.m0/\n.m1<=16777216*k
 ws:0<=n.w.si/\n.w.si<=1001
 wt:0<=n.w.st/\n.w.st<=1001
theorem BL.nvu{ss:List Sg}{gs:List Gr}{n:Nv}{mm:List (List Int)}{k:Int}(h:BL ss gs n mm k):NvU n:=by
 refine⟨by rw[h.es];exact Bu ss,by rw[h.ds];exact Bv gs,?_,?_⟩
 ·rw[h.os];exact BM (f:=λx=>[AV.int .i64 (Er ss x)]) (λd=>rfl) _
 ·cases ho:n.on with
  | true=>rw[(h.on ho).rs];exact BM (f:=rtC) (λd=>rfl) mm
  | false=>rw[(h.off ho).2.1];exact⟨rfl⟩
theorem Ot.plc{ss:List Sg}{gs:List Gr}{n:Nv}{mm:List (List Int)}(h:Ot ss gs n mm):JM ss mm n:=
 ⟨h.fr,λl hl=>⟨(h.ok.way l hl).len.1,(h.ok.way l hl).seg⟩,h.ok.few,h.rs⟩
theorem BL.sn{ss:List Sg}{gs:List Gr}{n:Nv}{mm:List (List Int)}{k:Int}(h:BL ss gs n mm k):Ou n:=by
 have h1:=h.k0;have h2:=h.k1;have h3:=h.kk;exact⟨h.cf,⟨by omega,by omega⟩,⟨by omega,by omega⟩,h.c0,h.c1,h.sp⟩
theorem SC(k:Ct)(v:Int)(has:Bool): -32768<=(pnV k v has).1.su-k.su/\(pnV k v has).1.su-k.su<=32768:=by
 unfold pnV;split
 ·simp only;omega
 ·split
  ·simp only;omega
  ·unfold Gd;simp only;omega
end Go.Proofs.YtlchlddijclhjaaGreat
