/- Parts of the proofs. -/
import Derived.Test.YtlchlddijclhjaaGreatR16
import Derived.KernelRfl
import Derived.Test.YtlchlddijclhjaaGreatR8
import Derived.Test.YtlchlddijclhjaaGreatR13
import Derived.Test.YtlchlddijclhjaaGreatR14
import Derived.Test.YtlchlddijclhjaaGreatRZ
set_option linter.unusedVariables false
set_option linter.unusedSimpArgs false
set_option maxHeartbeats 4000000
namespace Go.Proofs.YtlchlddijclhjaaGreat
open Go Go.RowKit Go.Eng
def plc(ss:List Sg)(sg off:Int):Int->List Int->List Int
 | _,[]=>[]
 | a,n::l=>(if n=sg then [a+off] else [])++plc ss sg off (a+BD ss n) l
def BS(ss:List Sg)(sg off from_:Int)(m:List (List Int)):List Int:=m.flatMap (plc ss sg off (-from_))
def EM:List Int->Int->List Int
 | [],x=>[x]
 | k::l,x=>if k<x then k::EM l x else if x<k then x::k::l else k::l
theorem Pj:∀(l:List Int) (x y:Int),y∈EM l x↔y∈l\/y=x
 | [],x,y=>by simp[EM]
 | k::l,x,y=>by
   simp only[EM];split
   ·rw[List.mem_cons,Pj l x y,List.mem_cons,or_assoc]
   ·split
    ·simp only[List.mem_cons]
     constructor
     ·rintro(h|h|h)
      ·exact .inr h
      ·exact .inl (.inl h)
      ·exact .inl (.inr h)
     ·rintro((h|h)|h)
      ·exact .inr (.inl h)
      ·exact .inr (.inr h)
      ·exact .inl h
    ·have:k=x:=by omega
     rw[List.mem_cons,this];constructor
     ·exact .inl
     ·rintro(h|h)
      ·exact h
      ·exact .inl h
theorem Ux:∀(l:List Int) (x:Int),l.Pairwise (· < ·)->(EM l x).Pairwise (· < ·)
 | [],x,_=>List.pairwise_singleton _ _
 | k::l,x,h=>by
   obtain⟨h1,h2⟩:=List.pairwise_cons.1 h;simp only[EM];split
   ·rename_i hk
    refine List.pairwise_cons.2 ⟨λy hy=>?_,Ux l x h2⟩;rcases (Pj l x y).1 hy with hy|hy
    ·exact h1 y hy
    ·omega
   ·split
    ·rename_i hk
     refine List.pairwise_cons.2 ⟨λy hy=>?_,h⟩;rcases List.mem_cons.1 hy with rfl|hy
     ·exact hk
     ·have:=h1 y hy;omega
    ·exact h
theorem Uy:∀(l:List Int) (x:Int),(EM l x).length<=l.length+1
 | [],x=>by simp[EM]
 | k::l,x=>by
   have:=Uy l x;simp only[EM];split
   ·simp only[List.length_cons];omega
   ·split<;>simp
theorem Mf:∀(l q:List Int),q.Pairwise (· < ·)->(l.foldl EM q).Pairwise (· < ·)/\(∀y,y∈l.foldl EM q↔y∈q\/y∈l)/\(l.foldl EM q).length<=q.length+l.length
 | [],q,h=>⟨h,λy=>by simp,by simp⟩
 | x::l,q,h=>by
   obtain⟨h1,h2,h3⟩:=Mf l (EM q x) (Ux q x h);have:=Uy q x;refine⟨h1,λy=>?_,by simp only[List.foldl_cons,List.length_cons];omega⟩;rw[List.foldl_cons,h2,Pj,List.mem_cons,or_assoc]
theorem Uz:∀(l m:List Int),l.Pairwise (· < ·)->m.Pairwise (· < ·)->(∀x,x∈l↔x∈m)->l=m
 | [],[],_,_,_=>rfl
 | [],b::m,_,_,h=>by have:=(h b).2 List.mem_cons_self;simp at this
 | a::l,[],_,_,h=>by have:=(h a).1 List.mem_cons_self;simp at this
 | a::l,b::m,h1,h2,h=>by
   obtain⟨a1,a2⟩:=List.pairwise_cons.1 h1;obtain⟨b1,b2⟩:=List.pairwise_cons.1 h2
   have e:a=b:=by
    have k1:=(h a).1 List.mem_cons_self;have k2:=(h b).2 List.mem_cons_self;rcases List.mem_cons.1 k1 with k1|k1
    ·exact k1
    ·rcases List.mem_cons.1 k2 with k2|k2
     ·exact k2.symm
     ·have:=b1 a k1;have:=a1 b k2;omega
   subst e;congr 1
   refine Uz l m a2 b2 λx=>⟨λhx=>?_,λhx=>?_⟩
   ·rcases List.mem_cons.1 ((h x).1 (List.mem_cons_of_mem _ hx)) with k|k
    ·have:=a1 x hx;omega
    ·exact k
   ·rcases List.mem_cons.1 ((h x).2 (List.mem_cons_of_mem _ hx)) with k|k
    ·have:=b1 x hx;omega
    ·exact k
def FK(ss:List Sg)(sg off from_:Int)(m:List (List Int)):List Int:=(BS ss sg off from_ m).foldl EM []
theorem WR{ss:List Sg}{sg off from_:Int}{m:List (List Int)}{os:List Int}(h1:os.Pairwise (· < ·))(h2:∀x,x∈os↔x∈BS ss sg off from_ m):os=FK ss sg off from_ m:=by
 obtain⟨k1,k2,_⟩:=Mf (BS ss sg off from_ m) [] List.Pairwise.nil;exact Uz _ _ h1 k1 λx=>by rw[h2];unfold FK at *;rw[k2];simp
theorem U_(ss:List Sg)(sg off:Int):∀(l:List Int) (a:Int),(plc ss sg off a l).length<=l.length
 | [],a=>by simp[plc]
 | n::l,a=>by
   have:=U_ ss sg off l (a+BD ss n);simp only[plc,List.length_append,List.length_cons];split<;>simp<;>omega
theorem K9(ss:List Sg)(sg off from_:Int):∀(m:List (List Int)),(∀l,l∈m->l.length<=12)->(BS ss sg off from_ m).length<=12*m.length
 | [],_=>by simp[BS]
 | l::m,h=>by
   have h1:=K9 ss sg off from_ m λx hx=>h x (List.mem_cons_of_mem _ hx);have h2:=U_ ss sg off l (-from_);have h3:=h l List.mem_cons_self;unfold BS at h1 ⊢;rw[List.flatMap_cons,List.length_append,List.length_cons];omega
theorem QP(ss:List Sg)(sg off from_:Int)(m:List (List Int))(l:List Int):BS ss sg off from_ (m++[l])=BS ss sg off from_ m++plc ss sg off (-from_) l:=by
 unfold BS;rw[List.flatMap_append];simp
set_option maxRecDepth 100000
def Et(o:Option (Nat×List (List AV)))(acc:List Int):Prop:=match o with|none=>acc=[]|some (k,w)=>w=acc.map Ac/\k=w.length/\Up0 w
theorem K8{α: Type}{l:List α}{i:Nat}{a: α}(h:l[i]?=some a):l.drop i=a::l.drop (i+1):=by
 obtain⟨h1,h2⟩:=List.getElem?_eq_some_iff.1 h;rw[List.drop_eq_getElem_cons h1,h2]
theorem WM:A9 Tryz.prog 232 [.nils] (· = .nils):=by
 (refine A9.ofY Tryz.func232 (by kernel_rfl) (by kernel_rfl) λw hw R hR=>?_);(subst hw);(conv=>arg 2;cbv);(generalize hP:Tryz.prog=P);cbv;exact Z.r hR
theorem WN(ss:List Sg)(gs:List Gr)(es ds:List (List AV))(zQ:es=ss.map Ah)(zY:ds=gs.map Ak)(kr:CS ss)(from_:Int)(hf:0<=from_/\from_<=1099511627776)(m:List (List Int))(lU:∀l,l∈m->l.length<=12/\∀n,n∈l->0<=n/\n.toNat<ss.length)(hm:m.length<=1000)(rs:List (List AV))(yD:rs=m.map rtC)
 (g:Int) (hg:0<=g) (G:Gr) (hG:gs[g.toNat]?=some G) (pJ:0<=G.off/\G.off<=1099511627776) :
 A9 Tryz.prog 214 [.agg [from_,.list 13 rs],.agg [.list 3 es,.list 5 ds],g] (· = .list 1 ((FK ss G.seg G.off from_ m).map Ac)):=by
 have hu:Up0 es:=by rw[zQ];exact Bu ss
 have lH:Up0 ds:=by rw[zY];exact Bv gs
 have lW:Up0 rs:=by rw[yD];exact BM (f:=rtC) (λd=>rfl) m
 have oL:rs.length=m.length:=by rw[yD];simp
 have uH:ds.length=gs.length:=by rw[zY];simp
 have uF:=(List.getElem?_eq_some_iff.1 hG).1;obtain⟨gid,gseg,goff,gacc,gsl⟩:=G;have hG:ds[g.toNat]?=some [jz gid,jz gseg,jz goff,jz gacc,jz gsl]:=by rw[zY,List.getElem?_map,hG];rfl
 simp only at pJ;obtain⟨v,ev⟩:=Z.e (FK ss gseg goff from_ m);show A9 Tryz.prog 214 [.agg [from_,.list 13 rs],.agg [.list 3 es,.list 5 ds],g] (· = .list 1 ((FK ss gseg goff from_ m).map Ac));rw[<- ev];have oQ:=K9 ss gseg goff from_ m λl hl=>(lU l hl).1;refine Z.y Tryz.func214 λzB _ yN _ _ _ hw zC _ yJ _ _ zH hz R hR P hP=>?_;cbv;obtain⟨J,eJ,J0,Jn⟩:=Z.l zH ds;obtain⟨L,eL,L0,Ln⟩:=Z.l zH rs;repeat' (first|(exfalso;omega)|(split<;>rename_i h<;>(try (simp only[eJ] at h))<;>(try (simp only[hz,Z.a,AF,AC,AO,AP,AL,reduceCtorEq] at h))<;>(try cbv)))
 all_goals first|(exfalso;omega)|skip
 refine Idx.mk _ hg hG ?_;cbv;(refine Call.inl hw hP Tryz.func224 (by kernel_rfl) (by kernel_rfl) ?_);(conv=>arg 2;cbv);cbv;simp only[eL];obtain⟨a0,uO⟩:∃a0,a0 = -from_:=⟨_,rfl⟩;have c0:yN .neg .i64 from_=a0:=by rw[yJ,uO];simp only[AO];rw[IntKind.wrap_i64];omega
 refine Ae.dataN hw (S:=Int×Option (Nat×List (List AV))) (λs=>fr 42 [(2,.func (.func 230) [] [.ref 3 5 0 0,.ref 2 1 0 0]),(3,.ref 4 2 0 0),(4,.ref 5 2 0 0),(12,.list 13 rs),(13,L),(14,s.1)])
  (λs=>match s.2 with|none=>[.live 2 [[from_,.list 13 rs]],.live 2 [[.list 3 es,.list 5 ds]],.live 1 [[.nils]],.live 5 [[gid,gseg,goff,gacc,gsl]],.live 2 [[from_,.list 13 rs]],.live 2 [[.list 3 es,.list 5 ds]]]|some (k,w)=>[.live 2 [[from_,.list 13 rs]],.live 2 [[.list 3 es,.list 5 ds]],.live 1 [[.sl 6 1 0 k]],.live 5 [[gid,gseg,goff,gacc,gsl]],.live 2 [[from_,.list 13 rs]],.live 2 [[.list 3 es,.list 5 ds]],.live 1 w])
  (λs=>0<=s.1/\s.1<=L/\Et s.2 (BS ss gseg goff from_ (m.take s.1.toNat))) (λs=>(L-s.1).toNat) (0,none) (by(refine Z.n (id) ?_;cbv<;>exact Z.q)) ⟨Int.le_refl _,L0,rfl⟩ ?_
 rintro⟨i,(_|⟨k0,w0⟩)⟩ zJ Q' hN hE hR'
 ·have zJ:0<=i/\i<=L/\Et none (BS ss gseg goff from_ (m.take i.toNat)):=zJ
  cbv;obtain⟨zW,yZ,lc⟩:=zJ;have vQ:=K9 ss gseg goff from_ (m.take i.toNat) λx hx=>(lU x (List.mem_of_mem_take hx)).1;rw[List.length_take,Nat.min_eq_left Z.o] at vQ;(split<;>rename_i hc<;>(try (simp only[hz,Z.a,AF,AC,AO,AP,AL,reduceCtorEq] at hc))<;>(try cbv))
  rotate_left 1
  ·rw[List.take_of_length_le Z.o] at lc
   refine hE _ _ _ ?_;cbv;have uT:v=[]:=(by rw[ev];unfold FK;rw[show BS ss gseg goff from_ m=[] from lc];rfl);refine Call.stepE (WO hP) rfl ?_;cbv;refine Call.stepE (by rw[<- hP];exact WM) rfl ?_;cbv;exact⟨_,Vw.nil 1,hR _ (by rw[uT];rfl)⟩
  obtain⟨l,hl⟩:∃l,m[i.toNat]?=some l:=⟨_,List.getElem?_eq_getElem (show i.toNat<m.length by omega)⟩;obtain⟨vR,pM⟩:=lU l (List.mem_of_getElem? hl);have oG:rs[i.toNat]?=some (toR l).row:=(by rw[yD,List.getElem?_map,hl];rfl);obtain⟨xs,exs⟩:=Z.e (l.map Ac);have huxs:Up0 xs:=(by rw[exs];exact CG l);have uR:xs.length=l.length:=(by rw[exs];simp);have sW:=KA l vR;have sW:A9 Tryz.prog 107 [.agg (toR l).row] (· = .list 1 xs):=(by rw[exs];exact sW);obtain⟨i2,kW⟩:=Z.e (i+1);have a4:zB .add .i64 i 1=i2:=by rw[zC,kW];show IntKind.i64.wrap (i+1)=i+1;rw[IntKind.wrap_i64];omega
  have n_:(L-i2).toNat<(L-i).toNat:=(by omega);have mU:m.take i2.toNat=m.take i.toNat++[l]:=(by rw[kW];exact Eu zW hl);have rM:BS ss gseg goff from_ (m.take i2.toNat)=BS ss gseg goff from_ (m.take i.toNat)++plc ss gseg goff (-from_) l:=(by rw[mU,QP]);obtain⟨row,erow⟩:=Z.e (toR l);rw[<- erow] at oG sW;obtain⟨n,s0,s1,s2,s3,s4,s5,s6,s7,s8,s9,s10,s11⟩:=row;obtain⟨K,eK,K0,Kn⟩:=Z.l zH xs;refine Idx.mk _ zW oG ?_;cbv;simp only[c0];refine Call.stepE (by rw[<- hP];exact sW) rfl ?_;cbv;simp only[eK]
  refine Ae.dataN hw (S:=Int×Int×Option (Nat×List (List AV))) (λs=>fr 42 [(2,.func (.func 230) [] [.ref 3 5 0 0,.ref 2 1 0 0]),(3,.ref 4 2 0 0),(4,.ref 5 2 0 0),(8,s.2.1),(12,.list 13 rs),(13,L),(14,i),(22,.list 1 xs),(23,K),(24,s.1)])
   (λs=>match s.2.2 with|none=>[.live 2 [[from_,.list 13 rs]],.live 2 [[.list 3 es,.list 5 ds]],.live 1 [[.nils]],.live 5 [[gid,gseg,goff,gacc,gsl]],.live 2 [[from_,.list 13 rs]],.live 2 [[.list 3 es,.list 5 ds]]]|some (k,w)=>[.live 2 [[from_,.list 13 rs]],.live 2 [[.list 3 es,.list 5 ds]],.live 1 [[.sl 6 1 0 k]],.live 5 [[gid,gseg,goff,gacc,gsl]],.live 2 [[from_,.list 13 rs]],.live 2 [[.list 3 es,.list 5 ds]],.live 1 w])
   (λs=>0<=s.1/\s.1<=K /\ -1099511627776<=s.2.1/\s.2.1<=s.1*1099511627776/\∃acc,Et s.2.2 acc/\acc.length<=12*i.toNat+s.1.toNat/\acc++plc ss gseg goff s.2.1 (l.drop s.1.toNat)=BS ss gseg goff from_ (m.take i2.toNat)) (λs=>(K-s.1).toNat) (0,a0,none) (by(refine Z.n (id) ?_;cbv<;>exact Z.q)) ⟨Int.le_refl _,K0,by simp only;omega,by simp only;omega,_,lc,by simp only;omega,by simp only;rw[rM,uO];rfl⟩ ?_
  rintro⟨j,a,(_|⟨k1,w1⟩)⟩ yV Q2 nS sO hR2
  ·have yV:0<=j/\j<=K /\ -1099511627776<=a/\a<=j*1099511627776/\∃acc,Et (none) acc/\acc.length<=12*i.toNat+j.toNat/\acc++plc ss gseg goff a (l.drop j.toNat)=BS ss gseg goff from_ (m.take i2.toNat):=yV
   cbv;obtain⟨qI,zq,vI,t_,acc,oK,oF,lJ⟩:=yV;(split<;>rename_i hd<;>(try (simp only[hz,Z.a,AF,AC,AO,AP,AL,reduceCtorEq] at hd))<;>(try cbv))
   rotate_left 1
   ·refine sO _ _ _ ?_
    cbv;simp only[a4];have e:BS ss gseg goff from_ (m.take i2.toNat)=acc:=(by rw[<- lJ,List.drop_of_length_le Z.o];simp[plc]);refine hN (i2,none) _ _ ?hx ?hI n_
    case hx=>(refine Z.n (id) ?_;cbv<;>exact Z.q)
    case hI=>exact⟨by simp only;omega,by simp only;omega,by rw[e];exact oK⟩
   obtain⟨c,qc⟩:∃c,l[j.toNat]?=some c:=⟨_,List.getElem?_eq_getElem (show j.toNat<l.length by omega)⟩;have tV:xs[j.toNat]?=some [jz c]:=(by rw[exs,List.getElem?_map,qc];rfl);obtain⟨lw,qZ⟩:=pM c (List.mem_of_getElem? qc);obtain⟨⟨len,pps,nx⟩,sI,zL⟩:=BI (f:=Ah) (ds:=ss) (i:=c) lw qZ;obtain⟨pq,epq⟩:=Z.f (pps.map Ap);obtain⟨n1,lK⟩:=Z.f (nx.map Ac);have zL:es[c.toNat]?=some [jz len,.list 2 pq,.list 1 n1]:=(by rw[zQ,<- epq,<- lK];exact zL);have zH:BD ss c=len:=(by unfold BD;rw[sI]);have wV:=IV kr c;rw[zH] at wV;obtain⟨j2,sQ⟩:=Z.e (j+1);have a5:zB .add .i64 j 1=j2:=by rw[zC,sQ];show IntKind.i64.wrap (j+1)=j+1;rw[IntKind.wrap_i64];omega
   obtain⟨a2,qy⟩:=Z.e (a+len);have a6:zB .add .i64 a len=a2:=by rw[zC,qy];show IntKind.i64.wrap (a+len)=a+len;rw[IntKind.wrap_i64];omega
   obtain⟨p2,uM⟩:=Z.e (a+goff);have a7:zB .add .i64 a goff=p2:=by rw[zC,uM];show IntKind.i64.wrap (a+goff)=a+goff;rw[IntKind.wrap_i64];omega
   have pY:(K-j2).toNat<(K-j).toNat:=by omega
   have lL:plc ss gseg goff a (l.drop j.toNat)=(if c=gseg then [p2] else [])++plc ss gseg goff a2 (l.drop j2.toNat):=by
    rw[K8 qc,show j2.toNat=j.toNat+1 by omega,uM,qy,<- zH];rfl
   rw[lL] at lJ;clear lL;refine Idx.mk _ qI tV ?_;cbv;(refine Call.inl hw hP Tryz.func230 (by kernel_rfl) (by kernel_rfl) ?_);(conv=>arg 2;cbv);cbv;(split<;>rename_i he<;>(try (simp only[hz,Z.a,AF,AC,AO,AP,AL,reduceCtorEq] at he))<;>(try cbv))
   ·simp only[a7]
    have vw:acc=[]:=oK;refine Ob.mk Z.d ?_;cbv;refine Idx.mk _ lw zL ?_;cbv;simp only[a5,a6];refine nS (j2,a2,some (1,[[jz p2]])) _ _ ?hx ?hI pY
    case hx=>(refine Z.n (λj=>[0,1,2,3,4,5,6].getD j 0) ?_;cbv<;>exact Z.q)
    case hI=>exact⟨by simp only;omega,by simp only;omega,by simp only;omega,by simp only;omega,[p2],⟨rfl,rfl,⟨rfl⟩⟩,by simp only[List.length_cons,List.length_nil];omega,by rw[<- lJ,vw,if_pos he];simp⟩
   ·refine Idx.mk _ lw zL ?_
    cbv;simp only[a5,a6];refine nS (j2,a2,none) _ _ ?hx ?hI pY
    case hx=>(refine Z.n (id) ?_;cbv<;>exact Z.q)
    case hI=>exact⟨by simp only;omega,by simp only;omega,by simp only;omega,by simp only;omega,acc,oK,by simp only;omega,by rw[<- lJ,if_neg he];simp⟩
  ·have yV:0<=j/\j<=K /\ -1099511627776<=a/\a<=j*1099511627776/\∃acc,Et (some (k1,w1)) acc/\acc.length<=12*i.toNat+j.toNat/\acc++plc ss gseg goff a (l.drop j.toNat)=BS ss gseg goff from_ (m.take i2.toNat):=yV
   cbv;obtain⟨qI,zq,vI,t_,acc,oK,oF,lJ⟩:=yV;have huw1:Up0 w1:=oK.2.2;have oU:k1=w1.length:=oK.2.1;have hwl1:w1.length=acc.length:=(by rw[oK.1];simp);(split<;>rename_i hd<;>(try (simp only[hz,Z.a,AF,AC,AO,AP,AL,reduceCtorEq] at hd))<;>(try cbv))
   rotate_left 1
   ·refine sO _ _ _ ?_
    cbv;simp only[a4];have e:BS ss gseg goff from_ (m.take i2.toNat)=acc:=(by rw[<- lJ,List.drop_of_length_le Z.o];simp[plc]);refine hN (i2,some (k1,w1)) _ _ ?hx ?hI n_
    case hx=>(refine Z.n (id) ?_;cbv<;>exact Z.q)
    case hI=>exact⟨by simp only;omega,by simp only;omega,by rw[e];exact oK⟩
   obtain⟨c,qc⟩:∃c,l[j.toNat]?=some c:=⟨_,List.getElem?_eq_getElem (show j.toNat<l.length by omega)⟩;have tV:xs[j.toNat]?=some [jz c]:=(by rw[exs,List.getElem?_map,qc];rfl);obtain⟨lw,qZ⟩:=pM c (List.mem_of_getElem? qc);obtain⟨⟨len,pps,nx⟩,sI,zL⟩:=BI (f:=Ah) (ds:=ss) (i:=c) lw qZ;obtain⟨pq,epq⟩:=Z.f (pps.map Ap);obtain⟨n1,lK⟩:=Z.f (nx.map Ac);have zL:es[c.toNat]?=some [jz len,.list 2 pq,.list 1 n1]:=(by rw[zQ,<- epq,<- lK];exact zL);have zH:BD ss c=len:=(by unfold BD;rw[sI]);have wV:=IV kr c;rw[zH] at wV;obtain⟨j2,sQ⟩:=Z.e (j+1);have a5:zB .add .i64 j 1=j2:=by rw[zC,sQ];show IntKind.i64.wrap (j+1)=j+1;rw[IntKind.wrap_i64];omega
   obtain⟨a2,qy⟩:=Z.e (a+len);have a6:zB .add .i64 a len=a2:=by rw[zC,qy];show IntKind.i64.wrap (a+len)=a+len;rw[IntKind.wrap_i64];omega
   obtain⟨p2,uM⟩:=Z.e (a+goff);have a7:zB .add .i64 a goff=p2:=by rw[zC,uM];show IntKind.i64.wrap (a+goff)=a+goff;rw[IntKind.wrap_i64];omega
   have pY:(K-j2).toNat<(K-j).toNat:=by omega
   have lL:plc ss gseg goff a (l.drop j.toNat)=(if c=gseg then [p2] else [])++plc ss gseg goff a2 (l.drop j2.toNat):=by
    rw[K8 qc,show j2.toNat=j.toNat+1 by omega,uM,qy,<- zH];rfl
   rw[lL] at lJ;clear lL;refine Idx.mk _ qI tV ?_;cbv;(refine Call.inl hw hP Tryz.func230 (by kernel_rfl) (by kernel_rfl) ?_);(conv=>arg 2;cbv);cbv;(split<;>rename_i he<;>(try (simp only[hz,Z.a,AF,AC,AO,AP,AL,reduceCtorEq] at he))<;>(try cbv))
   ·simp only[a7]
    obtain⟨w2,lN⟩:∃x:List (List AV),x=w1++[[jz p2]]:=⟨_,rfl⟩;obtain⟨k2,wH⟩:=Z.e (k1+1);have hwl2:w2.length=w1.length+1:=(by rw[lN];simp);have mX:w2=(acc++[p2]).map Ac:=(by rw[lN,oK.1];simp[Ac]);have lQ:Up0 w2:=(by rw[mX];exact CG _);refine App.mk w2 k2 lN oU wH Z.o Z.o ?_;cbv;refine Idx.mk _ lw zL ?_;cbv;simp only[a5,a6];refine nS (j2,a2,some (k2,w2)) _ _ ?hx ?hI pY
    case hx=>(refine Z.n (λj=>[0,1,2,3,4,5,7].getD j 0) ?_;cbv<;>exact Z.q)
    case hI=>exact⟨by simp only;omega,by simp only;omega,by simp only;omega,by simp only;omega,acc++[p2],⟨mX,by omega,lQ⟩,by simp only[List.length_append,List.length_cons,List.length_nil];omega,by rw[<- lJ,if_pos he];simp⟩
   ·refine Idx.mk _ lw zL ?_
    cbv;simp only[a5,a6];refine nS (j2,a2,some (k1,w1)) _ _ ?hx ?hI pY
    case hx=>(refine Z.n (id) ?_;cbv<;>exact Z.q)
    case hI=>exact⟨by simp only;omega,by simp only;omega,by simp only;omega,by simp only;omega,acc,oK,by simp only;omega,by rw[<- lJ,if_neg he];simp⟩
 ·have zJ:0<=i/\i<=L/\Et (some (k0,w0)) (BS ss gseg goff from_ (m.take i.toNat)):=zJ
  cbv;obtain⟨zW,yZ,lc⟩:=zJ;have oD:Up0 w0:=lc.2.2;have vQ:=K9 ss gseg goff from_ (m.take i.toNat) λx hx=>(lU x (List.mem_of_mem_take hx)).1;rw[List.length_take,Nat.min_eq_left Z.o] at vQ;(split<;>rename_i hc<;>(try (simp only[hz,Z.a,AF,AC,AO,AP,AL,reduceCtorEq] at hc))<;>(try cbv))
  rotate_left 1
  ·rw[List.take_of_length_le Z.o] at lc
   refine hE _ _ _ ?_;cbv;have vz:w0.length=(BS ss gseg goff from_ m).length:=(by rw[lc.1];simp);refine Call.of (WP hP (s:=6) (n:=k0) (ns:=BS ss gseg goff from_ m) rfl lc.1 (by rw[lc.2.1,vz]) Z.o ?_);rintro ns' uA mH;obtain⟨w2,lN⟩:=Z.e (ns'.map Ac);rw[<- lN];cbv;have hpl2:=uA.length_eq;refine Call.of (WQ hP (s:=6) (n:=k0) (ns:=ns') rfl lN (by rw[lc.2.1,vz,hpl2]) Z.o mH ?_);rintro os zs h1 h2 h3;obtain⟨w3,wE⟩:∃x,x=(os++zs).map Ac:=⟨_,rfl⟩;obtain⟨k3,ek3⟩:=Z.e os.length;rw[<- wE,<- ek3];cbv;have huw3:Up0 w3:=(by rw[wE];exact CG _);have kV:os=v:=(by rw[ev];exact WR h1 λx=>by rw[h2,uA.mem_iff]);have e1:(w3.drop 0).take k3=v.map Ac:=(by rw[wE,ek3,List.drop_zero,<- List.map_take,List.take_left,kV]);have hw3l:k3<=w3.length:=(by rw[wE,ek3];simp);refine⟨_,Vw.sl (s:=6) (z:=1) (n:=k3) (i:=0) rfl huw3.get Z.o,hR _ ?_⟩;rw[e1]
  obtain⟨l,hl⟩:∃l,m[i.toNat]?=some l:=⟨_,List.getElem?_eq_getElem (show i.toNat<m.length by omega)⟩;obtain⟨vR,pM⟩:=lU l (List.mem_of_getElem? hl);have oG:rs[i.toNat]?=some (toR l).row:=(by rw[yD,List.getElem?_map,hl];rfl);obtain⟨xs,exs⟩:=Z.e (l.map Ac);have huxs:Up0 xs:=(by rw[exs];exact CG l);have uR:xs.length=l.length:=(by rw[exs];simp);have sW:=KA l vR;have sW:A9 Tryz.prog 107 [.agg (toR l).row] (· = .list 1 xs):=(by rw[exs];exact sW);obtain⟨i2,kW⟩:=Z.e (i+1);have a4:zB .add .i64 i 1=i2:=by rw[zC,kW];show IntKind.i64.wrap (i+1)=i+1;rw[IntKind.wrap_i64];omega
  have n_:(L-i2).toNat<(L-i).toNat:=(by omega);have mU:m.take i2.toNat=m.take i.toNat++[l]:=(by rw[kW];exact Eu zW hl);have rM:BS ss gseg goff from_ (m.take i2.toNat)=BS ss gseg goff from_ (m.take i.toNat)++plc ss gseg goff (-from_) l:=(by rw[mU,QP]);obtain⟨row,erow⟩:=Z.e (toR l);rw[<- erow] at oG sW;obtain⟨n,s0,s1,s2,s3,s4,s5,s6,s7,s8,s9,s10,s11⟩:=row;obtain⟨K,eK,K0,Kn⟩:=Z.l zH xs;refine Idx.mk _ zW oG ?_;cbv;simp only[c0];refine Call.stepE (by rw[<- hP];exact sW) rfl ?_;cbv;simp only[eK]
  refine Ae.dataN hw (S:=Int×Int×Option (Nat×List (List AV))) (λs=>fr 42 [(2,.func (.func 230) [] [.ref 3 5 0 0,.ref 2 1 0 0]),(3,.ref 4 2 0 0),(4,.ref 5 2 0 0),(8,s.2.1),(12,.list 13 rs),(13,L),(14,i),(22,.list 1 xs),(23,K),(24,s.1)])
   (λs=>match s.2.2 with|none=>[.live 2 [[from_,.list 13 rs]],.live 2 [[.list 3 es,.list 5 ds]],.live 1 [[.nils]],.live 5 [[gid,gseg,goff,gacc,gsl]],.live 2 [[from_,.list 13 rs]],.live 2 [[.list 3 es,.list 5 ds]]]|some (k,w)=>[.live 2 [[from_,.list 13 rs]],.live 2 [[.list 3 es,.list 5 ds]],.live 1 [[.sl 6 1 0 k]],.live 5 [[gid,gseg,goff,gacc,gsl]],.live 2 [[from_,.list 13 rs]],.live 2 [[.list 3 es,.list 5 ds]],.live 1 w])
   (λs=>0<=s.1/\s.1<=K /\ -1099511627776<=s.2.1/\s.2.1<=s.1*1099511627776/\∃acc,Et s.2.2 acc/\acc.length<=12*i.toNat+s.1.toNat/\acc++plc ss gseg goff s.2.1 (l.drop s.1.toNat)=BS ss gseg goff from_ (m.take i2.toNat)) (λs=>(K-s.1).toNat) (0,a0,some (k0,w0)) (by(refine Z.n (id) ?_;cbv<;>exact Z.q)) ⟨Int.le_refl _,K0,by simp only;omega,by simp only;omega,_,lc,by simp only;omega,by simp only;rw[rM,uO];rfl⟩ ?_
  rintro⟨j,a,(_|⟨k1,w1⟩)⟩ yV Q2 nS sO hR2
  ·have yV:0<=j/\j<=K /\ -1099511627776<=a/\a<=j*1099511627776/\∃acc,Et (none) acc/\acc.length<=12*i.toNat+j.toNat/\acc++plc ss gseg goff a (l.drop j.toNat)=BS ss gseg goff from_ (m.take i2.toNat):=yV
   cbv;obtain⟨qI,zq,vI,t_,acc,oK,oF,lJ⟩:=yV;(split<;>rename_i hd<;>(try (simp only[hz,Z.a,AF,AC,AO,AP,AL,reduceCtorEq] at hd))<;>(try cbv))
   rotate_left 1
   ·refine sO _ _ _ ?_
    cbv;simp only[a4];have e:BS ss gseg goff from_ (m.take i2.toNat)=acc:=(by rw[<- lJ,List.drop_of_length_le Z.o];simp[plc]);refine hN (i2,none) _ _ ?hx ?hI n_
    case hx=>(refine Z.n (id) ?_;cbv<;>exact Z.q)
    case hI=>exact⟨by simp only;omega,by simp only;omega,by rw[e];exact oK⟩
   obtain⟨c,qc⟩:∃c,l[j.toNat]?=some c:=⟨_,List.getElem?_eq_getElem (show j.toNat<l.length by omega)⟩;have tV:xs[j.toNat]?=some [jz c]:=(by rw[exs,List.getElem?_map,qc];rfl);obtain⟨lw,qZ⟩:=pM c (List.mem_of_getElem? qc);obtain⟨⟨len,pps,nx⟩,sI,zL⟩:=BI (f:=Ah) (ds:=ss) (i:=c) lw qZ;obtain⟨pq,epq⟩:=Z.f (pps.map Ap);obtain⟨n1,lK⟩:=Z.f (nx.map Ac);have zL:es[c.toNat]?=some [jz len,.list 2 pq,.list 1 n1]:=(by rw[zQ,<- epq,<- lK];exact zL);have zH:BD ss c=len:=(by unfold BD;rw[sI]);have wV:=IV kr c;rw[zH] at wV;obtain⟨j2,sQ⟩:=Z.e (j+1);have a5:zB .add .i64 j 1=j2:=by rw[zC,sQ];show IntKind.i64.wrap (j+1)=j+1;rw[IntKind.wrap_i64];omega
   obtain⟨a2,qy⟩:=Z.e (a+len);have a6:zB .add .i64 a len=a2:=by rw[zC,qy];show IntKind.i64.wrap (a+len)=a+len;rw[IntKind.wrap_i64];omega
   obtain⟨p2,uM⟩:=Z.e (a+goff);have a7:zB .add .i64 a goff=p2:=by rw[zC,uM];show IntKind.i64.wrap (a+goff)=a+goff;rw[IntKind.wrap_i64];omega
   have pY:(K-j2).toNat<(K-j).toNat:=by omega
   have lL:plc ss gseg goff a (l.drop j.toNat)=(if c=gseg then [p2] else [])++plc ss gseg goff a2 (l.drop j2.toNat):=by
    rw[K8 qc,show j2.toNat=j.toNat+1 by omega,uM,qy,<- zH];rfl
   rw[lL] at lJ;clear lL;refine Idx.mk _ qI tV ?_;cbv;(refine Call.inl hw hP Tryz.func230 (by kernel_rfl) (by kernel_rfl) ?_);(conv=>arg 2;cbv);cbv;(split<;>rename_i he<;>(try (simp only[hz,Z.a,AF,AC,AO,AP,AL,reduceCtorEq] at he))<;>(try cbv))
   ·simp only[a7]
    have vw:acc=[]:=oK;refine Ob.mk Z.d ?_;cbv;refine Idx.mk _ lw zL ?_;cbv;simp only[a5,a6];refine nS (j2,a2,some (1,[[jz p2]])) _ _ ?hx ?hI pY
    case hx=>(refine Z.n (λj=>[0,1,2,3,4,5,6].getD j 0) ?_;cbv<;>exact Z.q)
    case hI=>exact⟨by simp only;omega,by simp only;omega,by simp only;omega,by simp only;omega,[p2],⟨rfl,rfl,⟨rfl⟩⟩,by simp only[List.length_cons,List.length_nil];omega,by rw[<- lJ,vw,if_pos he];simp⟩
   ·refine Idx.mk _ lw zL ?_
    cbv;simp only[a5,a6];refine nS (j2,a2,none) _ _ ?hx ?hI pY
    case hx=>(refine Z.n (id) ?_;cbv<;>exact Z.q)
    case hI=>exact⟨by simp only;omega,by simp only;omega,by simp only;omega,by simp only;omega,acc,oK,by simp only;omega,by rw[<- lJ,if_neg he];simp⟩
  ·have yV:0<=j/\j<=K /\ -1099511627776<=a/\a<=j*1099511627776/\∃acc,Et (some (k1,w1)) acc/\acc.length<=12*i.toNat+j.toNat/\acc++plc ss gseg goff a (l.drop j.toNat)=BS ss gseg goff from_ (m.take i2.toNat):=yV
   cbv;obtain⟨qI,zq,vI,t_,acc,oK,oF,lJ⟩:=yV;have huw1:Up0 w1:=oK.2.2;have oU:k1=w1.length:=oK.2.1;have hwl1:w1.length=acc.length:=(by rw[oK.1];simp);(split<;>rename_i hd<;>(try (simp only[hz,Z.a,AF,AC,AO,AP,AL,reduceCtorEq] at hd))<;>(try cbv))
   rotate_left 1
   ·refine sO _ _ _ ?_
    cbv;simp only[a4];have e:BS ss gseg goff from_ (m.take i2.toNat)=acc:=(by rw[<- lJ,List.drop_of_length_le Z.o];simp[plc]);refine hN (i2,some (k1,w1)) _ _ ?hx ?hI n_
    case hx=>(refine Z.n (id) ?_;cbv<;>exact Z.q)
    case hI=>exact⟨by simp only;omega,by simp only;omega,by rw[e];exact oK⟩
   obtain⟨c,qc⟩:∃c,l[j.toNat]?=some c:=⟨_,List.getElem?_eq_getElem (show j.toNat<l.length by omega)⟩;have tV:xs[j.toNat]?=some [jz c]:=(by rw[exs,List.getElem?_map,qc];rfl);obtain⟨lw,qZ⟩:=pM c (List.mem_of_getElem? qc);obtain⟨⟨len,pps,nx⟩,sI,zL⟩:=BI (f:=Ah) (ds:=ss) (i:=c) lw qZ;obtain⟨pq,epq⟩:=Z.f (pps.map Ap);obtain⟨n1,lK⟩:=Z.f (nx.map Ac);have zL:es[c.toNat]?=some [jz len,.list 2 pq,.list 1 n1]:=(by rw[zQ,<- epq,<- lK];exact zL);have zH:BD ss c=len:=(by unfold BD;rw[sI]);have wV:=IV kr c;rw[zH] at wV;obtain⟨j2,sQ⟩:=Z.e (j+1);have a5:zB .add .i64 j 1=j2:=by rw[zC,sQ];show IntKind.i64.wrap (j+1)=j+1;rw[IntKind.wrap_i64];omega
   obtain⟨a2,qy⟩:=Z.e (a+len);have a6:zB .add .i64 a len=a2:=by rw[zC,qy];show IntKind.i64.wrap (a+len)=a+len;rw[IntKind.wrap_i64];omega
   obtain⟨p2,uM⟩:=Z.e (a+goff);have a7:zB .add .i64 a goff=p2:=by rw[zC,uM];show IntKind.i64.wrap (a+goff)=a+goff;rw[IntKind.wrap_i64];omega
   have pY:(K-j2).toNat<(K-j).toNat:=by omega
   have lL:plc ss gseg goff a (l.drop j.toNat)=(if c=gseg then [p2] else [])++plc ss gseg goff a2 (l.drop j2.toNat):=by
    rw[K8 qc,show j2.toNat=j.toNat+1 by omega,uM,qy,<- zH];rfl
   rw[lL] at lJ;clear lL;refine Idx.mk _ qI tV ?_;cbv;(refine Call.inl hw hP Tryz.func230 (by kernel_rfl) (by kernel_rfl) ?_);(conv=>arg 2;cbv);cbv;(split<;>rename_i he<;>(try (simp only[hz,Z.a,AF,AC,AO,AP,AL,reduceCtorEq] at he))<;>(try cbv))
   ·simp only[a7]
    obtain⟨w2,lN⟩:∃x:List (List AV),x=w1++[[jz p2]]:=⟨_,rfl⟩;obtain⟨k2,wH⟩:=Z.e (k1+1);have hwl2:w2.length=w1.length+1:=(by rw[lN];simp);have mX:w2=(acc++[p2]).map Ac:=(by rw[lN,oK.1];simp[Ac]);have lQ:Up0 w2:=(by rw[mX];exact CG _);refine App.mk w2 k2 lN oU wH Z.o Z.o ?_;cbv;refine Idx.mk _ lw zL ?_;cbv;simp only[a5,a6];refine nS (j2,a2,some (k2,w2)) _ _ ?hx ?hI pY
    case hx=>(refine Z.n (λj=>[0,1,2,3,4,5,7].getD j 0) ?_;cbv<;>exact Z.q)
    case hI=>exact⟨by simp only;omega,by simp only;omega,by simp only;omega,by simp only;omega,acc++[p2],⟨mX,by omega,lQ⟩,by simp only[List.length_append,List.length_cons,List.length_nil];omega,by rw[<- lJ,if_pos he];simp⟩
   ·refine Idx.mk _ lw zL ?_
    cbv;simp only[a5,a6];refine nS (j2,a2,some (k1,w1)) _ _ ?hx ?hI pY
    case hx=>(refine Z.n (id) ?_;cbv<;>exact Z.q)
    case hI=>exact⟨by simp only;omega,by simp only;omega,by simp only;omega,by simp only;omega,acc,oK,by simp only;omega,by rw[<- lJ,if_neg he];simp⟩
set_option maxRecDepth 100000
theorem KC{a b c d l h:Int}(h1:a<=b)(h2:c<=d)(hl:min a c=l)(hh:max b d=h):A9 Tryz.prog 84 [.agg [a,b],.agg [c,d]] (· = .agg [l,h]):=by
 have r1:=Dt (a:=a) (b:=b) true (by simp[h1]);have r2:=Dt (a:=c) (b:=d) true (by simp[h2]);(refine A9.ofY Tryz.func84 (by kernel_rfl) (by kernel_rfl) (Z.w λ_ _ _ _ zF _ yO _ _ _ _ _ _ _ _ _ _ _ _ _ _ _ _ _ _ zI _ yS _ _ _ _ _ _ _ _ _ _ _ _ _ hz R hR=>?_));(conv=>arg 2;cbv);(generalize hP:Tryz.prog=P);cbv;have e1:yO false a c=l:=by rw[yS,G5,hl]
 have e2:yO true b d=h:=by rw[yS,I1,hh]
 have n1:zF true=false:=by rw[zI];rfl
 repeat' (first
  | (refine Call.stepE (by rw[<- hP];exact r1) rfl ?_;cbv)
  | (refine Call.stepE (by rw[<- hP];exact r2) rfl ?_;cbv)
  | (simp only[n1];cbv))
 simp only[e1,e2];exact Z.r hR
theorem PV(a:Int):A9 Tryz.prog 82 [a] (· = .agg [a,a]):=by
 refine Z.y Tryz.func82 λ_ _ _ _ _ _ _ _ _ _ _ _ _ hz R hR P hP=>?_;cbv;exact Z.r hR
def Gt(ps:List (Int×Int))(lo hi:Int)(i:Nat):Bool:=
 decide ((i=0\/∀p,ps[i]?=some p->p.1<=hi)/\(∀q,ps[i+1]?=some q->lo<=q.1))
def Jz(ps:List (Int×Int))(lo hi:Int)(s:Int×Int×Bool)(i:Nat):Int×Int×Bool:=
 if Gt ps lo hi i then (if s.2.2 then (min s.1 (ps.getD i (0,0)).2,max s.2.1 (ps.getD i (0,0)).2,true) else ((ps.getD i (0,0)).2,(ps.getD i (0,0)).2,true)) else s
def Bl(ps:List (Int×Int))(lo hi:Int)(n:Nat):Int×Int×Bool:=(List.range n).foldl (Jz ps lo hi) (0,0,false)
theorem Pi(ps:List (Int×Int))(lo hi:Int)(n:Nat):Bl ps lo hi (n+1)=Jz ps lo hi (Bl ps lo hi n) n:=by
 unfold Bl;rw[List.range_succ,List.foldl_append];rfl
theorem JK(ps:List (Int×Int))(lo hi:Int):∀n,(Bl ps lo hi n).1<=(Bl ps lo hi n).2.1
 | 0=>Int.le_refl _
 | n+1=>by
   have:=JK ps lo hi n;rw[Pi];unfold Jz;split
   ·split<;>simp only<;>omega
   ·exact this
theorem Oq{ps:List (Int×Int)}(hg:∀i,i<ps.length -> -1048576<=(ps.getD i (0,0)).2/\(ps.getD i (0,0)).2<=1048576)(lo hi:Int):∀n,n<=ps.length -> -1048576<=(Bl ps lo hi n).1/\(Bl ps lo hi n).2.1<=1048576/\(Bl ps lo hi n).1<=1048576 /\ -1048576<=(Bl ps lo hi n).2.1
 | 0,_=>by simp[Bl]
 | n+1,hn=>by
   have h1:=Oq hg lo hi n Z.o;have h2:=hg n Z.o;rw[Pi];unfold Jz;split
   ·split<;>simp only<;>omega
   ·exact h1
structure Ev(ps:List (Int×Int)):Prop where
 zero:∀p,ps[0]?=some p->p.1=0
 ne:1<=ps.length
 le:ps.length<=64
 gr:∀i,i<ps.length -> -1048576<=(ps.getD i (0,0)).2/\(ps.getD i (0,0)).2<=1048576
theorem QQ(ps:List (Int×Int))(hn:ps.length<=1000)(q:List (List AV))(hq:q=ps.map Ap)(lo hi:Int)(hlh:lo<=hi)(v:Int×Int×Bool)(ev:v=Bl ps lo hi ps.length) :
 A9 Tryz.prog 83 [.list 2 q,.agg [lo,hi]] (· = .tuple [.agg [v.1,v.2.1],v.2.2]):=by
 have huq:Up0 q:=by rw[hq];exact E5 ps
 have zb:q.length=ps.length:=by rw[hq];simp
 have hr:=Dt (a:=lo) (b:=hi) true (by simp[hlh]);obtain⟨v1,v2,v3⟩:=v;refine Z.y Tryz.func83 λzB _ _ _ zF _ hw zC _ _ _ zI zH hz R hR P hP=>?_;cbv;obtain⟨L,eL,L0,Ln⟩:=Z.l zH q;simp only[eL]
 refine Ae.data hw (S:=Int×Int×Int×Bool×Int×Int) (λs=>fr 66 [(0,.list 2 q),(3,.ref 0 2 0 0),(4,.ref 1 2 0 0),(6,.ref 2 2 0 0),(7,s.2.2.2.1),(12,.list 2 q),(13,L),(14,s.1)])
  (λs=>[.live 2 [[lo,hi]],.live 2 [[s.2.2.2.2.1,s.2.2.2.2.2]],.live 2 [[s.2.1,s.2.2.1]]])
  (λs=>0<=s.1/\s.1<=L/\(s.2.1,s.2.2.1,s.2.2.2.1)=Bl ps lo hi s.1.toNat) (λs=>(L-s.1).toNat) (0,0,0,false,0,0) Z.i ⟨Int.le_refl _,L0,rfl⟩ ?_
 rintro⟨i,a,b,f,x0,y0⟩ zJ Q' hN hE hR'
 have zJ:0<=i/\i<=L/\(a,b,f)=Bl ps lo hi i.toNat:=zJ;cbv;obtain⟨zW,yZ,kY⟩:=zJ;(split<;>rename_i hc<;>(try (simp only[hz,Z.a,AF,AC,AO,AP,AL,reduceCtorEq] at hc))<;>(try cbv))
 rotate_left 1
 ·refine hE _ _ _ ?_
  cbv;have e:(v1,v2,v3)=(a,b,f):=(by rw[ev,kY];congr 1;omega);simp only[Prod.mk.injEq] at e;obtain⟨rfl,rfl,rfl⟩:=e;repeat' (refine And.intro ?_ ?_)
  all_goals exact Z.r hR
 obtain⟨⟨x,y⟩,hd,zL⟩:=BI (f:=Ap) (ds:=ps) (i:=i) zW Z.o;have zL:q[i.toNat]?=some [jz x,jz y]:=by rw[hq];exact zL
 obtain⟨i2,kW⟩:=Z.e (i+1);have a4:zB .add .i64 i 1=i2:=by rw[zC,kW];show IntKind.i64.wrap (i+1)=i+1;rw[IntKind.wrap_i64];omega
 have lX:Bl ps lo hi i2.toNat=Jz ps lo hi (a,b,f) i.toNat:=by rw[kY,<- Pi];congr 1;omega
 have nR:a<=b:=by
  have:=JK ps lo hi i.toNat;rw[<- kY] at this;exact this
 have hgy:(ps.getD i.toNat (0,0)).2=y:=by rw[List.getD_eq_getElem?_getD,hd];rfl
 have n1:zF true=false:=by rw[zI];rfl
 have n2:zF false=true:=by rw[zI];rfl
 obtain⟨l',el'⟩:=Z.f (min a y);obtain⟨h',xu⟩:=Z.f (max b y);have k1:=KC nR (Int.le_refl y) el' xu;have k2:=KC (Int.le_refl y) (Int.le_refl y) (show min y y=y by omega) (show max y y=y by omega);have k3:=PV y
 have hgo:∀(o:Bool),Gt ps lo hi i.toNat=o->Bl ps lo hi i2.toNat=if o then (if f then (l',h',true) else (y,y,true)) else (a,b,f):=λo ho=>by
  rw[lX];unfold Jz;rw[ho,hgy,el',xu]
 have ku:Gt ps lo hi i.toNat=false->(a,b,f)=Bl ps lo hi i2.toNat:=λh=>by rw[hgo _ h];rfl
 have q_:Gt ps lo hi i.toNat=true->f=true->(l',h',true)=Bl ps lo hi i2.toNat:=λh h2=>by rw[hgo _ h,h2];rfl
 have hyn:Gt ps lo hi i.toNat=true->f=false->(y,y,true)=Bl ps lo hi i2.toNat:=λh h2=>by rw[hgo _ h,h2];rfl
 clear hgo;have n_:(L-i2).toNat<(L-i).toNat:=by omega
 refine Idx.mk _ zW zL ?_;cbv;simp only[eL,a4];rcases Int.lt_or_le i2 L with yK|yK
 ·obtain⟨⟨x2,y2⟩,qD,yW⟩:=BI (f:=Ap) (ds:=ps) (i:=i2) Z.o Z.o
  have yW:q[i2.toNat]?=some [jz x2,jz y2]:=by rw[hq];exact yW
  have hre:Gt ps lo hi i.toNat=decide ((i=0\/x<=hi)/\lo<=x2):=by
   unfold Gt;rw[hd,show i.toNat+1=i2.toNat by omega,qD];congr 1
   simp only[Option.some.injEq,forall_eq',eq_iff_iff];exact and_congr (or_congr Z.o Iff.rfl) Iff.rfl
  rw[hre] at ku q_ hyn;clear hre lX;simp only[decide_eq_true_eq,decide_eq_false_iff_not] at ku q_ hyn
  repeat' (first
   | (refine Idx.mk _ (by rw[a4];omega) (by rw[a4];exact yW) ?_;cbv)
   | (refine Call.stepE (by rw[<- hP];exact hr) rfl ?_;cbv;simp only[n1];cbv)
   | (refine Call.stepE (by rw[<- hP];exact k3) rfl ?_;cbv)
   | (refine AB.stepE (by rw[<- hP];exact k3) rfl ?_;cbv)
   | (refine Call.stepE (by rw[<- hP];exact k2) rfl ?_;cbv)
   | (refine AB.stepE (by rw[<- hP];exact k2) rfl ?_;cbv)
   | (refine Call.stepE (by rw[<- hP];exact k1) rfl ?_;cbv)
   | (refine AB.stepE (by rw[<- hP];exact k1) rfl ?_;cbv)
   | (split<;>rename_i h<;>(try (simp only[eL,a4] at h))<;>(try (simp only[hz,Z.a,AF,AC,AO,AP,AL,reduceCtorEq] at h))<;>(try cbv)))
  all_goals (try simp only[a4])
  all_goals first
   | (exfalso;omega)
   | (refine hN (i2,a,b,f,x0,y0) _ _ ?hx ?hI n_;(case hx=>exact Z.i);(case hI=>exact⟨by simp only;omega,by simp only;omega,ku Z.o⟩))
   | (refine hN (i2,l',h',f,x0,y0) _ _ ?hx ?hI n_;(case hx=>exact Z.i);(case hI=>exact⟨by simp only;omega,by simp only;omega,by have:=q_ Z.o Z.m;simp only[show f=true by assumption];exact this⟩))
   | (refine hN (i2,y,y,true,x0,y0) _ _ ?hx ?hI n_;(case hx=>exact Z.i);(case hI=>exact⟨by simp only;omega,by simp only;omega,hyn Z.o Z.m⟩))
 ·have hre:Gt ps lo hi i.toNat=decide (i=0\/x<=hi):=by
   unfold Gt;rw[hd,List.getElem?_eq_none (show ps.length<=i.toNat+1 by omega)];congr 1
   simp only[Option.some.injEq,forall_eq',eq_iff_iff];refine⟨λh=>?_,λh=>⟨?_,λq hq=>by cases hq⟩⟩
   ·exact h.1.imp Z.o id
   ·exact h.imp Z.o id
  rw[hre] at ku q_ hyn;clear hre lX;simp only[decide_eq_true_eq,decide_eq_false_iff_not] at ku q_ hyn
  repeat' (first
   | (refine Call.stepE (by rw[<- hP];exact hr) rfl ?_;cbv;simp only[n1];cbv)
   | (refine Call.stepE (by rw[<- hP];exact k3) rfl ?_;cbv)
   | (refine AB.stepE (by rw[<- hP];exact k3) rfl ?_;cbv)
   | (refine Call.stepE (by rw[<- hP];exact k2) rfl ?_;cbv)
   | (refine AB.stepE (by rw[<- hP];exact k2) rfl ?_;cbv)
   | (refine Call.stepE (by rw[<- hP];exact k1) rfl ?_;cbv)
   | (refine AB.stepE (by rw[<- hP];exact k1) rfl ?_;cbv)
   | (split<;>rename_i h<;>(try (simp only[eL,a4] at h))<;>(try (simp only[hz,Z.a,AF,AC,AO,AP,AL,reduceCtorEq] at h))<;>(try cbv)))
  all_goals (try simp only[a4])
  all_goals first
   | (exfalso;omega)
   | (refine hN (i2,a,b,f,x0,y0) _ _ ?hx ?hI n_;(case hx=>exact Z.i);(case hI=>exact⟨by simp only;omega,by simp only;omega,ku Z.o⟩))
   | (refine hN (i2,l',h',f,x0,y0) _ _ ?hx ?hI n_;(case hx=>exact Z.i);(case hI=>exact⟨by simp only;omega,by simp only;omega,by have:=q_ Z.o Z.m;simp only[show f=true by assumption];exact this⟩))
   | (refine hN (i2,y,y,true,x0,y0) _ _ ?hx ?hI n_;(case hx=>exact Z.i);(case hI=>exact⟨by simp only;omega,by simp only;omega,hyn Z.o Z.m⟩))
set_option maxRecDepth 100000
def DI(ss:List Sg)(n:Int):List (Int×Int):=match ss[n.toNat]? with|some s=>s.ps|none=>[]
def LJ(s:Int×Int×Bool)(b:Int×Int×Bool):Int×Int×Bool:=if s.2.2 then (min s.1 b.1,max s.2.1 b.2.1,true) else (b.1,b.2.1,true)
def grw(ss:List Sg)(lo hi:Int)(s:Int×Int×Bool):Int->List Int->Int×Int×Bool
 | _,[]=>s
 | a,n::l=>grw ss lo hi (if max lo a<=min hi (a+BD ss n) then LJ s (Bl (DI ss n) (max lo a-a) (min hi (a+BD ss n)-a) (DI ss n).length) else s) (a+BD ss n) l
theorem WS(ss:List Sg)(gs:List Gr)(es ds:List (List AV))(zQ:es=ss.map Ah)(zY:ds=gs.map Ak)(kr:CS ss)(rE:∀s,s∈ss->Ev s.ps)(from_:Int)(hf:0<=from_/\from_<=1099511627776)(m:List (List Int))(lU:∀l,l∈m->l.length<=12/\∀n,n∈l->0<=n/\n.toNat<ss.length)(hm:m.length<=1000)(rs:List (List AV))(yD:rs=m.map rtC)
 (lo hi:Int) (v:Int×Int×Bool) (ev:v=m.foldl (λs l=>grw ss lo hi s (-from_) l) (0,0,false)) :
 A9 Tryz.prog 208 [.agg [from_,.list 13 rs],.agg [.list 3 es,.list 5 ds],.agg [lo,hi]] (· = .tuple [.agg [v.1,v.2.1],v.2.2]):=by
 have hu:Up0 es:=by rw[zQ];exact Bu ss
 have lH:Up0 ds:=by rw[zY];exact Bv gs
 have lW:Up0 rs:=by rw[yD];exact BM (f:=rtC) (λd=>rfl) m
 have oL:rs.length=m.length:=by rw[yD];simp
 obtain⟨v1,v2,v3⟩:=v;refine Z.y Tryz.func208 λzB _ yN _ zF _ hw zC _ yJ _ zI zH hz R hR P hP=>?_;cbv;obtain⟨L,eL,L0,Ln⟩:=Z.l zH rs;(refine Call.inl hw hP Tryz.func224 (by kernel_rfl) (by kernel_rfl) ?_);(conv=>arg 2;cbv);cbv;simp only[eL];obtain⟨a0,uO⟩:∃a0,a0 = -from_:=⟨_,rfl⟩;have c0:yN .neg .i64 from_=a0:=by rw[yJ,uO];simp only[AO];rw[IntKind.wrap_i64];omega
 have n1:zF true=false:=by rw[zI];rfl
 have n2:zF false=true:=by rw[zI];rfl
 refine Ae.dataN hw (S:=Int×Int×Int×Bool) (λs=>fr 42 [(2,.func (.func 225) [] [.ref 2 2 0 0,.ref 1 2 0 0,.ref 5 1 0 0,.ref 4 2 0 0]),(3,.ref 6 2 0 0),(4,.ref 7 2 0 0),(12,.list 13 rs),(13,L),(14,s.1)])
  (λs=>[.live 2 [[from_,.list 13 rs]],.live 2 [[.list 3 es,.list 5 ds]],.live 2 [[lo,hi]],.live 2 [[jz 0,jz 0]],.live 2 [[s.2.1,s.2.2.1]],.live 1 [[s.2.2.2]],.live 2 [[from_,.list 13 rs]],.live 2 [[.list 3 es,.list 5 ds]]])
  (λs=>0<=s.1/\s.1<=L/\s.2.1<=s.2.2.1/\(s.2.1,s.2.2.1,s.2.2.2)=(m.take s.1.toNat).foldl (λs l=>grw ss lo hi s (-from_) l) (0,0,false)) (λs=>(L-s.1).toNat) (0,0,0,false) (by(refine Z.n (id) ?_;cbv<;>exact Z.q)) ⟨Int.le_refl _,L0,Int.le_refl _,rfl⟩ ?_
 rintro⟨i,b1,b2,f⟩ zJ Q' hN hE hR'
 have zJ:0<=i/\i<=L/\b1<=b2/\(b1,b2,f)=(m.take i.toNat).foldl (λs l=>grw ss lo hi s (-from_) l) (0,0,false):=zJ;cbv;obtain⟨zW,yZ,hb12,lJ⟩:=zJ;(split<;>rename_i hc<;>(try (simp only[hz,Z.a,AF,AC,AO,AP,AL,reduceCtorEq] at hc))<;>(try cbv))
 rotate_left 1
 ·rw[List.take_of_length_le Z.o,<- ev] at lJ
  simp only[Prod.mk.injEq] at lJ;obtain⟨rfl,rfl,rfl⟩:=lJ;refine hE _ _ _ ?_;cbv;repeat' (refine And.intro ?_ ?_)
  all_goals exact Z.r hR
 obtain⟨l,hl⟩:∃l,m[i.toNat]?=some l:=⟨_,List.getElem?_eq_getElem (show i.toNat<m.length by omega)⟩;obtain⟨vR,pM⟩:=lU l (List.mem_of_getElem? hl);have oG:rs[i.toNat]?=some (toR l).row:=by rw[yD,List.getElem?_map,hl];rfl
 obtain⟨xs,exs⟩:=Z.e (l.map Ac);have huxs:Up0 xs:=by rw[exs];exact CG l
 have uR:xs.length=l.length:=by rw[exs];simp
 have sW:=KA l vR;have sW:A9 Tryz.prog 107 [.agg (toR l).row] (· = .list 1 xs):=by rw[exs];exact sW
 obtain⟨i2,kW⟩:=Z.e (i+1);have a4:zB .add .i64 i 1=i2:=by rw[zC,kW];show IntKind.i64.wrap (i+1)=i+1;rw[IntKind.wrap_i64];omega
 have n_:(L-i2).toNat<(L-i).toNat:=by omega
 have mU:m.take i2.toNat=m.take i.toNat++[l]:=by rw[kW];exact Eu zW hl
 obtain⟨tg,etg⟩:∃x,x=(m.take i2.toNat).foldl (λs l=>grw ss lo hi s (-from_) l) (0,0,false):=⟨_,rfl⟩;have rM:grw ss lo hi (b1,b2,f) a0 l=tg:=by rw[etg,mU,List.foldl_append,<- lJ,uO];rfl
 obtain⟨row,erow⟩:=Z.e (toR l);rw[<- erow] at oG sW;obtain⟨n,s0,s1,s2,s3,s4,s5,s6,s7,s8,s9,s10,s11⟩:=row;obtain⟨K,eK,K0,Kn⟩:=Z.l zH xs;refine Idx.mk _ zW oG ?_;cbv;simp only[c0];refine Call.stepE (by rw[<- hP];exact sW) rfl ?_;cbv;simp only[eK]
 refine Ae.dataN hw (S:=Int×Int×Int×Int×Bool) (λs=>fr 42 [(2,.func (.func 225) [] [.ref 2 2 0 0,.ref 1 2 0 0,.ref 5 1 0 0,.ref 4 2 0 0]),(3,.ref 6 2 0 0),(4,.ref 7 2 0 0),(8,s.2.1),(12,.list 13 rs),(13,L),(14,i),(22,.list 1 xs),(23,K),(24,s.1)])
  (λs=>[.live 2 [[from_,.list 13 rs]],.live 2 [[.list 3 es,.list 5 ds]],.live 2 [[lo,hi]],.live 2 [[jz 0,jz 0]],.live 2 [[s.2.2.1,s.2.2.2.1]],.live 1 [[s.2.2.2.2]],.live 2 [[from_,.list 13 rs]],.live 2 [[.list 3 es,.list 5 ds]]])
  (λs=>0<=s.1/\s.1<=K /\ -1099511627776<=s.2.1/\s.2.1<=s.1*1099511627776/\s.2.2.1<=s.2.2.2.1/\grw ss lo hi (s.2.2.1,s.2.2.2.1,s.2.2.2.2) s.2.1 (l.drop s.1.toNat)=tg) (λs=>(K-s.1).toNat) (0,a0,b1,b2,f) (by(refine Z.n (id) ?_;cbv<;>exact Z.q)) ⟨Int.le_refl _,K0,by simp only;omega,by simp only;omega,hb12,rM⟩ ?_
 rintro⟨j,a,g1,g2,fd⟩ yV Q2 nS sO hR2
 have yV:0<=j/\j<=K /\ -1099511627776<=a/\a<=j*1099511627776/\g1<=g2/\grw ss lo hi (g1,g2,fd) a (l.drop j.toNat)=tg:=yV;cbv;obtain⟨qI,zq,vI,t_,zw,tK⟩:=yV;(split<;>rename_i hd<;>(try (simp only[hz,Z.a,AF,AC,AO,AP,AL,reduceCtorEq] at hd))<;>(try cbv))
 rotate_left 1
 ·refine sO _ _ _ ?_
  cbv;simp only[a4];rw[List.drop_of_length_le Z.o] at tK;refine hN (i2,g1,g2,fd) _ _ ?hx ?hI n_
  case hx=>(refine Z.n (id) ?_;cbv<;>exact Z.q)
  case hI=>exact⟨by simp only;omega,by simp only;omega,zw,by simp only;rw[<- etg,<- tK];rfl⟩
 obtain⟨c,qc⟩:∃c,l[j.toNat]?=some c:=⟨_,List.getElem?_eq_getElem (show j.toNat<l.length by omega)⟩;have tV:xs[j.toNat]?=some [jz c]:=by rw[exs,List.getElem?_map,qc];rfl
 obtain⟨lw,qZ⟩:=pM c (List.mem_of_getElem? qc);obtain⟨⟨len,pps,nx⟩,sI,zL⟩:=BI (f:=Ah) (ds:=ss) (i:=c) lw qZ;have hpo:Ev pps:=rE ⟨len,pps,nx⟩ (List.mem_of_getElem? sI);obtain⟨pq,epq⟩:=Z.e (pps.map Ap);have wM:Up0 pq:=by rw[epq];exact E5 pps
 obtain⟨xn,exn⟩:=Z.f (nx.map Ac);have zL:es[c.toNat]?=some [jz len,.list 2 pq,.list 1 xn]:=by rw[zQ,epq,<- exn];exact zL
 have zH:BD ss c=len:=by unfold BD;rw[sI]
 have hpsA:DI ss c=pps:=by unfold DI;rw[sI]
 have wV:=IV kr c;rw[zH] at wV;obtain⟨j2,sQ⟩:=Z.e (j+1);have a5:zB .add .i64 j 1=j2:=by rw[zC,sQ];show IntKind.i64.wrap (j+1)=j+1;rw[IntKind.wrap_i64];omega
 obtain⟨a2,qy⟩:=Z.e (a+len);have a6:zB .add .i64 a len=a2:=by rw[zC,qy];show IntKind.i64.wrap (a+len)=a+len;rw[IntKind.wrap_i64];omega
 have pY:(K-j2).toNat<(K-j).toNat:=by omega
 obtain⟨x1,oO⟩:=Z.f (max lo a);obtain⟨y1,nK⟩:=Z.f (min hi a2);obtain⟨x2,qx⟩:=Z.f (x1-a);obtain⟨y2,mV⟩:=Z.f (y1-a);obtain⟨bv,ebv⟩:=Z.e (Bl pps x2 y2 pps.length);have rU:=JK pps x2 y2 pps.length;rw[<- ebv] at rU
 have lL:grw ss lo hi (g1,g2,fd) a (l.drop j.toNat)=grw ss lo hi (if x1<=y1 then LJ (g1,g2,fd) bv else (g1,g2,fd)) a2 (l.drop j2.toNat):=by
  rw[K8 qc,show j2.toNat=j.toNat+1 by omega];simp only[grw];rw[zH,hpsA,<- qy,oO,nK,qx,mV,<- ebv]
 rw[lL] at tK;clear lL;obtain⟨p1,p2,p3⟩:=bv;simp only at rU;obtain⟨h1,eh1⟩:=Z.f (min g1 p1);obtain⟨h2,eh2⟩:=Z.f (max g2 p2);have kg:=KC zw rU eh1 eh2;have pF:=KC rU rU (show min p1 p1=p1 by omega) (show max p2 p2=p2 by omega);refine Idx.mk _ qI tV ?_;cbv;(refine Call.inl hw hP Tryz.func225 (by kernel_rfl) (by kernel_rfl) ?_);(conv=>arg 2;cbv);cbv;refine Idx.mk _ lw zL ?_;cbv;simp only[a6];by_cases kz:x1<=y1
 ·rw[if_pos kz] at tK
  have k1:=JL oO nK kz;have b7:zB .sub .i64 x1 a=x2:=(by rw[zC,Bj Z.o Z.o];exact qx);have b8:zB .sub .i64 y1 a=y2:=(by rw[zC,Bj Z.o Z.o];exact mV);have k2:=QQ pps (by have:=hpo.le;omega) pq epq x2 y2 Z.o (p1,p2,p3) ebv;have k2:A9 Tryz.prog 83 [.list 2 pq,.agg [x2,y2]] (· = .tuple [.agg [p1,p2],p3]):=k2
  (first|(refine Call.stepE (v:=?_) ?_ ?_ ?_;rotate_left 1;(focus (rw[<- hP];exact k1));(focus (exact rfl));cbv)|(refine AB.stepE (v:=?_) ?_ ?_ ?_;rotate_left 1;(focus (rw[<- hP];exact k1));(focus (exact rfl));cbv))
  simp only[n1];cbv;refine Idx.mk _ lw zL ?_;cbv;simp only[b7,b8]
  (first|(refine Call.stepE (v:=?_) ?_ ?_ ?_;rotate_left 1;(focus (rw[<- hP];exact k2));(focus (exact Up0.one wM rfl));cbv)|(refine AB.stepE (v:=?_) ?_ ?_ ?_;rotate_left 1;(focus (rw[<- hP];exact k2));(focus (exact Up0.one wM rfl));cbv))
  cases fd with
  | false =>
    cbv;simp only[n2];cbv
    (first|(refine Call.stepE (v:=?_) ?_ ?_ ?_;rotate_left 1;(focus (rw[<- hP];exact pF));(focus (exact rfl));cbv)|(refine AB.stepE (v:=?_) ?_ ?_ ?_;rotate_left 1;(focus (rw[<- hP];exact pF));(focus (exact rfl));cbv))
    refine Idx.mk _ lw zL ?_;cbv;simp only[a5,a6];refine nS (j2,a2,p1,p2,true) _ _ ?hx ?hI pY
    case hx=>(refine Z.n (id) ?_;cbv<;>exact Z.q)
    case hI=>exact⟨by simp only;omega,by simp only;omega,by simp only;omega,by simp only;omega,rU,tK⟩
  | true =>
    cbv;simp only[n1];cbv
    (first|(refine Call.stepE (v:=?_) ?_ ?_ ?_;rotate_left 1;(focus (rw[<- hP];exact kg));(focus (exact rfl));cbv)|(refine AB.stepE (v:=?_) ?_ ?_ ?_;rotate_left 1;(focus (rw[<- hP];exact kg));(focus (exact rfl));cbv))
    refine Idx.mk _ lw zL ?_;cbv;simp only[a5,a6];refine nS (j2,a2,h1,h2,true) _ _ ?hx ?hI pY
    case hx=>(refine Z.n (id) ?_;cbv<;>exact Z.q)
    case hI=>exact⟨by simp only;omega,by simp only;omega,by simp only;omega,by simp only;omega,by simp only;omega,by simp only[LJ,if_true,eh1,eh2] at tK;exact tK⟩
 ·rw[if_neg kz] at tK
  have k1:=KD oO nK (show y1<x1 by omega)
  (first|(refine Call.stepE (v:=?_) ?_ ?_ ?_;rotate_left 1;(focus (rw[<- hP];exact k1));(focus (exact rfl));cbv)|(refine AB.stepE (v:=?_) ?_ ?_ ?_;rotate_left 1;(focus (rw[<- hP];exact k1));(focus (exact rfl));cbv))
  simp only[n2];cbv;refine Idx.mk _ lw zL ?_;cbv;simp only[a5,a6];refine nS (j2,a2,g1,g2,fd) _ _ ?hx ?hI pY
  case hx=>(refine Z.n (id) ?_;cbv<;>exact Z.q)
  case hI=>exact⟨by simp only;omega,by simp only;omega,by simp only;omega,by simp only;omega,zw,tK⟩
set_option maxRecDepth 100000
abbrev Cy:=List (List Int)×Bool
def DJ(c:Cy):List AV:=[.list 1 (c.1.map Em),c.2]
theorem HZ(l:List Cy):Up0 (l.map DJ):=BM (f:=DJ) (λc=>by simp only[DJ,Af,AV.upto,(IL c.1).get];rfl) l
structure EU(l:List Cy):Prop where
 n:l.length<=400
 l:∀c,c∈l->c.1.length<=50/\∀b,b∈c.1->b.length<=300
structure D6(ss:List Sg)(gs:List Gr):Prop where
 s:ss.length<=50
 g:gs.length<=60
 l:∀s,s∈ss->s.ps.length<=70/\s.nx.length<=3
theorem NY(ss:List Sg)(gs:List Gr)(es ds:List (List AV))(zQ:es=ss.map Ah)(zY:ds=gs.map Ak)(l:List Cy)(rs:List (List AV))(yD:rs=l.map DJ):A9 Tryz.prog 10 [.agg [.list 3 es,.list 5 ds],.list 2 rs] (λr=>∃o:Bool,r = .bool o/\(o=true->D6 ss gs/\EU l)):=by
 have hu:Up0 es:=by rw[zQ];exact Bu ss
 have lH:Up0 ds:=by rw[zY];exact Bv gs
 have lW:Up0 rs:=by rw[yD];exact HZ l
 have uG:es.length=ss.length:=by rw[zQ];simp
 have uH:ds.length=gs.length:=by rw[zY];simp
 have oL:rs.length=l.length:=by rw[yD];simp
 refine Z.y Tryz.func10 λzB _ _ _ _ _ hw zC zA _ _ _ zH hz R hR P hP=>?_;cbv;obtain⟨L,eL,L0,Ln⟩:=Z.l zH es;obtain⟨J,eJ,J0,Jn⟩:=Z.l zH ds;obtain⟨N,eN,N0,Nn⟩:=Z.l zH rs;have hF:R (.bool false):=hR _ ⟨_,rfl,λh=>by cases h⟩;by_cases h1:50<L
 ·have d1:=W.gt zA h1
  repeat' (first|(simp only[eL,d1];cbv)|fail)
  exact⟨_,Vw.same rfl,hF⟩
 have d1:=W.ngt zA (show L<=50 by omega);by_cases h2:60<J
 ·have d2:=W.gt zA h2
  repeat' (first|(simp only[eL,d1,eJ,d2];cbv)|fail)
  exact⟨_,Vw.same rfl,hF⟩
 have d2:=W.ngt zA (show J<=60 by omega);by_cases h3:120<N
 ·have d3:=W.gt zA h3
  repeat' (first|(simp only[eL,d1,eJ,d2,eN,d3];cbv)|fail)
  exact⟨_,Vw.same rfl,hF⟩
 have d3:=W.ngt zA (show N<=120 by omega);repeat' (first|(simp only[eL,d1,eJ,d2,eN,d3];cbv)|fail)
 refine Ae.data hw (S:=Int) (λi=>fr 76 [(1,.list 2 rs),(2,.ref 0 2 0 0),(25,.list 3 es),(26,L),(27,i)]) (λ_=>[.live 2 [[.list 3 es,.list 5 ds]]])
  (λi=>0<=i/\i<=L/\∀j,j<i.toNat->∀s,ss[j]?=some s->s.ps.length<=70/\s.nx.length<=3) (λi=>(L-i).toNat) 0 Z.i ⟨Int.le_refl _,L0,λj hj=>by simp at hj⟩ ?_
 rintro i zJ Q' hN hE hR';have zJ:0<=i/\i<=L/\∀j,j<i.toNat->∀s,ss[j]?=some s->s.ps.length<=70/\s.nx.length<=3:=zJ;obtain⟨zW,yZ,vE⟩:=zJ;by_cases yC:i<L
 ·obtain⟨⟨len,ps,nx⟩,hs⟩:∃s,ss[i.toNat]?=some s:=⟨_,List.getElem?_eq_getElem (show i.toNat<ss.length by omega)⟩
  obtain⟨pq,epq⟩:=Z.e (ps.map Ap);obtain⟨xn,exn⟩:=Z.e (nx.map Ac);have zL:es[i.toNat]?=some [jz len,.list 2 pq,.list 1 xn]:=(by rw[zQ,List.getElem?_map,hs,epq,exn];rfl);have oQ:pq.length=ps.length:=(by rw[epq];simp);have uR:xn.length=nx.length:=(by rw[exn];simp);obtain⟨i2,kW⟩:=Z.e (i+1);have hT:(L-i2).toNat<(L-i).toNat:=by omega
  have yK:ps.length<=70->nx.length<=3->∀j,j<i2.toNat->∀s,ss[j]?=some s->s.ps.length<=70/\s.nx.length<=3:=λa b j hj s vG=>by
   by_cases uD:j=i.toNat
   ·rw[uD,hs] at vG
    cases vG
    exact⟨a,b⟩
   ·exact vE j Z.o s vG
  obtain⟨K,eK,K0,Kn⟩:=Z.l zH pq;obtain⟨M,eM,M0,Mn⟩:=Z.l zH xn;have ck:=W.lt zA yC;have a5:zB .add .i64 i 1=i2:=(by rw[zC,Ag Z.o Z.o,kW]);clear hs epq exn;by_cases k1:70<K
  ·have e1:=W.gt zA k1
   cbv;repeat' (first|(simp only[ck,eK,e1];cbv)|(refine Idx.mk _ zW zL ?_;cbv)|fail)
   exact hR' _ _ ⟨_,Vw.same rfl,hF⟩
  have e1:=W.ngt zA (show K<=70 by omega);by_cases k2:3<M
  ·have e2:=W.gt zA k2
   cbv;repeat' (first|(simp only[ck,eK,e1,eM,e2];cbv)|(refine Idx.mk _ zW zL ?_;cbv)|fail)
   exact hR' _ _ ⟨_,Vw.same rfl,hF⟩
  have e2:=W.ngt zA (show M<=3 by omega);have yK:=yK Z.o Z.o;cbv;repeat' (first|(simp only[ck,eK,e1,eM,e2,a5];cbv)|(refine Idx.mk _ zW zL ?_;cbv)|fail)
  refine hN i2 _ _ ?hx ?hi hT
  case hx=>exact Z.i
  case hi=>exact⟨by omega,by omega,yK⟩
 have ck:=W.nlt zA (show L<=i by omega)
 have hsA:∀s,s∈ss->s.ps.length<=70/\s.nx.length<=3:=λs hs=>by
  obtain⟨j,hj⟩:=List.mem_iff_getElem?.1 hs;exact vE j (by have:=(List.getElem?_eq_some_iff.1 hj).1;omega) s hj
 clear vE;cbv;repeat' (first|(simp only[ck];cbv)|fail)
 refine hE _ _ _ ?_;cbv;repeat' (first|(simp only[eN];cbv)|fail)
 clear hN hE hR'
 refine Ae.data hw (S:=Int) (λi=>fr 76 [(1,.list 2 rs),(50,N),(51,i)]) (λ_=>[])
  (λi=>0<=i/\i<=N/\∀j,j<i.toNat->∀c,l[j]?=some c->c.1.length<=50/\∀b,b∈c.1->b.length<=300) (λi=>(N-i).toNat) 0 Z.i ⟨Int.le_refl _,N0,λj hj=>by simp at hj⟩ ?_
 rintro i zJ Q' hN hE hR';have zJ:0<=i/\i<=N/\∀j,j<i.toNat->∀c,l[j]?=some c->c.1.length<=50/\∀b,b∈c.1->b.length<=300:=zJ;obtain⟨zW,yZ,vZ⟩:=zJ;by_cases yC:i<N
 rotate_left 1
 ·have ck:=W.nlt zA (show N<=i by omega)
  have hcA:∀c,c∈l->c.1.length<=50/\∀b,b∈c.1->b.length<=300:=λs hs=>by
   obtain⟨j,hj⟩:=List.mem_iff_getElem?.1 hs;exact vZ j (by have:=(List.getElem?_eq_some_iff.1 hj).1;omega) s hj
  clear vZ;cbv;repeat' (first|(simp only[ck];cbv)|fail)
  refine hE _ _ _ ?_;cbv;exact⟨_,Vw.same rfl,hR _ ⟨_,rfl,λ_=>⟨⟨by omega,by omega,hsA⟩,by omega,hcA⟩⟩⟩
 obtain⟨⟨bs,cm⟩,hs⟩:∃s,l[i.toNat]?=some s:=⟨_,List.getElem?_eq_getElem (show i.toNat<l.length by omega)⟩;obtain⟨br,ebr⟩:=Z.e (bs.map Em);have hubr:Up0 br:=by rw[ebr];exact IL bs
 have zL:rs[i.toNat]?=some [.list 1 br,.bool cm]:=by rw[yD,List.getElem?_map,hs,ebr];rfl
 have rU:br.length=bs.length:=by rw[ebr];simp
 obtain⟨i2,kW⟩:=Z.e (i+1);have hT:(N-i2).toNat<(N-i).toNat:=by omega
 have yK:bs.length<=50->(∀b,b∈bs->b.length<=300)->∀j,j<i2.toNat->∀c,l[j]?=some c->c.1.length<=50/\∀b,b∈c.1->b.length<=300:=λa b j hj s vG=>by
  by_cases uD:j=i.toNat
  ·rw[uD,hs] at vG
   cases vG
   exact⟨a,b⟩
  ·exact vZ j Z.o s vG
 obtain⟨K,eK,K0,Kn⟩:=Z.l zH br;have ck:=W.lt zA yC;have a5:zB .add .i64 i 1=i2:=by rw[zC,Ag Z.o Z.o,kW]
 clear hs;by_cases k1:40<K
 ·have e1:=W.gt zA k1
  cbv;repeat' (first|(simp only[ck,eK,e1];cbv)|(refine Idx.mk _ zW zL ?_;cbv)|fail)
  exact hR' _ _ ⟨_,Vw.same rfl,hF⟩
 have e1:=W.ngt zA (show K<=40 by omega);cbv;repeat' (first|(simp only[ck,eK,e1];cbv)|(refine Idx.mk _ zW zL ?_;cbv)|fail)
 refine Ae.data hw (S:=Int) (λj=>fr 76 [(1,.list 2 rs),(50,N),(51,i),(65,.list 1 br),(66,K),(67,j)]) (λ_=>[])
  (λj=>0<=j/\j<=K/\∀q,q<j.toNat->∀b,bs[q]?=some b->b.length<=300) (λj=>(K-j).toNat) 0 Z.i ⟨Int.le_refl _,K0,λj hj=>by simp at hj⟩ ?_
 rintro j yV Q2 nS sO hR2;have yV:0<=j/\j<=K/\∀q,q<j.toNat->∀b,bs[q]?=some b->b.length<=300:=yV;obtain⟨qI,zq,qw⟩:=yV;by_cases mr:j<K
 rotate_left 1
 ·have d2:=W.nlt zA (show K<=j by omega)
  have hbA:∀b,b∈bs->b.length<=300:=λs hs=>by
   obtain⟨q,hq⟩:=List.mem_iff_getElem?.1 hs;exact qw q (by have:=(List.getElem?_eq_some_iff.1 hq).1;omega) s hq
  have yK:=yK Z.o hbA;clear qw hbA;cbv;repeat' (first|(simp only[d2];cbv)|fail)
  refine sO _ _ _ ?_;cbv;repeat' (first|(simp only[a5];cbv)|fail)
  refine hN i2 _ _ ?hx ?hi hT
  case hx=>exact Z.i
  case hi=>exact⟨by omega,by omega,yK⟩
 obtain⟨b,hb⟩:∃s,bs[j.toNat]?=some s:=⟨_,List.getElem?_eq_getElem (show j.toNat<bs.length by omega)⟩;obtain⟨bb,ebb⟩:=Z.e (b.map AZ);have hubb:Up0 bb:=by rw[ebb];exact Ao b
 have xM:br[j.toNat]?=some [.list 1 bb]:=by rw[ebr,List.getElem?_map,hb,ebb];rfl
 have hbbl:bb.length=b.length:=by rw[ebb];simp
 obtain⟨j2,sQ⟩:=Z.e (j+1);have n_:(K-j2).toNat<(K-j).toNat:=by omega
 have uX:b.length<=300->∀q,q<j2.toNat->∀b,bs[q]?=some b->b.length<=300:=λa q hq s vG=>by
  by_cases uD:q=j.toNat
  ·rw[uD,hb] at vG
   cases vG
   exact a
  ·exact qw q Z.o s vG
 obtain⟨M,eM,M0,Mn⟩:=Z.l zH bb;have d2:=W.lt zA mr;have a6:zB .add .i64 j 1=j2:=by rw[zC,Ag Z.o Z.o,sQ]
 clear hb qw;by_cases k2:200<M
 ·have e2:=W.gt zA k2
  cbv;repeat' (first|(simp only[d2,eM,e2];cbv)|(refine Idx.mk _ qI xM ?_;cbv)|fail)
  refine hR2 _ _ ?_;refine hR' _ _ ⟨_,Vw.same rfl,hF⟩
 have e2:=W.ngt zA (show M<=200 by omega);have uX:=uX Z.o;cbv;repeat' (first|(simp only[d2,eM,e2,a6];cbv)|(refine Idx.mk _ qI xM ?_;cbv)|fail)
 refine nS j2 _ _ ?hx2 ?hi2 n_
 case hx2=>exact Z.i
 case hi2=>exact⟨by omega,by omega,uX⟩
end Go.Proofs.YtlchlddijclhjaaGreat
