/- Parts of the proofs. -/
import Derived.Test.YtlchlddijclhjaaGreatS16
import Derived.KernelRfl
import Derived.Test.YtlchlddijclhjaaGreatS8
import Derived.Test.YtlchlddijclhjaaGreatS13
import Derived.Test.YtlchlddijclhjaaGreatS14
import Derived.Test.YtlchlddijclhjaaGreatSZ
set_option linter.unusedVariables false
set_option linter.unusedSimpArgs false
set_option maxHeartbeats 4000000
namespace Go.Proofs.YtlchlddijclhjaaGreat
open Go Go.RowKit Go.Eng
def plc(ss:List Sg)(sg off:Int):Int->List Int->List Int
 | _,[]=>[]
 | a,n::l=>(if n=sg then [a+off] else [])++plc ss sg off (a+k1O ss n) l
def k79(ss:List Sg)(sg off from_:Int)(m:List (List Int)):List Int:=m.flatMap (plc ss sg off (-from_))
def kIZ:List Int->Int->List Int
 | [],x=>[x]
 | k::l,x=>if k<x then k::kIZ l x else if x<k then x::k::l else k::l
theorem kDU:∀(l:List Int) (x y:Int),y∈kIZ l x↔y∈l\/y=x
 | [],x,y=>by simp[kIZ]
 | k::l,x,y=>by
   simp only[kIZ];split
   ·rw[List.mem_cons,kDU l x y,List.mem_cons,or_assoc]
   ·split
    ·simp only[List.mem_cons]
     constructor
     ·rintro(h|h|h)
      ·exact .inr h
      ·exact .inl (.inl h)
      ·exact .inl (.inr h)
     ·rintro((h|h)|h)
      ·exact .inr (.inl h)
      ·exact .inr (.inr h)
      ·exact .inl h
    ·have:k=x:=by omega
     rw[List.mem_cons,this];constructor
     ·exact .inl
     ·rintro(h|h)
      ·exact h
      ·exact .inl h
theorem kBE:∀(l:List Int) (x:Int),l.Pairwise (· < ·)->(kIZ l x).Pairwise (· < ·)
 | [],x,_=>List.pairwise_singleton _ _
 | k::l,x,h=>by
   obtain⟨h1,h2⟩:=List.pairwise_cons.1 h;simp only[kIZ];split
   ·rename_i hk
    refine List.pairwise_cons.2 ⟨λy hy=>?_,kBE l x h2⟩;rcases (kDU l x y).1 hy with hy|hy
    ·exact h1 y hy
    ·omega
   ·split
    ·rename_i hk
     refine List.pairwise_cons.2 ⟨λy hy=>?_,h⟩;rcases List.mem_cons.1 hy with rfl|hy
     ·exact hk
     ·have:=h1 y hy;omega
    ·exact h
theorem kIY:∀(l:List Int) (x:Int),(kIZ l x).length<=l.length+1
 | [],x=>by simp[kIZ]
 | k::l,x=>by
   have:=kIY l x;simp only[kIZ];split
   ·simp only[List.length_cons];omega
   ·split<;>simp
theorem k5V:∀(l q:List Int),q.Pairwise (· < ·)->(l.foldl kIZ q).Pairwise (· < ·)/\(∀y,y∈l.foldl kIZ q↔y∈q\/y∈l)/\(l.foldl kIZ q).length<=q.length+l.length
 | [],q,h=>⟨h,λy=>by simp,by simp⟩
 | x::l,q,h=>by
   obtain⟨h1,h2,h3⟩:=k5V l (kIZ q x) (kBE q x h);have:=kIY q x;refine⟨h1,λy=>?_,by simp only[List.foldl_cons,List.length_cons];omega⟩;rw[List.foldl_cons,h2,kDU,List.mem_cons,or_assoc]
theorem kBY:∀(l m:List Int),l.Pairwise (· < ·)->m.Pairwise (· < ·)->(∀x,x∈l↔x∈m)->l=m
 | [],[],_,_,_=>rfl
 | [],b::m,_,_,h=>by have:=(h b).2 List.mem_cons_self;simp at this
 | a::l,[],_,_,h=>by have:=(h a).1 List.mem_cons_self;simp at this
 | a::l,b::m,h1,h2,h=>by
   obtain⟨a1,a2⟩:=List.pairwise_cons.1 h1;obtain⟨b1,b2⟩:=List.pairwise_cons.1 h2
   have e:a=b:=by
    have k1:=(h a).1 List.mem_cons_self;have k2:=(h b).2 List.mem_cons_self;rcases List.mem_cons.1 k1 with k1|k1
    ·exact k1
    ·rcases List.mem_cons.1 k2 with k2|k2
     ·exact k2.symm
     ·have:=b1 a k1;have:=a1 b k2;omega
   subst e;congr 1
   refine kBY l m a2 b2 λx=>⟨λhx=>?_,λhx=>?_⟩
   ·rcases List.mem_cons.1 ((h x).1 (List.mem_cons_of_mem _ hx)) with k|k
    ·have:=a1 x hx;omega
    ·exact k
   ·rcases List.mem_cons.1 ((h x).2 (List.mem_cons_of_mem _ hx)) with k|k
    ·have:=b1 x hx;omega
    ·exact k
def kME(ss:List Sg)(sg off from_:Int)(m:List (List Int)):List Int:=(k79 ss sg off from_ m).foldl kIZ []
theorem kGA{ss:List Sg}{sg off from_:Int}{m:List (List Int)}{os:List Int}(h1:os.Pairwise (· < ·))(h2:∀x,x∈os↔x∈k79 ss sg off from_ m):os=kME ss sg off from_ m:=by
 obtain⟨k1,k2,_⟩:=k5V (k79 ss sg off from_ m) [] List.Pairwise.nil;exact kBY _ _ h1 k1 λx=>by rw[h2];unfold kME at *;rw[k2];simp
theorem kMC(ss:List Sg)(sg off:Int):∀(l:List Int) (a:Int),(plc ss sg off a l).length<=l.length
 | [],a=>by simp[plc]
 | n::l,a=>by
   have:=kMC ss sg off l (a+k1O ss n);simp only[plc,List.length_append,List.length_cons];split<;>simp<;>omega
theorem k8E(ss:List Sg)(sg off from_:Int):∀(m:List (List Int)),(∀l,l∈m->l.length<=12)->(k79 ss sg off from_ m).length<=12*m.length
 | [],_=>by simp[k79]
 | l::m,h=>by
   have h1:=k8E ss sg off from_ m λx hx=>h x (List.mem_cons_of_mem _ hx);have h2:=kMC ss sg off l (-from_);have h3:=h l List.mem_cons_self;unfold k79 at h1 ⊢;rw[List.flatMap_cons,List.length_append,List.length_cons];omega
theorem kEO(ss:List Sg)(sg off from_:Int)(m:List (List Int))(l:List Int):k79 ss sg off from_ (m++[l])=k79 ss sg off from_ m++plc ss sg off (-from_) l:=by
 unfold k79;rw[List.flatMap_append];simp
set_option maxRecDepth 100000
def kKR(o:Option (Nat×List (List AV)))(acc:List Int):Prop:=match o with|none=>acc=[]|some (k,w)=>w=acc.map k0K/\k=w.length/\Up0 w
theorem k6O{α: Type}{l:List α}{i:Nat}{a: α}(h:l[i]?=some a):l.drop i=a::l.drop (i+1):=by
 obtain⟨h1,h2⟩:=List.getElem?_eq_some_iff.1 h;rw[List.drop_eq_getElem_cons h1,h2]
theorem kFH:k02 Tryz.prog 232 [.nils] (· = .nils):=by
 (refine k02.ofY Tryz.func232 (by kernel_rfl) (by kernel_rfl) λw hw R hR=>?_);(subst hw);(conv=>arg 2;cbv);(generalize hP:Tryz.prog=P);cbv;exact Z.r hR
theorem kRX(ss:List Sg)(gs:List Gr)(es ds:List (List AV))(zU:es=ss.map k0Y)(yG:ds=gs.map k14)(hln:k2N ss)(from_:Int)(hf:0<=from_/\from_<=1099511627776)(m:List (List Int))(hw1:∀l,l∈m->l.length<=12/\∀n,n∈l->0<=n/\n.toNat<ss.length)(hm:m.length<=1000)(rs:List (List AV))(yL:rs=m.map rtC)
 (g:Int) (hg:0<=g) (G:Gr) (hG:gs[g.toNat]?=some G) (hoff:0<=G.off/\G.off<=1099511627776) :
 k02 Tryz.prog 214 [.agg [from_,.list 13 rs],.agg [.list 3 es,.list 5 ds],g] (· = .list 1 ((kME ss G.seg G.off from_ m).map k0K)):=by
 have hu:Up0 es:=by rw[zU];exact k42 ss
 have hud:Up0 ds:=by rw[yG];exact k43 gs
 have hur:Up0 rs:=by rw[yL];exact k1D (f:=rtC) (λd=>rfl) m
 have hrl:rs.length=m.length:=by rw[yL];simp
 have hdl:ds.length=gs.length:=by rw[yG];simp
 have hgl:=(List.getElem?_eq_some_iff.1 hG).1;obtain⟨gid,gseg,goff,gacc,gsl⟩:=G;have hG:ds[g.toNat]?=some [jz gid,jz gseg,jz goff,jz gacc,jz gsl]:=by rw[yG,List.getElem?_map,hG];rfl
 simp only at hoff;obtain⟨v,ev⟩:=Z.e (kME ss gseg goff from_ m);show k02 Tryz.prog 214 [.agg [from_,.list 13 rs],.agg [.list 3 es,.list 5 ds],g] (· = .list 1 ((kME ss gseg goff from_ m).map k0K));rw[<- ev];have hpl:=k8E ss gseg goff from_ m λl hl=>(hw1 l hl).1;refine Z.y Tryz.func214 λzA _ yT _ _ _ hw zC _ yM _ _ zE hz R hR P hP=>?_;cbv;obtain⟨J,eJ,J0,Jn⟩:=Z.l zE ds;obtain⟨L,eL,L0,Ln⟩:=Z.l zE rs;repeat' (first|(exfalso;omega)|(split<;>rename_i h<;>(try (simp only[eJ] at h))<;>(try (simp only[hz,Z.a,k05,k04,k08,k03,k0M,reduceCtorEq] at h))<;>(try cbv)))
 all_goals first|(exfalso;omega)|skip
 refine Idx.mk _ hg hG ?_;cbv;(refine Call.inl hw hP Tryz.func224 (by kernel_rfl) (by kernel_rfl) ?_);(conv=>arg 2;cbv);cbv;simp only[eL];obtain⟨a0,ea0⟩:∃a0,a0 = -from_:=⟨_,rfl⟩;have c0:yT .neg .i64 from_=a0:=by rw[yM,ea0];simp only[k08];rw[IntKind.wrap_i64];omega
 refine k1Q.dataN hw (S:=Int×Option (Nat×List (List AV))) (λs=>fr 42 [(2,.func (.func 230) [] [.ref 3 5 0 0,.ref 2 1 0 0]),(3,.ref 4 2 0 0),(4,.ref 5 2 0 0),(12,.list 13 rs),(13,L),(14,s.1)])
  (λs=>match s.2 with|none=>[.live 2 [[from_,.list 13 rs]],.live 2 [[.list 3 es,.list 5 ds]],.live 1 [[.nils]],.live 5 [[gid,gseg,goff,gacc,gsl]],.live 2 [[from_,.list 13 rs]],.live 2 [[.list 3 es,.list 5 ds]]]|some (k,w)=>[.live 2 [[from_,.list 13 rs]],.live 2 [[.list 3 es,.list 5 ds]],.live 1 [[.sl 6 1 0 k]],.live 5 [[gid,gseg,goff,gacc,gsl]],.live 2 [[from_,.list 13 rs]],.live 2 [[.list 3 es,.list 5 ds]],.live 1 w])
  (λs=>0<=s.1/\s.1<=L/\kKR s.2 (k79 ss gseg goff from_ (m.take s.1.toNat))) (λs=>(L-s.1).toNat) (0,none) (by(refine Z.n (id) ?_;cbv<;>exact Z.q)) ⟨Int.le_refl _,L0,rfl⟩ ?_
 rintro⟨i,(_|⟨k0,w0⟩)⟩ zJ Q' hN hE hR'
 ·have zJ:0<=i/\i<=L/\kKR none (k79 ss gseg goff from_ (m.take i.toNat)):=zJ
  cbv;obtain⟨yJ,yZ,hrep⟩:=zJ;have hlen0:=k8E ss gseg goff from_ (m.take i.toNat) λx hx=>(hw1 x (List.mem_of_mem_take hx)).1;rw[List.length_take,Nat.min_eq_left Z.o] at hlen0;(split<;>rename_i hc<;>(try (simp only[hz,Z.a,k05,k04,k08,k03,k0M,reduceCtorEq] at hc))<;>(try cbv))
  rotate_left 1
  ·rw[List.take_of_length_le Z.o] at hrep
   refine hE _ _ _ ?_;cbv;have hv0:v=[]:=(by rw[ev];unfold kME;rw[show k79 ss gseg goff from_ m=[] from hrep];rfl);refine Call.stepE (kBC hP) rfl ?_;cbv;refine Call.stepE (by rw[<- hP];exact kFH) rfl ?_;cbv;exact⟨_,Vw.nil 1,hR _ (by rw[hv0];rfl)⟩
  obtain⟨l,hl⟩:∃l,m[i.toNat]?=some l:=⟨_,List.getElem?_eq_getElem (show i.toNat<m.length by omega)⟩;obtain⟨hl12,hlseg⟩:=hw1 l (List.mem_of_getElem? hl);have hri:rs[i.toNat]?=some (toR l).row:=(by rw[yL,List.getElem?_map,hl];rfl);obtain⟨xs,exs⟩:=Z.e (l.map k0K);have huxs:Up0 xs:=(by rw[exs];exact k3K l);have hxl:xs.length=l.length:=(by rw[exs];simp);have hpa:=kB8 l hl12;have hpa:k02 Tryz.prog 107 [.agg (toR l).row] (· = .list 1 xs):=(by rw[exs];exact hpa);obtain⟨i2,ei2⟩:=Z.e (i+1);have a4:zA .add .i64 i 1=i2:=by rw[zC,ei2];show IntKind.i64.wrap (i+1)=i+1;rw[IntKind.wrap_i64];omega
  have hT2:(L-i2).toNat<(L-i).toNat:=(by omega);have htk:m.take i2.toNat=m.take i.toNat++[l]:=(by rw[ei2];exact k24 yJ hl);have hacc2:k79 ss gseg goff from_ (m.take i2.toNat)=k79 ss gseg goff from_ (m.take i.toNat)++plc ss gseg goff (-from_) l:=(by rw[htk,kEO]);obtain⟨row,erow⟩:=Z.e (toR l);rw[<- erow] at hri hpa;obtain⟨n,s0,s1,s2,s3,s4,s5,s6,s7,s8,s9,s10,s11⟩:=row;obtain⟨K,eK,K0,Kn⟩:=Z.l zE xs;refine Idx.mk _ yJ hri ?_;cbv;simp only[c0];refine Call.stepE (by rw[<- hP];exact hpa) rfl ?_;cbv;simp only[eK]
  refine k1Q.dataN hw (S:=Int×Int×Option (Nat×List (List AV))) (λs=>fr 42 [(2,.func (.func 230) [] [.ref 3 5 0 0,.ref 2 1 0 0]),(3,.ref 4 2 0 0),(4,.ref 5 2 0 0),(8,s.2.1),(12,.list 13 rs),(13,L),(14,i),(22,.list 1 xs),(23,K),(24,s.1)])
   (λs=>match s.2.2 with|none=>[.live 2 [[from_,.list 13 rs]],.live 2 [[.list 3 es,.list 5 ds]],.live 1 [[.nils]],.live 5 [[gid,gseg,goff,gacc,gsl]],.live 2 [[from_,.list 13 rs]],.live 2 [[.list 3 es,.list 5 ds]]]|some (k,w)=>[.live 2 [[from_,.list 13 rs]],.live 2 [[.list 3 es,.list 5 ds]],.live 1 [[.sl 6 1 0 k]],.live 5 [[gid,gseg,goff,gacc,gsl]],.live 2 [[from_,.list 13 rs]],.live 2 [[.list 3 es,.list 5 ds]],.live 1 w])
   (λs=>0<=s.1/\s.1<=K /\ -1099511627776<=s.2.1/\s.2.1<=s.1*1099511627776/\∃acc,kKR s.2.2 acc/\acc.length<=12*i.toNat+s.1.toNat/\acc++plc ss gseg goff s.2.1 (l.drop s.1.toNat)=k79 ss gseg goff from_ (m.take i2.toNat)) (λs=>(K-s.1).toNat) (0,a0,none) (by(refine Z.n (id) ?_;cbv<;>exact Z.q)) ⟨Int.le_refl _,K0,by simp only;omega,by simp only;omega,_,hrep,by simp only;omega,by simp only;rw[hacc2,ea0];rfl⟩ ?_
  rintro⟨j,a,(_|⟨k1,w1⟩)⟩ yV Q2 hN2 hE2 hR2
  ·have yV:0<=j/\j<=K /\ -1099511627776<=a/\a<=j*1099511627776/\∃acc,kKR (none) acc/\acc.length<=12*i.toNat+j.toNat/\acc++plc ss gseg goff a (l.drop j.toNat)=k79 ss gseg goff from_ (m.take i2.toNat):=yV
   cbv;obtain⟨hj0,hj1,hq0,hq1,acc,hrp,hal,hacc⟩:=yV;(split<;>rename_i hd<;>(try (simp only[hz,Z.a,k05,k04,k08,k03,k0M,reduceCtorEq] at hd))<;>(try cbv))
   rotate_left 1
   ·refine hE2 _ _ _ ?_
    cbv;simp only[a4];have e:k79 ss gseg goff from_ (m.take i2.toNat)=acc:=(by rw[<- hacc,List.drop_of_length_le Z.o];simp[plc]);refine hN (i2,none) _ _ ?hx ?hI hT2
    case hx=>(refine Z.n (id) ?_;cbv<;>exact Z.q)
    case hI=>exact⟨by simp only;omega,by simp only;omega,by rw[e];exact hrp⟩
   obtain⟨c,hcj⟩:∃c,l[j.toNat]?=some c:=⟨_,List.getElem?_eq_getElem (show j.toNat<l.length by omega)⟩;have hxj:xs[j.toNat]?=some [jz c]:=(by rw[exs,List.getElem?_map,hcj];rfl);obtain⟨hcs0,hcs1⟩:=hlseg c (List.mem_of_getElem? hcj);obtain⟨⟨len,pps,nx⟩,hdc,zL⟩:=k0V (f:=k0Y) (ds:=ss) (i:=c) hcs0 hcs1;obtain⟨pq,epq⟩:=Z.f (pps.map k1E);obtain⟨n1,en1⟩:=Z.f (nx.map k0K);have zL:es[c.toNat]?=some [jz len,.list 2 pq,.list 1 n1]:=(by rw[zU,<- epq,<- en1];exact zL);have zE:k1O ss c=len:=(by unfold k1O;rw[hdc]);have hlb:=k5M hln c;rw[zE] at hlb;obtain⟨j2,ej2⟩:=Z.e (j+1);have a5:zA .add .i64 j 1=j2:=by rw[zC,ej2];show IntKind.i64.wrap (j+1)=j+1;rw[IntKind.wrap_i64];omega
   obtain⟨a2,ea2⟩:=Z.e (a+len);have a6:zA .add .i64 a len=a2:=by rw[zC,ea2];show IntKind.i64.wrap (a+len)=a+len;rw[IntKind.wrap_i64];omega
   obtain⟨p2,ep2⟩:=Z.e (a+goff);have a7:zA .add .i64 a goff=p2:=by rw[zC,ep2];show IntKind.i64.wrap (a+goff)=a+goff;rw[IntKind.wrap_i64];omega
   have hT3:(K-j2).toNat<(K-j).toNat:=by omega
   have hdr:plc ss gseg goff a (l.drop j.toNat)=(if c=gseg then [p2] else [])++plc ss gseg goff a2 (l.drop j2.toNat):=by
    rw[k6O hcj,show j2.toNat=j.toNat+1 by omega,ep2,ea2,<- zE];rfl
   rw[hdr] at hacc;clear hdr;refine Idx.mk _ hj0 hxj ?_;cbv;(refine Call.inl hw hP Tryz.func230 (by kernel_rfl) (by kernel_rfl) ?_);(conv=>arg 2;cbv);cbv;(split<;>rename_i he<;>(try (simp only[hz,Z.a,k05,k04,k08,k03,k0M,reduceCtorEq] at he))<;>(try cbv))
   ·simp only[a7]
    have hacc0:acc=[]:=hrp;refine Ob.mk Z.d ?_;cbv;refine Idx.mk _ hcs0 zL ?_;cbv;simp only[a5,a6];refine hN2 (j2,a2,some (1,[[jz p2]])) _ _ ?hx ?hI hT3
    case hx=>(refine Z.n (λj=>[0,1,2,3,4,5,6].getD j 0) ?_;cbv<;>exact Z.q)
    case hI=>exact⟨by simp only;omega,by simp only;omega,by simp only;omega,by simp only;omega,[p2],⟨rfl,rfl,⟨rfl⟩⟩,by simp only[List.length_cons,List.length_nil];omega,by rw[<- hacc,hacc0,if_pos he];simp⟩
   ·refine Idx.mk _ hcs0 zL ?_
    cbv;simp only[a5,a6];refine hN2 (j2,a2,none) _ _ ?hx ?hI hT3
    case hx=>(refine Z.n (id) ?_;cbv<;>exact Z.q)
    case hI=>exact⟨by simp only;omega,by simp only;omega,by simp only;omega,by simp only;omega,acc,hrp,by simp only;omega,by rw[<- hacc,if_neg he];simp⟩
  ·have yV:0<=j/\j<=K /\ -1099511627776<=a/\a<=j*1099511627776/\∃acc,kKR (some (k1,w1)) acc/\acc.length<=12*i.toNat+j.toNat/\acc++plc ss gseg goff a (l.drop j.toNat)=k79 ss gseg goff from_ (m.take i2.toNat):=yV
   cbv;obtain⟨hj0,hj1,hq0,hq1,acc,hrp,hal,hacc⟩:=yV;have huw1:Up0 w1:=hrp.2.2;have hk1:k1=w1.length:=hrp.2.1;have hwl1:w1.length=acc.length:=(by rw[hrp.1];simp);(split<;>rename_i hd<;>(try (simp only[hz,Z.a,k05,k04,k08,k03,k0M,reduceCtorEq] at hd))<;>(try cbv))
   rotate_left 1
   ·refine hE2 _ _ _ ?_
    cbv;simp only[a4];have e:k79 ss gseg goff from_ (m.take i2.toNat)=acc:=(by rw[<- hacc,List.drop_of_length_le Z.o];simp[plc]);refine hN (i2,some (k1,w1)) _ _ ?hx ?hI hT2
    case hx=>(refine Z.n (id) ?_;cbv<;>exact Z.q)
    case hI=>exact⟨by simp only;omega,by simp only;omega,by rw[e];exact hrp⟩
   obtain⟨c,hcj⟩:∃c,l[j.toNat]?=some c:=⟨_,List.getElem?_eq_getElem (show j.toNat<l.length by omega)⟩;have hxj:xs[j.toNat]?=some [jz c]:=(by rw[exs,List.getElem?_map,hcj];rfl);obtain⟨hcs0,hcs1⟩:=hlseg c (List.mem_of_getElem? hcj);obtain⟨⟨len,pps,nx⟩,hdc,zL⟩:=k0V (f:=k0Y) (ds:=ss) (i:=c) hcs0 hcs1;obtain⟨pq,epq⟩:=Z.f (pps.map k1E);obtain⟨n1,en1⟩:=Z.f (nx.map k0K);have zL:es[c.toNat]?=some [jz len,.list 2 pq,.list 1 n1]:=(by rw[zU,<- epq,<- en1];exact zL);have zE:k1O ss c=len:=(by unfold k1O;rw[hdc]);have hlb:=k5M hln c;rw[zE] at hlb;obtain⟨j2,ej2⟩:=Z.e (j+1);have a5:zA .add .i64 j 1=j2:=by rw[zC,ej2];show IntKind.i64.wrap (j+1)=j+1;rw[IntKind.wrap_i64];omega
   obtain⟨a2,ea2⟩:=Z.e (a+len);have a6:zA .add .i64 a len=a2:=by rw[zC,ea2];show IntKind.i64.wrap (a+len)=a+len;rw[IntKind.wrap_i64];omega
   obtain⟨p2,ep2⟩:=Z.e (a+goff);have a7:zA .add .i64 a goff=p2:=by rw[zC,ep2];show IntKind.i64.wrap (a+goff)=a+goff;rw[IntKind.wrap_i64];omega
   have hT3:(K-j2).toNat<(K-j).toNat:=by omega
   have hdr:plc ss gseg goff a (l.drop j.toNat)=(if c=gseg then [p2] else [])++plc ss gseg goff a2 (l.drop j2.toNat):=by
    rw[k6O hcj,show j2.toNat=j.toNat+1 by omega,ep2,ea2,<- zE];rfl
   rw[hdr] at hacc;clear hdr;refine Idx.mk _ hj0 hxj ?_;cbv;(refine Call.inl hw hP Tryz.func230 (by kernel_rfl) (by kernel_rfl) ?_);(conv=>arg 2;cbv);cbv;(split<;>rename_i he<;>(try (simp only[hz,Z.a,k05,k04,k08,k03,k0M,reduceCtorEq] at he))<;>(try cbv))
   ·simp only[a7]
    obtain⟨w2,ew2⟩:∃x:List (List AV),x=w1++[[jz p2]]:=⟨_,rfl⟩;obtain⟨k2,ek2⟩:=Z.e (k1+1);have hwl2:w2.length=w1.length+1:=(by rw[ew2];simp);have hw2:w2=(acc++[p2]).map k0K:=(by rw[ew2,hrp.1];simp[k0K]);have huw2:Up0 w2:=(by rw[hw2];exact k3K _);refine App.mk w2 k2 ew2 hk1 ek2 Z.o Z.o ?_;cbv;refine Idx.mk _ hcs0 zL ?_;cbv;simp only[a5,a6];refine hN2 (j2,a2,some (k2,w2)) _ _ ?hx ?hI hT3
    case hx=>(refine Z.n (λj=>[0,1,2,3,4,5,7].getD j 0) ?_;cbv<;>exact Z.q)
    case hI=>exact⟨by simp only;omega,by simp only;omega,by simp only;omega,by simp only;omega,acc++[p2],⟨hw2,by omega,huw2⟩,by simp only[List.length_append,List.length_cons,List.length_nil];omega,by rw[<- hacc,if_pos he];simp⟩
   ·refine Idx.mk _ hcs0 zL ?_
    cbv;simp only[a5,a6];refine hN2 (j2,a2,some (k1,w1)) _ _ ?hx ?hI hT3
    case hx=>(refine Z.n (id) ?_;cbv<;>exact Z.q)
    case hI=>exact⟨by simp only;omega,by simp only;omega,by simp only;omega,by simp only;omega,acc,hrp,by simp only;omega,by rw[<- hacc,if_neg he];simp⟩
 ·have zJ:0<=i/\i<=L/\kKR (some (k0,w0)) (k79 ss gseg goff from_ (m.take i.toNat)):=zJ
  cbv;obtain⟨yJ,yZ,hrep⟩:=zJ;have huw:Up0 w0:=hrep.2.2;have hlen0:=k8E ss gseg goff from_ (m.take i.toNat) λx hx=>(hw1 x (List.mem_of_mem_take hx)).1;rw[List.length_take,Nat.min_eq_left Z.o] at hlen0;(split<;>rename_i hc<;>(try (simp only[hz,Z.a,k05,k04,k08,k03,k0M,reduceCtorEq] at hc))<;>(try cbv))
  rotate_left 1
  ·rw[List.take_of_length_le Z.o] at hrep
   refine hE _ _ _ ?_;cbv;have hwl:w0.length=(k79 ss gseg goff from_ m).length:=(by rw[hrep.1];simp);refine Call.of (kH5 hP (s:=6) (n:=k0) (ns:=k79 ss gseg goff from_ m) rfl hrep.1 (by rw[hrep.2.1,hwl]) Z.o ?_);rintro ns' hp1 hp2;obtain⟨w2,ew2⟩:=Z.e (ns'.map k0K);rw[<- ew2];cbv;have hpl2:=hp1.length_eq;refine Call.of (kBO hP (s:=6) (n:=k0) (ns:=ns') rfl ew2 (by rw[hrep.2.1,hwl,hpl2]) Z.o hp2 ?_);rintro os zs h1 h2 h3;obtain⟨w3,ew3⟩:∃x,x=(os++zs).map k0K:=⟨_,rfl⟩;obtain⟨k3,ek3⟩:=Z.e os.length;rw[<- ew3,<- ek3];cbv;have huw3:Up0 w3:=(by rw[ew3];exact k3K _);have hos:os=v:=(by rw[ev];exact kGA h1 λx=>by rw[h2,hp1.mem_iff]);have e1:(w3.drop 0).take k3=v.map k0K:=(by rw[ew3,ek3,List.drop_zero,<- List.map_take,List.take_left,hos]);have hw3l:k3<=w3.length:=(by rw[ew3,ek3];simp);refine⟨_,Vw.sl (s:=6) (z:=1) (n:=k3) (i:=0) rfl huw3.get Z.o,hR _ ?_⟩;rw[e1]
  obtain⟨l,hl⟩:∃l,m[i.toNat]?=some l:=⟨_,List.getElem?_eq_getElem (show i.toNat<m.length by omega)⟩;obtain⟨hl12,hlseg⟩:=hw1 l (List.mem_of_getElem? hl);have hri:rs[i.toNat]?=some (toR l).row:=(by rw[yL,List.getElem?_map,hl];rfl);obtain⟨xs,exs⟩:=Z.e (l.map k0K);have huxs:Up0 xs:=(by rw[exs];exact k3K l);have hxl:xs.length=l.length:=(by rw[exs];simp);have hpa:=kB8 l hl12;have hpa:k02 Tryz.prog 107 [.agg (toR l).row] (· = .list 1 xs):=(by rw[exs];exact hpa);obtain⟨i2,ei2⟩:=Z.e (i+1);have a4:zA .add .i64 i 1=i2:=by rw[zC,ei2];show IntKind.i64.wrap (i+1)=i+1;rw[IntKind.wrap_i64];omega
  have hT2:(L-i2).toNat<(L-i).toNat:=(by omega);have htk:m.take i2.toNat=m.take i.toNat++[l]:=(by rw[ei2];exact k24 yJ hl);have hacc2:k79 ss gseg goff from_ (m.take i2.toNat)=k79 ss gseg goff from_ (m.take i.toNat)++plc ss gseg goff (-from_) l:=(by rw[htk,kEO]);obtain⟨row,erow⟩:=Z.e (toR l);rw[<- erow] at hri hpa;obtain⟨n,s0,s1,s2,s3,s4,s5,s6,s7,s8,s9,s10,s11⟩:=row;obtain⟨K,eK,K0,Kn⟩:=Z.l zE xs;refine Idx.mk _ yJ hri ?_;cbv;simp only[c0];refine Call.stepE (by rw[<- hP];exact hpa) rfl ?_;cbv;simp only[eK]
  refine k1Q.dataN hw (S:=Int×Int×Option (Nat×List (List AV))) (λs=>fr 42 [(2,.func (.func 230) [] [.ref 3 5 0 0,.ref 2 1 0 0]),(3,.ref 4 2 0 0),(4,.ref 5 2 0 0),(8,s.2.1),(12,.list 13 rs),(13,L),(14,i),(22,.list 1 xs),(23,K),(24,s.1)])
   (λs=>match s.2.2 with|none=>[.live 2 [[from_,.list 13 rs]],.live 2 [[.list 3 es,.list 5 ds]],.live 1 [[.nils]],.live 5 [[gid,gseg,goff,gacc,gsl]],.live 2 [[from_,.list 13 rs]],.live 2 [[.list 3 es,.list 5 ds]]]|some (k,w)=>[.live 2 [[from_,.list 13 rs]],.live 2 [[.list 3 es,.list 5 ds]],.live 1 [[.sl 6 1 0 k]],.live 5 [[gid,gseg,goff,gacc,gsl]],.live 2 [[from_,.list 13 rs]],.live 2 [[.list 3 es,.list 5 ds]],.live 1 w])
   (λs=>0<=s.1/\s.1<=K /\ -1099511627776<=s.2.1/\s.2.1<=s.1*1099511627776/\∃acc,kKR s.2.2 acc/\acc.length<=12*i.toNat+s.1.toNat/\acc++plc ss gseg goff s.2.1 (l.drop s.1.toNat)=k79 ss gseg goff from_ (m.take i2.toNat)) (λs=>(K-s.1).toNat) (0,a0,some (k0,w0)) (by(refine Z.n (id) ?_;cbv<;>exact Z.q)) ⟨Int.le_refl _,K0,by simp only;omega,by simp only;omega,_,hrep,by simp only;omega,by simp only;rw[hacc2,ea0];rfl⟩ ?_
  rintro⟨j,a,(_|⟨k1,w1⟩)⟩ yV Q2 hN2 hE2 hR2
  ·have yV:0<=j/\j<=K /\ -1099511627776<=a/\a<=j*1099511627776/\∃acc,kKR (none) acc/\acc.length<=12*i.toNat+j.toNat/\acc++plc ss gseg goff a (l.drop j.toNat)=k79 ss gseg goff from_ (m.take i2.toNat):=yV
   cbv;obtain⟨hj0,hj1,hq0,hq1,acc,hrp,hal,hacc⟩:=yV;(split<;>rename_i hd<;>(try (simp only[hz,Z.a,k05,k04,k08,k03,k0M,reduceCtorEq] at hd))<;>(try cbv))
   rotate_left 1
   ·refine hE2 _ _ _ ?_
    cbv;simp only[a4];have e:k79 ss gseg goff from_ (m.take i2.toNat)=acc:=(by rw[<- hacc,List.drop_of_length_le Z.o];simp[plc]);refine hN (i2,none) _ _ ?hx ?hI hT2
    case hx=>(refine Z.n (id) ?_;cbv<;>exact Z.q)
    case hI=>exact⟨by simp only;omega,by simp only;omega,by rw[e];exact hrp⟩
   obtain⟨c,hcj⟩:∃c,l[j.toNat]?=some c:=⟨_,List.getElem?_eq_getElem (show j.toNat<l.length by omega)⟩;have hxj:xs[j.toNat]?=some [jz c]:=(by rw[exs,List.getElem?_map,hcj];rfl);obtain⟨hcs0,hcs1⟩:=hlseg c (List.mem_of_getElem? hcj);obtain⟨⟨len,pps,nx⟩,hdc,zL⟩:=k0V (f:=k0Y) (ds:=ss) (i:=c) hcs0 hcs1;obtain⟨pq,epq⟩:=Z.f (pps.map k1E);obtain⟨n1,en1⟩:=Z.f (nx.map k0K);have zL:es[c.toNat]?=some [jz len,.list 2 pq,.list 1 n1]:=(by rw[zU,<- epq,<- en1];exact zL);have zE:k1O ss c=len:=(by unfold k1O;rw[hdc]);have hlb:=k5M hln c;rw[zE] at hlb;obtain⟨j2,ej2⟩:=Z.e (j+1);have a5:zA .add .i64 j 1=j2:=by rw[zC,ej2];show IntKind.i64.wrap (j+1)=j+1;rw[IntKind.wrap_i64];omega
   obtain⟨a2,ea2⟩:=Z.e (a+len);have a6:zA .add .i64 a len=a2:=by rw[zC,ea2];show IntKind.i64.wrap (a+len)=a+len;rw[IntKind.wrap_i64];omega
   obtain⟨p2,ep2⟩:=Z.e (a+goff);have a7:zA .add .i64 a goff=p2:=by rw[zC,ep2];show IntKind.i64.wrap (a+goff)=a+goff;rw[IntKind.wrap_i64];omega
   have hT3:(K-j2).toNat<(K-j).toNat:=by omega
   have hdr:plc ss gseg goff a (l.drop j.toNat)=(if c=gseg then [p2] else [])++plc ss gseg goff a2 (l.drop j2.toNat):=by
    rw[k6O hcj,show j2.toNat=j.toNat+1 by omega,ep2,ea2,<- zE];rfl
   rw[hdr] at hacc;clear hdr;refine Idx.mk _ hj0 hxj ?_;cbv;(refine Call.inl hw hP Tryz.func230 (by kernel_rfl) (by kernel_rfl) ?_);(conv=>arg 2;cbv);cbv;(split<;>rename_i he<;>(try (simp only[hz,Z.a,k05,k04,k08,k03,k0M,reduceCtorEq] at he))<;>(try cbv))
   ·simp only[a7]
    have hacc0:acc=[]:=hrp;refine Ob.mk Z.d ?_;cbv;refine Idx.mk _ hcs0 zL ?_;cbv;simp only[a5,a6];refine hN2 (j2,a2,some (1,[[jz p2]])) _ _ ?hx ?hI hT3
    case hx=>(refine Z.n (λj=>[0,1,2,3,4,5,6].getD j 0) ?_;cbv<;>exact Z.q)
    case hI=>exact⟨by simp only;omega,by simp only;omega,by simp only;omega,by simp only;omega,[p2],⟨rfl,rfl,⟨rfl⟩⟩,by simp only[List.length_cons,List.length_nil];omega,by rw[<- hacc,hacc0,if_pos he];simp⟩
   ·refine Idx.mk _ hcs0 zL ?_
    cbv;simp only[a5,a6];refine hN2 (j2,a2,none) _ _ ?hx ?hI hT3
    case hx=>(refine Z.n (id) ?_;cbv<;>exact Z.q)
    case hI=>exact⟨by simp only;omega,by simp only;omega,by simp only;omega,by simp only;omega,acc,hrp,by simp only;omega,by rw[<- hacc,if_neg he];simp⟩
  ·have yV:0<=j/\j<=K /\ -1099511627776<=a/\a<=j*1099511627776/\∃acc,kKR (some (k1,w1)) acc/\acc.length<=12*i.toNat+j.toNat/\acc++plc ss gseg goff a (l.drop j.toNat)=k79 ss gseg goff from_ (m.take i2.toNat):=yV
   cbv;obtain⟨hj0,hj1,hq0,hq1,acc,hrp,hal,hacc⟩:=yV;have huw1:Up0 w1:=hrp.2.2;have hk1:k1=w1.length:=hrp.2.1;have hwl1:w1.length=acc.length:=(by rw[hrp.1];simp);(split<;>rename_i hd<;>(try (simp only[hz,Z.a,k05,k04,k08,k03,k0M,reduceCtorEq] at hd))<;>(try cbv))
   rotate_left 1
   ·refine hE2 _ _ _ ?_
    cbv;simp only[a4];have e:k79 ss gseg goff from_ (m.take i2.toNat)=acc:=(by rw[<- hacc,List.drop_of_length_le Z.o];simp[plc]);refine hN (i2,some (k1,w1)) _ _ ?hx ?hI hT2
    case hx=>(refine Z.n (id) ?_;cbv<;>exact Z.q)
    case hI=>exact⟨by simp only;omega,by simp only;omega,by rw[e];exact hrp⟩
   obtain⟨c,hcj⟩:∃c,l[j.toNat]?=some c:=⟨_,List.getElem?_eq_getElem (show j.toNat<l.length by omega)⟩;have hxj:xs[j.toNat]?=some [jz c]:=(by rw[exs,List.getElem?_map,hcj];rfl);obtain⟨hcs0,hcs1⟩:=hlseg c (List.mem_of_getElem? hcj);obtain⟨⟨len,pps,nx⟩,hdc,zL⟩:=k0V (f:=k0Y) (ds:=ss) (i:=c) hcs0 hcs1;obtain⟨pq,epq⟩:=Z.f (pps.map k1E);obtain⟨n1,en1⟩:=Z.f (nx.map k0K);have zL:es[c.toNat]?=some [jz len,.list 2 pq,.list 1 n1]:=(by rw[zU,<- epq,<- en1];exact zL);have zE:k1O ss c=len:=(by unfold k1O;rw[hdc]);have hlb:=k5M hln c;rw[zE] at hlb;obtain⟨j2,ej2⟩:=Z.e (j+1);have a5:zA .add .i64 j 1=j2:=by rw[zC,ej2];show IntKind.i64.wrap (j+1)=j+1;rw[IntKind.wrap_i64];omega
   obtain⟨a2,ea2⟩:=Z.e (a+len);have a6:zA .add .i64 a len=a2:=by rw[zC,ea2];show IntKind.i64.wrap (a+len)=a+len;rw[IntKind.wrap_i64];omega
   obtain⟨p2,ep2⟩:=Z.e (a+goff);have a7:zA .add .i64 a goff=p2:=by rw[zC,ep2];show IntKind.i64.wrap (a+goff)=a+goff;rw[IntKind.wrap_i64];omega
   have hT3:(K-j2).toNat<(K-j).toNat:=by omega
   have hdr:plc ss gseg goff a (l.drop j.toNat)=(if c=gseg then [p2] else [])++plc ss gseg goff a2 (l.drop j2.toNat):=by
    rw[k6O hcj,show j2.toNat=j.toNat+1 by omega,ep2,ea2,<- zE];rfl
   rw[hdr] at hacc;clear hdr;refine Idx.mk _ hj0 hxj ?_;cbv;(refine Call.inl hw hP Tryz.func230 (by kernel_rfl) (by kernel_rfl) ?_);(conv=>arg 2;cbv);cbv;(split<;>rename_i he<;>(try (simp only[hz,Z.a,k05,k04,k08,k03,k0M,reduceCtorEq] at he))<;>(try cbv))
   ·simp only[a7]
    obtain⟨w2,ew2⟩:∃x:List (List AV),x=w1++[[jz p2]]:=⟨_,rfl⟩;obtain⟨k2,ek2⟩:=Z.e (k1+1);have hwl2:w2.length=w1.length+1:=(by rw[ew2];simp);have hw2:w2=(acc++[p2]).map k0K:=(by rw[ew2,hrp.1];simp[k0K]);have huw2:Up0 w2:=(by rw[hw2];exact k3K _);refine App.mk w2 k2 ew2 hk1 ek2 Z.o Z.o ?_;cbv;refine Idx.mk _ hcs0 zL ?_;cbv;simp only[a5,a6];refine hN2 (j2,a2,some (k2,w2)) _ _ ?hx ?hI hT3
    case hx=>(refine Z.n (λj=>[0,1,2,3,4,5,7].getD j 0) ?_;cbv<;>exact Z.q)
    case hI=>exact⟨by simp only;omega,by simp only;omega,by simp only;omega,by simp only;omega,acc++[p2],⟨hw2,by omega,huw2⟩,by simp only[List.length_append,List.length_cons,List.length_nil];omega,by rw[<- hacc,if_pos he];simp⟩
   ·refine Idx.mk _ hcs0 zL ?_
    cbv;simp only[a5,a6];refine hN2 (j2,a2,some (k1,w1)) _ _ ?hx ?hI hT3
    case hx=>(refine Z.n (id) ?_;cbv<;>exact Z.q)
    case hI=>exact⟨by simp only;omega,by simp only;omega,by simp only;omega,by simp only;omega,acc,hrp,by simp only;omega,by rw[<- hacc,if_neg he];simp⟩
set_option maxRecDepth 100000
theorem kB5{a b c d l h:Int}(h1:a<=b)(h2:c<=d)(hl:min a c=l)(hh:max b d=h):k02 Tryz.prog 84 [.agg [a,b],.agg [c,d]] (· = .agg [l,h]):=by
 have r1:=k22 (a:=a) (b:=b) true (by simp[h1]);have r2:=k22 (a:=c) (b:=d) true (by simp[h2]);(refine k02.ofY Tryz.func84 (by kernel_rfl) (by kernel_rfl) (Z.w λ_ _ _ _ zF _ yR _ _ _ _ _ _ _ _ _ _ _ _ _ _ _ _ _ _ zI _ yU _ _ _ _ _ _ _ _ _ _ _ _ _ hz R hR=>?_));(conv=>arg 2;cbv);(generalize hP:Tryz.prog=P);cbv;have e1:yR false a c=l:=by rw[yU,kP6,hl]
 have e2:yR true b d=h:=by rw[yU,kTI,hh]
 have n1:zF true=false:=by rw[zI];rfl
 repeat' (first
  | (refine Call.stepE (by rw[<- hP];exact r1) rfl ?_;cbv)
  | (refine Call.stepE (by rw[<- hP];exact r2) rfl ?_;cbv)
  | (simp only[n1];cbv))
 simp only[e1,e2];exact Z.r hR
theorem kWD(a:Int):k02 Tryz.prog 82 [a] (· = .agg [a,a]):=by
 refine Z.y Tryz.func82 λ_ _ _ _ _ _ _ _ _ _ _ _ _ hz R hR P hP=>?_;cbv;exact Z.r hR
def k8D(ps:List (Int×Int))(lo hi:Int)(i:Nat):Bool:=
 decide ((i=0\/∀p,ps[i]?=some p->p.1<=hi)/\(∀q,ps[i+1]?=some q->lo<=q.1))
def kK4(ps:List (Int×Int))(lo hi:Int)(s:Int×Int×Bool)(i:Nat):Int×Int×Bool:=
 if k8D ps lo hi i then (if s.2.2 then (min s.1 (ps.getD i (0,0)).2,max s.2.1 (ps.getD i (0,0)).2,true) else ((ps.getD i (0,0)).2,(ps.getD i (0,0)).2,true)) else s
def k9F(ps:List (Int×Int))(lo hi:Int)(n:Nat):Int×Int×Bool:=(List.range n).foldl (kK4 ps lo hi) (0,0,false)
theorem kBD(ps:List (Int×Int))(lo hi:Int)(n:Nat):k9F ps lo hi (n+1)=kK4 ps lo hi (k9F ps lo hi n) n:=by
 unfold k9F;rw[List.range_succ,List.foldl_append];rfl
theorem k9E(ps:List (Int×Int))(lo hi:Int):∀n,(k9F ps lo hi n).1<=(k9F ps lo hi n).2.1
 | 0=>Int.le_refl _
 | n+1=>by
   have:=k9E ps lo hi n;rw[kBD];unfold kK4;split
   ·split<;>simp only<;>omega
   ·exact this
theorem kH7{ps:List (Int×Int)}(hg:∀i,i<ps.length -> -1048576<=(ps.getD i (0,0)).2/\(ps.getD i (0,0)).2<=1048576)(lo hi:Int):∀n,n<=ps.length -> -1048576<=(k9F ps lo hi n).1/\(k9F ps lo hi n).2.1<=1048576/\(k9F ps lo hi n).1<=1048576 /\ -1048576<=(k9F ps lo hi n).2.1
 | 0,_=>by simp[k9F]
 | n+1,hn=>by
   have h1:=kH7 hg lo hi n Z.o;have h2:=hg n Z.o;rw[kBD];unfold kK4;split
   ·split<;>simp only<;>omega
   ·exact h1
structure k9Z(ps:List (Int×Int)):Prop where
 zero:∀p,ps[0]?=some p->p.1=0
 ne:1<=ps.length
 le:ps.length<=64
 gr:∀i,i<ps.length -> -1048576<=(ps.getD i (0,0)).2/\(ps.getD i (0,0)).2<=1048576
theorem kFG(ps:List (Int×Int))(hn:ps.length<=1000)(q:List (List AV))(hq:q=ps.map k1E)(lo hi:Int)(hlh:lo<=hi)(v:Int×Int×Bool)(ev:v=k9F ps lo hi ps.length) :
 k02 Tryz.prog 83 [.list 2 q,.agg [lo,hi]] (· = .tuple [.agg [v.1,v.2.1],v.2.2]):=by
 have huq:Up0 q:=by rw[hq];exact k7F ps
 have hql:q.length=ps.length:=by rw[hq];simp
 have hr:=k22 (a:=lo) (b:=hi) true (by simp[hlh]);obtain⟨v1,v2,v3⟩:=v;refine Z.y Tryz.func83 λzA _ _ _ zF _ hw zC _ _ _ zI zE hz R hR P hP=>?_;cbv;obtain⟨L,eL,L0,Ln⟩:=Z.l zE q;simp only[eL]
 refine k1Q.data hw (S:=Int×Int×Int×Bool×Int×Int) (λs=>fr 66 [(0,.list 2 q),(3,.ref 0 2 0 0),(4,.ref 1 2 0 0),(6,.ref 2 2 0 0),(7,s.2.2.2.1),(12,.list 2 q),(13,L),(14,s.1)])
  (λs=>[.live 2 [[lo,hi]],.live 2 [[s.2.2.2.2.1,s.2.2.2.2.2]],.live 2 [[s.2.1,s.2.2.1]]])
  (λs=>0<=s.1/\s.1<=L/\(s.2.1,s.2.2.1,s.2.2.2.1)=k9F ps lo hi s.1.toNat) (λs=>(L-s.1).toNat) (0,0,0,false,0,0) Z.i ⟨Int.le_refl _,L0,rfl⟩ ?_
 rintro⟨i,a,b,f,x0,y0⟩ zJ Q' hN hE hR'
 have zJ:0<=i/\i<=L/\(a,b,f)=k9F ps lo hi i.toNat:=zJ;cbv;obtain⟨yJ,yZ,hab⟩:=zJ;(split<;>rename_i hc<;>(try (simp only[hz,Z.a,k05,k04,k08,k03,k0M,reduceCtorEq] at hc))<;>(try cbv))
 rotate_left 1
 ·refine hE _ _ _ ?_
  cbv;have e:(v1,v2,v3)=(a,b,f):=(by rw[ev,hab];congr 1;omega);simp only[Prod.mk.injEq] at e;obtain⟨rfl,rfl,rfl⟩:=e;repeat' (refine And.intro ?_ ?_)
  all_goals exact Z.r hR
 obtain⟨⟨x,y⟩,hd,zL⟩:=k0V (f:=k1E) (ds:=ps) (i:=i) yJ Z.o;have zL:q[i.toNat]?=some [jz x,jz y]:=by rw[hq];exact zL
 obtain⟨i2,ei2⟩:=Z.e (i+1);have a4:zA .add .i64 i 1=i2:=by rw[zC,ei2];show IntKind.i64.wrap (i+1)=i+1;rw[IntKind.wrap_i64];omega
 have hstep:k9F ps lo hi i2.toNat=kK4 ps lo hi (a,b,f) i.toNat:=by rw[hab,<- kBD];congr 1;omega
 have hle:a<=b:=by
  have:=k9E ps lo hi i.toNat;rw[<- hab] at this;exact this
 have hgy:(ps.getD i.toNat (0,0)).2=y:=by rw[List.getD_eq_getElem?_getD,hd];rfl
 have n1:zF true=false:=by rw[zI];rfl
 have n2:zF false=true:=by rw[zI];rfl
 obtain⟨l',el'⟩:=Z.f (min a y);obtain⟨h',eh'⟩:=Z.f (max b y);have k1:=kB5 hle (Int.le_refl y) el' eh';have k2:=kB5 (Int.le_refl y) (Int.le_refl y) (show min y y=y by omega) (show max y y=y by omega);have k3:=kWD y
 have hgo:∀(o:Bool),k8D ps lo hi i.toNat=o->k9F ps lo hi i2.toNat=if o then (if f then (l',h',true) else (y,y,true)) else (a,b,f):=λo ho=>by
  rw[hstep];unfold kK4;rw[ho,hgy,el',eh']
 have hno:k8D ps lo hi i.toNat=false->(a,b,f)=k9F ps lo hi i2.toNat:=λh=>by rw[hgo _ h];rfl
 have hye:k8D ps lo hi i.toNat=true->f=true->(l',h',true)=k9F ps lo hi i2.toNat:=λh h2=>by rw[hgo _ h,h2];rfl
 have hyn:k8D ps lo hi i.toNat=true->f=false->(y,y,true)=k9F ps lo hi i2.toNat:=λh h2=>by rw[hgo _ h,h2];rfl
 clear hgo;have hT2:(L-i2).toNat<(L-i).toNat:=by omega
 refine Idx.mk _ yJ zL ?_;cbv;simp only[eL,a4];rcases Int.lt_or_le i2 L with yS|yS
 ·obtain⟨⟨x2,y2⟩,hd2,zY⟩:=k0V (f:=k1E) (ds:=ps) (i:=i2) Z.o Z.o
  have zY:q[i2.toNat]?=some [jz x2,jz y2]:=by rw[hq];exact zY
  have hre:k8D ps lo hi i.toNat=decide ((i=0\/x<=hi)/\lo<=x2):=by
   unfold k8D;rw[hd,show i.toNat+1=i2.toNat by omega,hd2];congr 1
   simp only[Option.some.injEq,forall_eq',eq_iff_iff];exact and_congr (or_congr Z.o Iff.rfl) Iff.rfl
  rw[hre] at hno hye hyn;clear hre hstep;simp only[decide_eq_true_eq,decide_eq_false_iff_not] at hno hye hyn
  repeat' (first
   | (refine Idx.mk _ (by rw[a4];omega) (by rw[a4];exact zY) ?_;cbv)
   | (refine Call.stepE (by rw[<- hP];exact hr) rfl ?_;cbv;simp only[n1];cbv)
   | (refine Call.stepE (by rw[<- hP];exact k3) rfl ?_;cbv)
   | (refine k1R.stepE (by rw[<- hP];exact k3) rfl ?_;cbv)
   | (refine Call.stepE (by rw[<- hP];exact k2) rfl ?_;cbv)
   | (refine k1R.stepE (by rw[<- hP];exact k2) rfl ?_;cbv)
   | (refine Call.stepE (by rw[<- hP];exact k1) rfl ?_;cbv)
   | (refine k1R.stepE (by rw[<- hP];exact k1) rfl ?_;cbv)
   | (split<;>rename_i h<;>(try (simp only[eL,a4] at h))<;>(try (simp only[hz,Z.a,k05,k04,k08,k03,k0M,reduceCtorEq] at h))<;>(try cbv)))
  all_goals (try simp only[a4])
  all_goals first
   | (exfalso;omega)
   | (refine hN (i2,a,b,f,x0,y0) _ _ ?hx ?hI hT2;(case hx=>exact Z.i);(case hI=>exact⟨by simp only;omega,by simp only;omega,hno Z.o⟩))
   | (refine hN (i2,l',h',f,x0,y0) _ _ ?hx ?hI hT2;(case hx=>exact Z.i);(case hI=>exact⟨by simp only;omega,by simp only;omega,by have:=hye Z.o Z.m;simp only[show f=true by assumption];exact this⟩))
   | (refine hN (i2,y,y,true,x0,y0) _ _ ?hx ?hI hT2;(case hx=>exact Z.i);(case hI=>exact⟨by simp only;omega,by simp only;omega,hyn Z.o Z.m⟩))
 ·have hre:k8D ps lo hi i.toNat=decide (i=0\/x<=hi):=by
   unfold k8D;rw[hd,List.getElem?_eq_none (show ps.length<=i.toNat+1 by omega)];congr 1
   simp only[Option.some.injEq,forall_eq',eq_iff_iff];refine⟨λh=>?_,λh=>⟨?_,λq hq=>by cases hq⟩⟩
   ·exact h.1.imp Z.o id
   ·exact h.imp Z.o id
  rw[hre] at hno hye hyn;clear hre hstep;simp only[decide_eq_true_eq,decide_eq_false_iff_not] at hno hye hyn
  repeat' (first
   | (refine Call.stepE (by rw[<- hP];exact hr) rfl ?_;cbv;simp only[n1];cbv)
   | (refine Call.stepE (by rw[<- hP];exact k3) rfl ?_;cbv)
   | (refine k1R.stepE (by rw[<- hP];exact k3) rfl ?_;cbv)
   | (refine Call.stepE (by rw[<- hP];exact k2) rfl ?_;cbv)
   | (refine k1R.stepE (by rw[<- hP];exact k2) rfl ?_;cbv)
   | (refine Call.stepE (by rw[<- hP];exact k1) rfl ?_;cbv)
   | (refine k1R.stepE (by rw[<- hP];exact k1) rfl ?_;cbv)
   | (split<;>rename_i h<;>(try (simp only[eL,a4] at h))<;>(try (simp only[hz,Z.a,k05,k04,k08,k03,k0M,reduceCtorEq] at h))<;>(try cbv)))
  all_goals (try simp only[a4])
  all_goals first
   | (exfalso;omega)
   | (refine hN (i2,a,b,f,x0,y0) _ _ ?hx ?hI hT2;(case hx=>exact Z.i);(case hI=>exact⟨by simp only;omega,by simp only;omega,hno Z.o⟩))
   | (refine hN (i2,l',h',f,x0,y0) _ _ ?hx ?hI hT2;(case hx=>exact Z.i);(case hI=>exact⟨by simp only;omega,by simp only;omega,by have:=hye Z.o Z.m;simp only[show f=true by assumption];exact this⟩))
   | (refine hN (i2,y,y,true,x0,y0) _ _ ?hx ?hI hT2;(case hx=>exact Z.i);(case hI=>exact⟨by simp only;omega,by simp only;omega,hyn Z.o Z.m⟩))
set_option maxRecDepth 100000
def kEM(ss:List Sg)(n:Int):List (Int×Int):=match ss[n.toNat]? with|some s=>s.ps|none=>[]
def kR4(s:Int×Int×Bool)(b:Int×Int×Bool):Int×Int×Bool:=if s.2.2 then (min s.1 b.1,max s.2.1 b.2.1,true) else (b.1,b.2.1,true)
def grw(ss:List Sg)(lo hi:Int)(s:Int×Int×Bool):Int->List Int->Int×Int×Bool
 | _,[]=>s
 | a,n::l=>grw ss lo hi (if max lo a<=min hi (a+k1O ss n) then kR4 s (k9F (kEM ss n) (max lo a-a) (min hi (a+k1O ss n)-a) (kEM ss n).length) else s) (a+k1O ss n) l
theorem kSE(ss:List Sg)(gs:List Gr)(es ds:List (List AV))(zU:es=ss.map k0Y)(yG:ds=gs.map k14)(hln:k2N ss)(hpc:∀s,s∈ss->k9Z s.ps)(from_:Int)(hf:0<=from_/\from_<=1099511627776)(m:List (List Int))(hw1:∀l,l∈m->l.length<=12/\∀n,n∈l->0<=n/\n.toNat<ss.length)(hm:m.length<=1000)(rs:List (List AV))(yL:rs=m.map rtC)
 (lo hi:Int) (v:Int×Int×Bool) (ev:v=m.foldl (λs l=>grw ss lo hi s (-from_) l) (0,0,false)) :
 k02 Tryz.prog 208 [.agg [from_,.list 13 rs],.agg [.list 3 es,.list 5 ds],.agg [lo,hi]] (· = .tuple [.agg [v.1,v.2.1],v.2.2]):=by
 have hu:Up0 es:=by rw[zU];exact k42 ss
 have hud:Up0 ds:=by rw[yG];exact k43 gs
 have hur:Up0 rs:=by rw[yL];exact k1D (f:=rtC) (λd=>rfl) m
 have hrl:rs.length=m.length:=by rw[yL];simp
 obtain⟨v1,v2,v3⟩:=v;refine Z.y Tryz.func208 λzA _ yT _ zF _ hw zC _ yM _ zI zE hz R hR P hP=>?_;cbv;obtain⟨L,eL,L0,Ln⟩:=Z.l zE rs;(refine Call.inl hw hP Tryz.func224 (by kernel_rfl) (by kernel_rfl) ?_);(conv=>arg 2;cbv);cbv;simp only[eL];obtain⟨a0,ea0⟩:∃a0,a0 = -from_:=⟨_,rfl⟩;have c0:yT .neg .i64 from_=a0:=by rw[yM,ea0];simp only[k08];rw[IntKind.wrap_i64];omega
 have n1:zF true=false:=by rw[zI];rfl
 have n2:zF false=true:=by rw[zI];rfl
 refine k1Q.dataN hw (S:=Int×Int×Int×Bool) (λs=>fr 42 [(2,.func (.func 225) [] [.ref 2 2 0 0,.ref 1 2 0 0,.ref 5 1 0 0,.ref 4 2 0 0]),(3,.ref 6 2 0 0),(4,.ref 7 2 0 0),(12,.list 13 rs),(13,L),(14,s.1)])
  (λs=>[.live 2 [[from_,.list 13 rs]],.live 2 [[.list 3 es,.list 5 ds]],.live 2 [[lo,hi]],.live 2 [[jz 0,jz 0]],.live 2 [[s.2.1,s.2.2.1]],.live 1 [[s.2.2.2]],.live 2 [[from_,.list 13 rs]],.live 2 [[.list 3 es,.list 5 ds]]])
  (λs=>0<=s.1/\s.1<=L/\s.2.1<=s.2.2.1/\(s.2.1,s.2.2.1,s.2.2.2)=(m.take s.1.toNat).foldl (λs l=>grw ss lo hi s (-from_) l) (0,0,false)) (λs=>(L-s.1).toNat) (0,0,0,false) (by(refine Z.n (id) ?_;cbv<;>exact Z.q)) ⟨Int.le_refl _,L0,Int.le_refl _,rfl⟩ ?_
 rintro⟨i,b1,b2,f⟩ zJ Q' hN hE hR'
 have zJ:0<=i/\i<=L/\b1<=b2/\(b1,b2,f)=(m.take i.toNat).foldl (λs l=>grw ss lo hi s (-from_) l) (0,0,false):=zJ;cbv;obtain⟨yJ,yZ,hb12,hacc⟩:=zJ;(split<;>rename_i hc<;>(try (simp only[hz,Z.a,k05,k04,k08,k03,k0M,reduceCtorEq] at hc))<;>(try cbv))
 rotate_left 1
 ·rw[List.take_of_length_le Z.o,<- ev] at hacc
  simp only[Prod.mk.injEq] at hacc;obtain⟨rfl,rfl,rfl⟩:=hacc;refine hE _ _ _ ?_;cbv;repeat' (refine And.intro ?_ ?_)
  all_goals exact Z.r hR
 obtain⟨l,hl⟩:∃l,m[i.toNat]?=some l:=⟨_,List.getElem?_eq_getElem (show i.toNat<m.length by omega)⟩;obtain⟨hl12,hlseg⟩:=hw1 l (List.mem_of_getElem? hl);have hri:rs[i.toNat]?=some (toR l).row:=by rw[yL,List.getElem?_map,hl];rfl
 obtain⟨xs,exs⟩:=Z.e (l.map k0K);have huxs:Up0 xs:=by rw[exs];exact k3K l
 have hxl:xs.length=l.length:=by rw[exs];simp
 have hpa:=kB8 l hl12;have hpa:k02 Tryz.prog 107 [.agg (toR l).row] (· = .list 1 xs):=by rw[exs];exact hpa
 obtain⟨i2,ei2⟩:=Z.e (i+1);have a4:zA .add .i64 i 1=i2:=by rw[zC,ei2];show IntKind.i64.wrap (i+1)=i+1;rw[IntKind.wrap_i64];omega
 have hT2:(L-i2).toNat<(L-i).toNat:=by omega
 have htk:m.take i2.toNat=m.take i.toNat++[l]:=by rw[ei2];exact k24 yJ hl
 obtain⟨tg,etg⟩:∃x,x=(m.take i2.toNat).foldl (λs l=>grw ss lo hi s (-from_) l) (0,0,false):=⟨_,rfl⟩;have hacc2:grw ss lo hi (b1,b2,f) a0 l=tg:=by rw[etg,htk,List.foldl_append,<- hacc,ea0];rfl
 obtain⟨row,erow⟩:=Z.e (toR l);rw[<- erow] at hri hpa;obtain⟨n,s0,s1,s2,s3,s4,s5,s6,s7,s8,s9,s10,s11⟩:=row;obtain⟨K,eK,K0,Kn⟩:=Z.l zE xs;refine Idx.mk _ yJ hri ?_;cbv;simp only[c0];refine Call.stepE (by rw[<- hP];exact hpa) rfl ?_;cbv;simp only[eK]
 refine k1Q.dataN hw (S:=Int×Int×Int×Int×Bool) (λs=>fr 42 [(2,.func (.func 225) [] [.ref 2 2 0 0,.ref 1 2 0 0,.ref 5 1 0 0,.ref 4 2 0 0]),(3,.ref 6 2 0 0),(4,.ref 7 2 0 0),(8,s.2.1),(12,.list 13 rs),(13,L),(14,i),(22,.list 1 xs),(23,K),(24,s.1)])
  (λs=>[.live 2 [[from_,.list 13 rs]],.live 2 [[.list 3 es,.list 5 ds]],.live 2 [[lo,hi]],.live 2 [[jz 0,jz 0]],.live 2 [[s.2.2.1,s.2.2.2.1]],.live 1 [[s.2.2.2.2]],.live 2 [[from_,.list 13 rs]],.live 2 [[.list 3 es,.list 5 ds]]])
  (λs=>0<=s.1/\s.1<=K /\ -1099511627776<=s.2.1/\s.2.1<=s.1*1099511627776/\s.2.2.1<=s.2.2.2.1/\grw ss lo hi (s.2.2.1,s.2.2.2.1,s.2.2.2.2) s.2.1 (l.drop s.1.toNat)=tg) (λs=>(K-s.1).toNat) (0,a0,b1,b2,f) (by(refine Z.n (id) ?_;cbv<;>exact Z.q)) ⟨Int.le_refl _,K0,by simp only;omega,by simp only;omega,hb12,hacc2⟩ ?_
 rintro⟨j,a,g1,g2,fd⟩ yV Q2 hN2 hE2 hR2
 have yV:0<=j/\j<=K /\ -1099511627776<=a/\a<=j*1099511627776/\g1<=g2/\grw ss lo hi (g1,g2,fd) a (l.drop j.toNat)=tg:=yV;cbv;obtain⟨hj0,hj1,hq0,hq1,hg12,hac⟩:=yV;(split<;>rename_i hd<;>(try (simp only[hz,Z.a,k05,k04,k08,k03,k0M,reduceCtorEq] at hd))<;>(try cbv))
 rotate_left 1
 ·refine hE2 _ _ _ ?_
  cbv;simp only[a4];rw[List.drop_of_length_le Z.o] at hac;refine hN (i2,g1,g2,fd) _ _ ?hx ?hI hT2
  case hx=>(refine Z.n (id) ?_;cbv<;>exact Z.q)
  case hI=>exact⟨by simp only;omega,by simp only;omega,hg12,by simp only;rw[<- etg,<- hac];rfl⟩
 obtain⟨c,hcj⟩:∃c,l[j.toNat]?=some c:=⟨_,List.getElem?_eq_getElem (show j.toNat<l.length by omega)⟩;have hxj:xs[j.toNat]?=some [jz c]:=by rw[exs,List.getElem?_map,hcj];rfl
 obtain⟨hcs0,hcs1⟩:=hlseg c (List.mem_of_getElem? hcj);obtain⟨⟨len,pps,nx⟩,hdc,zL⟩:=k0V (f:=k0Y) (ds:=ss) (i:=c) hcs0 hcs1;have hpo:k9Z pps:=hpc ⟨len,pps,nx⟩ (List.mem_of_getElem? hdc);obtain⟨pq,epq⟩:=Z.e (pps.map k1E);have hupq:Up0 pq:=by rw[epq];exact k7F pps
 obtain⟨xn,exn⟩:=Z.f (nx.map k0K);have zL:es[c.toNat]?=some [jz len,.list 2 pq,.list 1 xn]:=by rw[zU,epq,<- exn];exact zL
 have zE:k1O ss c=len:=by unfold k1O;rw[hdc]
 have hpsA:kEM ss c=pps:=by unfold kEM;rw[hdc]
 have hlb:=k5M hln c;rw[zE] at hlb;obtain⟨j2,ej2⟩:=Z.e (j+1);have a5:zA .add .i64 j 1=j2:=by rw[zC,ej2];show IntKind.i64.wrap (j+1)=j+1;rw[IntKind.wrap_i64];omega
 obtain⟨a2,ea2⟩:=Z.e (a+len);have a6:zA .add .i64 a len=a2:=by rw[zC,ea2];show IntKind.i64.wrap (a+len)=a+len;rw[IntKind.wrap_i64];omega
 have hT3:(K-j2).toNat<(K-j).toNat:=by omega
 obtain⟨x1,ex1⟩:=Z.f (max lo a);obtain⟨y1,ey1⟩:=Z.f (min hi a2);obtain⟨x2,ex2⟩:=Z.f (x1-a);obtain⟨y2,ey2⟩:=Z.f (y1-a);obtain⟨bv,ebv⟩:=Z.e (k9F pps x2 y2 pps.length);have hbl:=k9E pps x2 y2 pps.length;rw[<- ebv] at hbl
 have hdr:grw ss lo hi (g1,g2,fd) a (l.drop j.toNat)=grw ss lo hi (if x1<=y1 then kR4 (g1,g2,fd) bv else (g1,g2,fd)) a2 (l.drop j2.toNat):=by
  rw[k6O hcj,show j2.toNat=j.toNat+1 by omega];simp only[grw];rw[zE,hpsA,<- ea2,ex1,ey1,ex2,ey2,<- ebv]
 rw[hdr] at hac;clear hdr;obtain⟨p1,p2,p3⟩:=bv;simp only at hbl;obtain⟨h1,eh1⟩:=Z.f (min g1 p1);obtain⟨h2,eh2⟩:=Z.f (max g2 p2);have hu1:=kB5 hg12 hbl eh1 eh2;have hu2:=kB5 hbl hbl (show min p1 p1=p1 by omega) (show max p2 p2=p2 by omega);refine Idx.mk _ hj0 hxj ?_;cbv;(refine Call.inl hw hP Tryz.func225 (by kernel_rfl) (by kernel_rfl) ?_);(conv=>arg 2;cbv);cbv;refine Idx.mk _ hcs0 zL ?_;cbv;simp only[a6];by_cases hxy:x1<=y1
 ·rw[if_pos hxy] at hac
  have k1:=k9C ex1 ey1 hxy;have b7:zA .sub .i64 x1 a=x2:=(by rw[zC,k3I Z.o Z.o];exact ex2);have b8:zA .sub .i64 y1 a=y2:=(by rw[zC,k3I Z.o Z.o];exact ey2);have k2:=kFG pps (by have:=hpo.le;omega) pq epq x2 y2 Z.o (p1,p2,p3) ebv;have k2:k02 Tryz.prog 83 [.list 2 pq,.agg [x2,y2]] (· = .tuple [.agg [p1,p2],p3]):=k2
  (first|(refine Call.stepE (v:=?_) ?_ ?_ ?_;rotate_left 1;(focus (rw[<- hP];exact k1));(focus (exact rfl));cbv)|(refine k1R.stepE (v:=?_) ?_ ?_ ?_;rotate_left 1;(focus (rw[<- hP];exact k1));(focus (exact rfl));cbv))
  simp only[n1];cbv;refine Idx.mk _ hcs0 zL ?_;cbv;simp only[b7,b8]
  (first|(refine Call.stepE (v:=?_) ?_ ?_ ?_;rotate_left 1;(focus (rw[<- hP];exact k2));(focus (exact Up0.one hupq rfl));cbv)|(refine k1R.stepE (v:=?_) ?_ ?_ ?_;rotate_left 1;(focus (rw[<- hP];exact k2));(focus (exact Up0.one hupq rfl));cbv))
  cases fd with
  | false =>
    cbv;simp only[n2];cbv
    (first|(refine Call.stepE (v:=?_) ?_ ?_ ?_;rotate_left 1;(focus (rw[<- hP];exact hu2));(focus (exact rfl));cbv)|(refine k1R.stepE (v:=?_) ?_ ?_ ?_;rotate_left 1;(focus (rw[<- hP];exact hu2));(focus (exact rfl));cbv))
    refine Idx.mk _ hcs0 zL ?_;cbv;simp only[a5,a6];refine hN2 (j2,a2,p1,p2,true) _ _ ?hx ?hI hT3
    case hx=>(refine Z.n (id) ?_;cbv<;>exact Z.q)
    case hI=>exact⟨by simp only;omega,by simp only;omega,by simp only;omega,by simp only;omega,hbl,hac⟩
  | true =>
    cbv;simp only[n1];cbv
    (first|(refine Call.stepE (v:=?_) ?_ ?_ ?_;rotate_left 1;(focus (rw[<- hP];exact hu1));(focus (exact rfl));cbv)|(refine k1R.stepE (v:=?_) ?_ ?_ ?_;rotate_left 1;(focus (rw[<- hP];exact hu1));(focus (exact rfl));cbv))
    refine Idx.mk _ hcs0 zL ?_;cbv;simp only[a5,a6];refine hN2 (j2,a2,h1,h2,true) _ _ ?hx ?hI hT3
    case hx=>(refine Z.n (id) ?_;cbv<;>exact Z.q)
    case hI=>exact⟨by simp only;omega,by simp only;omega,by simp only;omega,by simp only;omega,by simp only;omega,by simp only[kR4,if_true,eh1,eh2] at hac;exact hac⟩
 ·rw[if_neg hxy] at hac
  have k1:=k6N ex1 ey1 (show y1<x1 by omega)
  (first|(refine Call.stepE (v:=?_) ?_ ?_ ?_;rotate_left 1;(focus (rw[<- hP];exact k1));(focus (exact rfl));cbv)|(refine k1R.stepE (v:=?_) ?_ ?_ ?_;rotate_left 1;(focus (rw[<- hP];exact k1));(focus (exact rfl));cbv))
  simp only[n2];cbv;refine Idx.mk _ hcs0 zL ?_;cbv;simp only[a5,a6];refine hN2 (j2,a2,g1,g2,fd) _ _ ?hx ?hI hT3
  case hx=>(refine Z.n (id) ?_;cbv<;>exact Z.q)
  case hI=>exact⟨by simp only;omega,by simp only;omega,by simp only;omega,by simp only;omega,hg12,hac⟩
set_option maxRecDepth 100000
abbrev Cy:=List (List Int)×Bool
def kFI(c:Cy):List AV:=[.list 1 (c.1.map k73),c.2]
theorem kUE(l:List Cy):Up0 (l.map kFI):=k1D (f:=kFI) (λc=>by simp only[kFI,k0Q,AV.upto,(kCR c.1).get];rfl) l
structure FewC(l:List Cy):Prop where
 n:l.length<=400
 l:∀c,c∈l->c.1.length<=50/\∀b,b∈c.1->b.length<=300
end Go.Proofs.YtlchlddijclhjaaGreat
