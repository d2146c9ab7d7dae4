/- Parts of the proofs. -/
import Derived.KernelRfl
import Derived.Test.YtlchlddijclhjaaGreatQ14
import Derived.Test.YtlchlddijclhjaaGreatQ15
import Derived.Test.YtlchlddijclhjaaGreatQ13
import Derived.Test.YtlchlddijclhjaaGreatQ8
import Derived.Test.YtlchlddijclhjaaGreatQ7
import Derived.Test.YtlchlddijclhjaaGreatQ9
import Derived.Test.YtlchlddijclhjaaGreatQZ
set_option linter.unusedVariables false
set_option linter.unusedSimpArgs false
set_option maxHeartbeats 4000000
namespace Go.Proofs.YtlchlddijclhjaaGreat
open Go Go.RowKit Go.Eng
set_option maxRecDepth 100000
def Et(o:Option (Nat×List (List AV)))(acc:List Int):Prop:=match o with|none=>acc=[]|some (k,w)=>w=acc.map Ac/\k=w.length/\Up0 w
theorem K8{α: Type}{l:List α}{i:Nat}{a: α}(h:l[i]?=some a):l.drop i=a::l.drop (i+1):=by
 obtain⟨h1,h2⟩:=List.getElem?_eq_some_iff.1 h;rw[List.drop_eq_getElem_cons h1,h2]
theorem WM:A9 Tryz.prog 232 [.nils] (· = .nils):=by
 (refine A9.ofY Tryz.func232 (by kernel_rfl) (by kernel_rfl) λw hw R hR=>?_);(subst hw);(conv=>arg 2;cbv);(generalize hP:Tryz.prog=P);cbv;exact Z.r hR
theorem WN(ss:List Sg)(gs:List Gr)(es ds:List (List AV))(zQ:es=ss.map Ah)(zY:ds=gs.map Ak)(hln:CS ss)(from_:Int)(hf:0<=from_/\from_<=1099511627776)(m:List (List Int))(hw1:∀l,l∈m->l.length<=12/\∀n,n∈l->0<=n/\n.toNat<ss.length)(hm:m.length<=1000)(rs:List (List AV))(yD:rs=m.map rtC)
 (g:Int) (hg:0<=g) (G:Gr) (hG:gs[g.toNat]?=some G) (hoff:0<=G.off/\G.off<=1099511627776) :
 A9 Tryz.prog 214 [.agg [from_,.list 13 rs],.agg [.list 3 es,.list 5 ds],g] (· = .list 1 ((FK ss G.seg G.off from_ m).map Ac)):=by
 have hu:Up0 es:=by rw[zQ];exact Bu ss
 have hud:Up0 ds:=by rw[zY];exact Bv gs
 have hur:Up0 rs:=by rw[yD];exact BM (f:=rtC) (λd=>rfl) m
 have hrl:rs.length=m.length:=by rw[yD];simp
 have hdl:ds.length=gs.length:=by rw[zY];simp
 have hgl:=(List.getElem?_eq_some_iff.1 hG).1;obtain⟨gid,gseg,goff,gacc,gsl⟩:=G;have hG:ds[g.toNat]?=some [.int .i64 gid,.int .i64 gseg,.int .i64 goff,.int .i64 gacc,.int .i64 gsl]:=by rw[zY,List.getElem?_map,hG];rfl
 simp only at hoff;obtain⟨v,ev⟩:=Z.e (FK ss gseg goff from_ m);show A9 Tryz.prog 214 [.agg [from_,.list 13 rs],.agg [.list 3 es,.list 5 ds],g] (· = .list 1 ((FK ss gseg goff from_ m).map Ac));rw[<- ev];have hpl:=K9 ss gseg goff from_ m λl hl=>(hw1 l hl).1;refine Z.y Tryz.func214 λzB _ yN _ _ zK hw zC _ yJ _ _ zH hz R hR P hP=>?_;cbv
 (obtain⟨J,eJ,J0,Jn⟩:∃L:Int,zK ds=L/\0<=L/\L.toNat=ds.length:=⟨(ds.length:Int),by rw[zH],Int.natCast_nonneg _,Int.toNat_natCast _⟩)
 (obtain⟨L,eL,L0,Ln⟩:∃L:Int,zK rs=L/\0<=L/\L.toNat=rs.length:=⟨(rs.length:Int),by rw[zH],Int.natCast_nonneg _,Int.toNat_natCast _⟩)
 repeat' (first|(exfalso;omega)|(split<;>rename_i h<;>(try (simp only[eJ] at h))<;>(try (simp only[hz,Z.a,AF,AC,AO,AP,AL,reduceCtorEq] at h))<;>(try cbv)))
 all_goals first|(exfalso;omega)|skip
 refine Idx.mk _ hg hG ?_;cbv;(refine Call.inl hw hP Tryz.func224 (by kernel_rfl) (by kernel_rfl) ?_);(conv=>arg 2;cbv);cbv;simp only[eL];obtain⟨a0,ea0⟩:∃a0,a0 = -from_:=⟨_,rfl⟩;have c0:yN .neg .i64 from_=a0:=by rw[yJ,ea0];simp only[AO];rw[IntKind.wrap_i64];omega
 refine Ae.dataN hw (S:=Int×Option (Nat×List (List AV))) (λs=>fr 42 [(2,.func (.func 230) [] [.ref 3 5 0 0,.ref 2 1 0 0]),(3,.ref 4 2 0 0),(4,.ref 5 2 0 0),(12,.list 13 rs),(13,L),(14,s.1)])
  (λs=>match s.2 with|none=>[.live 2 [[from_,.list 13 rs]],.live 2 [[.list 3 es,.list 5 ds]],.live 1 [[.nils]],.live 5 [[gid,gseg,goff,gacc,gsl]],.live 2 [[from_,.list 13 rs]],.live 2 [[.list 3 es,.list 5 ds]]]|some (k,w)=>[.live 2 [[from_,.list 13 rs]],.live 2 [[.list 3 es,.list 5 ds]],.live 1 [[.sl 6 1 0 k]],.live 5 [[gid,gseg,goff,gacc,gsl]],.live 2 [[from_,.list 13 rs]],.live 2 [[.list 3 es,.list 5 ds]],.live 1 w])
  (λs=>0<=s.1/\s.1<=L/\Et s.2 (BS ss gseg goff from_ (m.take s.1.toNat))) (λs=>(L-s.1).toNat) (0,none) (by(refine Z.n (id) ?_;cbv<;>exact Z.q)) ⟨Int.le_refl _,L0,rfl⟩ ?_
 rintro⟨i,(_|⟨k0,w0⟩)⟩ zJ Q' hN hE hR'
 ·have zJ:0<=i/\i<=L/\Et none (BS ss gseg goff from_ (m.take i.toNat)):=zJ
  cbv;obtain⟨zW,yZ,hrep⟩:=zJ;have hlen0:=K9 ss gseg goff from_ (m.take i.toNat) λx hx=>(hw1 x (List.mem_of_mem_take hx)).1;rw[List.length_take,Nat.min_eq_left Z.o] at hlen0;(split<;>rename_i hc<;>(try (simp only[hz,Z.a,AF,AC,AO,AP,AL,reduceCtorEq] at hc))<;>(try cbv))
  rotate_left 1
  ·rw[List.take_of_length_le Z.o] at hrep
   refine hE _ _ _ ?_;cbv;have hv0:v=[]:=(by rw[ev];unfold FK;rw[show BS ss gseg goff from_ m=[] from hrep];rfl);refine Call.stepE (WO hP) rfl ?_;cbv;refine Call.stepE (by rw[<- hP];exact WM) rfl ?_;cbv;exact⟨_,Vw.nil 1,hR _ (by rw[hv0];rfl)⟩
  obtain⟨l,hl⟩:∃l,m[i.toNat]?=some l:=⟨_,List.getElem?_eq_getElem (show i.toNat<m.length by omega)⟩;obtain⟨hl12,hlseg⟩:=hw1 l (List.mem_of_getElem? hl);have hri:rs[i.toNat]?=some (toR l).row:=(by rw[yD,List.getElem?_map,hl];rfl);obtain⟨xs,exs⟩:=Z.e (l.map Ac);have huxs:Up0 xs:=(by rw[exs];exact CG l);have hxl:xs.length=l.length:=(by rw[exs];simp);have hpa:=KA l hl12;have hpa:A9 Tryz.prog 107 [.agg (toR l).row] (· = .list 1 xs):=(by rw[exs];exact hpa);obtain⟨i2,ei2⟩:=Z.e (i+1);have a4:zB .add .i64 i 1=i2:=by rw[zC,ei2];show IntKind.i64.wrap (i+1)=i+1;rw[IntKind.wrap_i64];omega
  have hT2:(L-i2).toNat<(L-i).toNat:=(by omega);have htk:m.take i2.toNat=m.take i.toNat++[l]:=(by rw[ei2];exact Eu zW hl);have hacc2:BS ss gseg goff from_ (m.take i2.toNat)=BS ss gseg goff from_ (m.take i.toNat)++plc ss gseg goff (-from_) l:=(by rw[htk,QP]);obtain⟨row,erow⟩:=Z.e (toR l);rw[<- erow] at hri hpa;obtain⟨n,s0,s1,s2,s3,s4,s5,s6,s7,s8,s9,s10,s11⟩:=row
  (obtain⟨K,eK,K0,Kn⟩:∃L:Int,zK xs=L/\0<=L/\L.toNat=xs.length:=⟨(xs.length:Int),by rw[zH],Int.natCast_nonneg _,Int.toNat_natCast _⟩)
  refine Idx.mk _ zW hri ?_;cbv;simp only[c0];refine Call.stepE (by rw[<- hP];exact hpa) rfl ?_;cbv;simp only[eK]
  refine Ae.dataN hw (S:=Int×Int×Option (Nat×List (List AV))) (λs=>fr 42 [(2,.func (.func 230) [] [.ref 3 5 0 0,.ref 2 1 0 0]),(3,.ref 4 2 0 0),(4,.ref 5 2 0 0),(8,s.2.1),(12,.list 13 rs),(13,L),(14,i),(22,.list 1 xs),(23,K),(24,s.1)])
   (λs=>match s.2.2 with|none=>[.live 2 [[from_,.list 13 rs]],.live 2 [[.list 3 es,.list 5 ds]],.live 1 [[.nils]],.live 5 [[gid,gseg,goff,gacc,gsl]],.live 2 [[from_,.list 13 rs]],.live 2 [[.list 3 es,.list 5 ds]]]|some (k,w)=>[.live 2 [[from_,.list 13 rs]],.live 2 [[.list 3 es,.list 5 ds]],.live 1 [[.sl 6 1 0 k]],.live 5 [[gid,gseg,goff,gacc,gsl]],.live 2 [[from_,.list 13 rs]],.live 2 [[.list 3 es,.list 5 ds]],.live 1 w])
   (λs=>0<=s.1/\s.1<=K /\ -1099511627776<=s.2.1/\s.2.1<=s.1*1099511627776/\∃acc,Et s.2.2 acc/\acc.length<=12*i.toNat+s.1.toNat/\acc++plc ss gseg goff s.2.1 (l.drop s.1.toNat)=BS ss gseg goff from_ (m.take i2.toNat)) (λs=>(K-s.1).toNat) (0,a0,none) (by(refine Z.n (id) ?_;cbv<;>exact Z.q)) ⟨Int.le_refl _,K0,by simp only;omega,by simp only;omega,_,hrep,by simp only;omega,by simp only;rw[hacc2,ea0];rfl⟩ ?_
  rintro⟨j,a,(_|⟨k1,w1⟩)⟩ yV Q2 hN2 hE2 hR2
  ·have yV:0<=j/\j<=K /\ -1099511627776<=a/\a<=j*1099511627776/\∃acc,Et (none) acc/\acc.length<=12*i.toNat+j.toNat/\acc++plc ss gseg goff a (l.drop j.toNat)=BS ss gseg goff from_ (m.take i2.toNat):=yV
   cbv;obtain⟨hj0,hj1,hq0,hq1,acc,hrp,hal,hacc⟩:=yV;(split<;>rename_i hd<;>(try (simp only[hz,Z.a,AF,AC,AO,AP,AL,reduceCtorEq] at hd))<;>(try cbv))
   rotate_left 1
   ·refine hE2 _ _ _ ?_
    cbv;simp only[a4];have e:BS ss gseg goff from_ (m.take i2.toNat)=acc:=(by rw[<- hacc,List.drop_of_length_le Z.o];simp[plc]);refine hN (i2,none) _ _ ?hx ?hI hT2
    case hx=>(refine Z.n (id) ?_;cbv<;>exact Z.q)
    case hI=>exact⟨by simp only;omega,by simp only;omega,by rw[e];exact hrp⟩
   obtain⟨c,hcj⟩:∃c,l[j.toNat]?=some c:=⟨_,List.getElem?_eq_getElem (show j.toNat<l.length by omega)⟩;have hxj:xs[j.toNat]?=some [.int .i64 c]:=(by rw[exs,List.getElem?_map,hcj];rfl);obtain⟨hcs0,hcs1⟩:=hlseg c (List.mem_of_getElem? hcj);obtain⟨⟨len,pps,nx⟩,hdc,zL⟩:=BI (f:=Ah) (ds:=ss) (i:=c) hcs0 hcs1;obtain⟨pq,epq⟩:=Z.f (pps.map Ap);obtain⟨n1,en1⟩:=Z.f (nx.map Ac);have zL:es[c.toNat]?=some [.int .i64 len,.list 2 pq,.list 1 n1]:=(by rw[zQ,<- epq,<- en1];exact zL);have zH:BD ss c=len:=(by unfold BD;rw[hdc]);have hlb:=IV hln c;rw[zH] at hlb;obtain⟨j2,ej2⟩:=Z.e (j+1);have a5:zB .add .i64 j 1=j2:=by rw[zC,ej2];show IntKind.i64.wrap (j+1)=j+1;rw[IntKind.wrap_i64];omega
   obtain⟨a2,ea2⟩:=Z.e (a+len);have a6:zB .add .i64 a len=a2:=by rw[zC,ea2];show IntKind.i64.wrap (a+len)=a+len;rw[IntKind.wrap_i64];omega
   obtain⟨p2,ep2⟩:=Z.e (a+goff);have a7:zB .add .i64 a goff=p2:=by rw[zC,ep2];show IntKind.i64.wrap (a+goff)=a+goff;rw[IntKind.wrap_i64];omega
   have hT3:(K-j2).toNat<(K-j).toNat:=by omega
   have hdr:plc ss gseg goff a (l.drop j.toNat)=(if c=gseg then [p2] else [])++plc ss gseg goff a2 (l.drop j2.toNat):=by
    rw[K8 hcj,show j2.toNat=j.toNat+1 by omega,ep2,ea2,<- zH];rfl
   rw[hdr] at hacc;clear hdr;refine Idx.mk _ hj0 hxj ?_;cbv;(refine Call.inl hw hP Tryz.func230 (by kernel_rfl) (by kernel_rfl) ?_);(conv=>arg 2;cbv);cbv;(split<;>rename_i he<;>(try (simp only[hz,Z.a,AF,AC,AO,AP,AL,reduceCtorEq] at he))<;>(try cbv))
   ·simp only[a7]
    have hacc0:acc=[]:=hrp;refine Ob.mk Z.d ?_;cbv;refine Idx.mk _ hcs0 zL ?_;cbv;simp only[a5,a6];refine hN2 (j2,a2,some (1,[[.int .i64 p2]])) _ _ ?hx ?hI hT3
    case hx=>(refine Z.n (λj=>[0,1,2,3,4,5,6].getD j 0) ?_;cbv<;>exact Z.q)
    case hI=>exact⟨by simp only;omega,by simp only;omega,by simp only;omega,by simp only;omega,[p2],⟨rfl,rfl,⟨rfl⟩⟩,by simp only[List.length_cons,List.length_nil];omega,by rw[<- hacc,hacc0,if_pos he];simp⟩
   ·refine Idx.mk _ hcs0 zL ?_
    cbv;simp only[a5,a6];refine hN2 (j2,a2,none) _ _ ?hx ?hI hT3
    case hx=>(refine Z.n (id) ?_;cbv<;>exact Z.q)
    case hI=>exact⟨by simp only;omega,by simp only;omega,by simp only;omega,by simp only;omega,acc,hrp,by simp only;omega,by rw[<- hacc,if_neg he];simp⟩
  ·have yV:0<=j/\j<=K /\ -1099511627776<=a/\a<=j*1099511627776/\∃acc,Et (some (k1,w1)) acc/\acc.length<=12*i.toNat+j.toNat/\acc++plc ss gseg goff a (l.drop j.toNat)=BS ss gseg goff from_ (m.take i2.toNat):=yV
   cbv;obtain⟨hj0,hj1,hq0,hq1,acc,hrp,hal,hacc⟩:=yV;have huw1:Up0 w1:=hrp.2.2;have hk1:k1=w1.length:=hrp.2.1;have hwl1:w1.length=acc.length:=(by rw[hrp.1];simp);(split<;>rename_i hd<;>(try (simp only[hz,Z.a,AF,AC,AO,AP,AL,reduceCtorEq] at hd))<;>(try cbv))
   rotate_left 1
   ·refine hE2 _ _ _ ?_
    cbv;simp only[a4];have e:BS ss gseg goff from_ (m.take i2.toNat)=acc:=(by rw[<- hacc,List.drop_of_length_le Z.o];simp[plc]);refine hN (i2,some (k1,w1)) _ _ ?hx ?hI hT2
    case hx=>(refine Z.n (id) ?_;cbv<;>exact Z.q)
    case hI=>exact⟨by simp only;omega,by simp only;omega,by rw[e];exact hrp⟩
   obtain⟨c,hcj⟩:∃c,l[j.toNat]?=some c:=⟨_,List.getElem?_eq_getElem (show j.toNat<l.length by omega)⟩;have hxj:xs[j.toNat]?=some [.int .i64 c]:=(by rw[exs,List.getElem?_map,hcj];rfl);obtain⟨hcs0,hcs1⟩:=hlseg c (List.mem_of_getElem? hcj);obtain⟨⟨len,pps,nx⟩,hdc,zL⟩:=BI (f:=Ah) (ds:=ss) (i:=c) hcs0 hcs1;obtain⟨pq,epq⟩:=Z.f (pps.map Ap);obtain⟨n1,en1⟩:=Z.f (nx.map Ac);have zL:es[c.toNat]?=some [.int .i64 len,.list 2 pq,.list 1 n1]:=(by rw[zQ,<- epq,<- en1];exact zL);have zH:BD ss c=len:=(by unfold BD;rw[hdc]);have hlb:=IV hln c;rw[zH] at hlb;obtain⟨j2,ej2⟩:=Z.e (j+1);have a5:zB .add .i64 j 1=j2:=by rw[zC,ej2];show IntKind.i64.wrap (j+1)=j+1;rw[IntKind.wrap_i64];omega
   obtain⟨a2,ea2⟩:=Z.e (a+len);have a6:zB .add .i64 a len=a2:=by rw[zC,ea2];show IntKind.i64.wrap (a+len)=a+len;rw[IntKind.wrap_i64];omega
   obtain⟨p2,ep2⟩:=Z.e (a+goff);have a7:zB .add .i64 a goff=p2:=by rw[zC,ep2];show IntKind.i64.wrap (a+goff)=a+goff;rw[IntKind.wrap_i64];omega
   have hT3:(K-j2).toNat<(K-j).toNat:=by omega
   have hdr:plc ss gseg goff a (l.drop j.toNat)=(if c=gseg then [p2] else [])++plc ss gseg goff a2 (l.drop j2.toNat):=by
    rw[K8 hcj,show j2.toNat=j.toNat+1 by omega,ep2,ea2,<- zH];rfl
   rw[hdr] at hacc;clear hdr;refine Idx.mk _ hj0 hxj ?_;cbv;(refine Call.inl hw hP Tryz.func230 (by kernel_rfl) (by kernel_rfl) ?_);(conv=>arg 2;cbv);cbv;(split<;>rename_i he<;>(try (simp only[hz,Z.a,AF,AC,AO,AP,AL,reduceCtorEq] at he))<;>(try cbv))
   ·simp only[a7]
    obtain⟨w2,ew2⟩:∃x:List (List AV),x=w1++[[.int .i64 p2]]:=⟨_,rfl⟩;obtain⟨k2,ek2⟩:=Z.e (k1+1);have hwl2:w2.length=w1.length+1:=(by rw[ew2];simp);have hw2:w2=(acc++[p2]).map Ac:=(by rw[ew2,hrp.1];simp[Ac]);have huw2:Up0 w2:=(by rw[hw2];exact CG _);refine App.mk w2 k2 ew2 hk1 ek2 Z.o Z.o ?_;cbv;refine Idx.mk _ hcs0 zL ?_;cbv;simp only[a5,a6];refine hN2 (j2,a2,some (k2,w2)) _ _ ?hx ?hI hT3
    case hx=>(refine Z.n (λj=>[0,1,2,3,4,5,7].getD j 0) ?_;cbv<;>exact Z.q)
    case hI=>exact⟨by simp only;omega,by simp only;omega,by simp only;omega,by simp only;omega,acc++[p2],⟨hw2,by omega,huw2⟩,by simp only[List.length_append,List.length_cons,List.length_nil];omega,by rw[<- hacc,if_pos he];simp⟩
   ·refine Idx.mk _ hcs0 zL ?_
    cbv;simp only[a5,a6];refine hN2 (j2,a2,some (k1,w1)) _ _ ?hx ?hI hT3
    case hx=>(refine Z.n (id) ?_;cbv<;>exact Z.q)
    case hI=>exact⟨by simp only;omega,by simp only;omega,by simp only;omega,by simp only;omega,acc,hrp,by simp only;omega,by rw[<- hacc,if_neg he];simp⟩
 ·have zJ:0<=i/\i<=L/\Et (some (k0,w0)) (BS ss gseg goff from_ (m.take i.toNat)):=zJ
  cbv;obtain⟨zW,yZ,hrep⟩:=zJ;have huw:Up0 w0:=hrep.2.2;have hlen0:=K9 ss gseg goff from_ (m.take i.toNat) λx hx=>(hw1 x (List.mem_of_mem_take hx)).1;rw[List.length_take,Nat.min_eq_left Z.o] at hlen0;(split<;>rename_i hc<;>(try (simp only[hz,Z.a,AF,AC,AO,AP,AL,reduceCtorEq] at hc))<;>(try cbv))
  rotate_left 1
  ·rw[List.take_of_length_le Z.o] at hrep
   refine hE _ _ _ ?_;cbv;have hwl:w0.length=(BS ss gseg goff from_ m).length:=(by rw[hrep.1];simp);refine Call.of (WP hP (s:=6) (n:=k0) (ns:=BS ss gseg goff from_ m) rfl hrep.1 (by rw[hrep.2.1,hwl]) Z.o ?_);rintro ns' hp1 hp2;obtain⟨w2,ew2⟩:=Z.e (ns'.map Ac);rw[<- ew2];cbv;have hpl2:=hp1.length_eq;refine Call.of (WQ hP (s:=6) (n:=k0) (ns:=ns') rfl ew2 (by rw[hrep.2.1,hwl,hpl2]) Z.o hp2 ?_);rintro os zs h1 h2 h3;obtain⟨w3,ew3⟩:∃x,x=(os++zs).map Ac:=⟨_,rfl⟩;obtain⟨k3,ek3⟩:=Z.e os.length;rw[<- ew3,<- ek3];cbv;have huw3:Up0 w3:=(by rw[ew3];exact CG _);have hos:os=v:=(by rw[ev];exact WR h1 λx=>by rw[h2,hp1.mem_iff]);have e1:(w3.drop 0).take k3=v.map Ac:=(by rw[ew3,ek3,List.drop_zero,<- List.map_take,List.take_left,hos]);have hw3l:k3<=w3.length:=(by rw[ew3,ek3];simp);refine⟨_,Vw.sl (s:=6) (z:=1) (n:=k3) (i:=0) rfl huw3.get Z.o,hR _ ?_⟩;rw[e1]
  obtain⟨l,hl⟩:∃l,m[i.toNat]?=some l:=⟨_,List.getElem?_eq_getElem (show i.toNat<m.length by omega)⟩;obtain⟨hl12,hlseg⟩:=hw1 l (List.mem_of_getElem? hl);have hri:rs[i.toNat]?=some (toR l).row:=(by rw[yD,List.getElem?_map,hl];rfl);obtain⟨xs,exs⟩:=Z.e (l.map Ac);have huxs:Up0 xs:=(by rw[exs];exact CG l);have hxl:xs.length=l.length:=(by rw[exs];simp);have hpa:=KA l hl12;have hpa:A9 Tryz.prog 107 [.agg (toR l).row] (· = .list 1 xs):=(by rw[exs];exact hpa);obtain⟨i2,ei2⟩:=Z.e (i+1);have a4:zB .add .i64 i 1=i2:=by rw[zC,ei2];show IntKind.i64.wrap (i+1)=i+1;rw[IntKind.wrap_i64];omega
  have hT2:(L-i2).toNat<(L-i).toNat:=(by omega);have htk:m.take i2.toNat=m.take i.toNat++[l]:=(by rw[ei2];exact Eu zW hl);have hacc2:BS ss gseg goff from_ (m.take i2.toNat)=BS ss gseg goff from_ (m.take i.toNat)++plc ss gseg goff (-from_) l:=(by rw[htk,QP]);obtain⟨row,erow⟩:=Z.e (toR l);rw[<- erow] at hri hpa;obtain⟨n,s0,s1,s2,s3,s4,s5,s6,s7,s8,s9,s10,s11⟩:=row
  (obtain⟨K,eK,K0,Kn⟩:∃L:Int,zK xs=L/\0<=L/\L.toNat=xs.length:=⟨(xs.length:Int),by rw[zH],Int.natCast_nonneg _,Int.toNat_natCast _⟩)
  refine Idx.mk _ zW hri ?_;cbv;simp only[c0];refine Call.stepE (by rw[<- hP];exact hpa) rfl ?_;cbv;simp only[eK]
  refine Ae.dataN hw (S:=Int×Int×Option (Nat×List (List AV))) (λs=>fr 42 [(2,.func (.func 230) [] [.ref 3 5 0 0,.ref 2 1 0 0]),(3,.ref 4 2 0 0),(4,.ref 5 2 0 0),(8,s.2.1),(12,.list 13 rs),(13,L),(14,i),(22,.list 1 xs),(23,K),(24,s.1)])
   (λs=>match s.2.2 with|none=>[.live 2 [[from_,.list 13 rs]],.live 2 [[.list 3 es,.list 5 ds]],.live 1 [[.nils]],.live 5 [[gid,gseg,goff,gacc,gsl]],.live 2 [[from_,.list 13 rs]],.live 2 [[.list 3 es,.list 5 ds]]]|some (k,w)=>[.live 2 [[from_,.list 13 rs]],.live 2 [[.list 3 es,.list 5 ds]],.live 1 [[.sl 6 1 0 k]],.live 5 [[gid,gseg,goff,gacc,gsl]],.live 2 [[from_,.list 13 rs]],.live 2 [[.list 3 es,.list 5 ds]],.live 1 w])
   (λs=>0<=s.1/\s.1<=K /\ -1099511627776<=s.2.1/\s.2.1<=s.1*1099511627776/\∃acc,Et s.2.2 acc/\acc.length<=12*i.toNat+s.1.toNat/\acc++plc ss gseg goff s.2.1 (l.drop s.1.toNat)=BS ss gseg goff from_ (m.take i2.toNat)) (λs=>(K-s.1).toNat) (0,a0,some (k0,w0)) (by(refine Z.n (id) ?_;cbv<;>exact Z.q)) ⟨Int.le_refl _,K0,by simp only;omega,by simp only;omega,_,hrep,by simp only;omega,by simp only;rw[hacc2,ea0];rfl⟩ ?_
  rintro⟨j,a,(_|⟨k1,w1⟩)⟩ yV Q2 hN2 hE2 hR2
  ·have yV:0<=j/\j<=K /\ -1099511627776<=a/\a<=j*1099511627776/\∃acc,Et (none) acc/\acc.length<=12*i.toNat+j.toNat/\acc++plc ss gseg goff a (l.drop j.toNat)=BS ss gseg goff from_ (m.take i2.toNat):=yV
   cbv;obtain⟨hj0,hj1,hq0,hq1,acc,hrp,hal,hacc⟩:=yV;(split<;>rename_i hd<;>(try (simp only[hz,Z.a,AF,AC,AO,AP,AL,reduceCtorEq] at hd))<;>(try cbv))
   rotate_left 1
   ·refine hE2 _ _ _ ?_
    cbv;simp only[a4];have e:BS ss gseg goff from_ (m.take i2.toNat)=acc:=(by rw[<- hacc,List.drop_of_length_le Z.o];simp[plc]);refine hN (i2,none) _ _ ?hx ?hI hT2
    case hx=>(refine Z.n (id) ?_;cbv<;>exact Z.q)
    case hI=>exact⟨by simp only;omega,by simp only;omega,by rw[e];exact hrp⟩
   obtain⟨c,hcj⟩:∃c,l[j.toNat]?=some c:=⟨_,List.getElem?_eq_getElem (show j.toNat<l.length by omega)⟩;have hxj:xs[j.toNat]?=some [.int .i64 c]:=(by rw[exs,List.getElem?_map,hcj];rfl);obtain⟨hcs0,hcs1⟩:=hlseg c (List.mem_of_getElem? hcj);obtain⟨⟨len,pps,nx⟩,hdc,zL⟩:=BI (f:=Ah) (ds:=ss) (i:=c) hcs0 hcs1;obtain⟨pq,epq⟩:=Z.f (pps.map Ap);obtain⟨n1,en1⟩:=Z.f (nx.map Ac);have zL:es[c.toNat]?=some [.int .i64 len,.list 2 pq,.list 1 n1]:=(by rw[zQ,<- epq,<- en1];exact zL);have zH:BD ss c=len:=(by unfold BD;rw[hdc]);have hlb:=IV hln c;rw[zH] at hlb;obtain⟨j2,ej2⟩:=Z.e (j+1);have a5:zB .add .i64 j 1=j2:=by rw[zC,ej2];show IntKind.i64.wrap (j+1)=j+1;rw[IntKind.wrap_i64];omega
   obtain⟨a2,ea2⟩:=Z.e (a+len);have a6:zB .add .i64 a len=a2:=by rw[zC,ea2];show IntKind.i64.wrap (a+len)=a+len;rw[IntKind.wrap_i64];omega
   obtain⟨p2,ep2⟩:=Z.e (a+goff);have a7:zB .add .i64 a goff=p2:=by rw[zC,ep2];show IntKind.i64.wrap (a+goff)=a+goff;rw[IntKind.wrap_i64];omega
   have hT3:(K-j2).toNat<(K-j).toNat:=by omega
   have hdr:plc ss gseg goff a (l.drop j.toNat)=(if c=gseg then [p2] else [])++plc ss gseg goff a2 (l.drop j2.toNat):=by
    rw[K8 hcj,show j2.toNat=j.toNat+1 by omega,ep2,ea2,<- zH];rfl
   rw[hdr] at hacc;clear hdr;refine Idx.mk _ hj0 hxj ?_;cbv;(refine Call.inl hw hP Tryz.func230 (by kernel_rfl) (by kernel_rfl) ?_);(conv=>arg 2;cbv);cbv;(split<;>rename_i he<;>(try (simp only[hz,Z.a,AF,AC,AO,AP,AL,reduceCtorEq] at he))<;>(try cbv))
   ·simp only[a7]
    have hacc0:acc=[]:=hrp;refine Ob.mk Z.d ?_;cbv;refine Idx.mk _ hcs0 zL ?_;cbv;simp only[a5,a6];refine hN2 (j2,a2,some (1,[[.int .i64 p2]])) _ _ ?hx ?hI hT3
    case hx=>(refine Z.n (λj=>[0,1,2,3,4,5,6].getD j 0) ?_;cbv<;>exact Z.q)
    case hI=>exact⟨by simp only;omega,by simp only;omega,by simp only;omega,by simp only;omega,[p2],⟨rfl,rfl,⟨rfl⟩⟩,by simp only[List.length_cons,List.length_nil];omega,by rw[<- hacc,hacc0,if_pos he];simp⟩
   ·refine Idx.mk _ hcs0 zL ?_
    cbv;simp only[a5,a6];refine hN2 (j2,a2,none) _ _ ?hx ?hI hT3
    case hx=>(refine Z.n (id) ?_;cbv<;>exact Z.q)
    case hI=>exact⟨by simp only;omega,by simp only;omega,by simp only;omega,by simp only;omega,acc,hrp,by simp only;omega,by rw[<- hacc,if_neg he];simp⟩
  ·have yV:0<=j/\j<=K /\ -1099511627776<=a/\a<=j*1099511627776/\∃acc,Et (some (k1,w1)) acc/\acc.length<=12*i.toNat+j.toNat/\acc++plc ss gseg goff a (l.drop j.toNat)=BS ss gseg goff from_ (m.take i2.toNat):=yV
   cbv;obtain⟨hj0,hj1,hq0,hq1,acc,hrp,hal,hacc⟩:=yV;have huw1:Up0 w1:=hrp.2.2;have hk1:k1=w1.length:=hrp.2.1;have hwl1:w1.length=acc.length:=(by rw[hrp.1];simp);(split<;>rename_i hd<;>(try (simp only[hz,Z.a,AF,AC,AO,AP,AL,reduceCtorEq] at hd))<;>(try cbv))
   rotate_left 1
   ·refine hE2 _ _ _ ?_
    cbv;simp only[a4];have e:BS ss gseg goff from_ (m.take i2.toNat)=acc:=(by rw[<- hacc,List.drop_of_length_le Z.o];simp[plc]);refine hN (i2,some (k1,w1)) _ _ ?hx ?hI hT2
    case hx=>(refine Z.n (id) ?_;cbv<;>exact Z.q)
    case hI=>exact⟨by simp only;omega,by simp only;omega,by rw[e];exact hrp⟩
   obtain⟨c,hcj⟩:∃c,l[j.toNat]?=some c:=⟨_,List.getElem?_eq_getElem (show j.toNat<l.length by omega)⟩;have hxj:xs[j.toNat]?=some [.int .i64 c]:=(by rw[exs,List.getElem?_map,hcj];rfl);obtain⟨hcs0,hcs1⟩:=hlseg c (List.mem_of_getElem? hcj);obtain⟨⟨len,pps,nx⟩,hdc,zL⟩:=BI (f:=Ah) (ds:=ss) (i:=c) hcs0 hcs1;obtain⟨pq,epq⟩:=Z.f (pps.map Ap);obtain⟨n1,en1⟩:=Z.f (nx.map Ac);have zL:es[c.toNat]?=some [.int .i64 len,.list 2 pq,.list 1 n1]:=(by rw[zQ,<- epq,<- en1];exact zL);have zH:BD ss c=len:=(by unfold BD;rw[hdc]);have hlb:=IV hln c;rw[zH] at hlb;obtain⟨j2,ej2⟩:=Z.e (j+1);have a5:zB .add .i64 j 1=j2:=by rw[zC,ej2];show IntKind.i64.wrap (j+1)=j+1;rw[IntKind.wrap_i64];omega
   obtain⟨a2,ea2⟩:=Z.e (a+len);have a6:zB .add .i64 a len=a2:=by rw[zC,ea2];show IntKind.i64.wrap (a+len)=a+len;rw[IntKind.wrap_i64];omega
   obtain⟨p2,ep2⟩:=Z.e (a+goff);have a7:zB .add .i64 a goff=p2:=by rw[zC,ep2];show IntKind.i64.wrap (a+goff)=a+goff;rw[IntKind.wrap_i64];omega
   have hT3:(K-j2).toNat<(K-j).toNat:=by omega
   have hdr:plc ss gseg goff a (l.drop j.toNat)=(if c=gseg then [p2] else [])++plc ss gseg goff a2 (l.drop j2.toNat):=by
    rw[K8 hcj,show j2.toNat=j.toNat+1 by omega,ep2,ea2,<- zH];rfl
   rw[hdr] at hacc;clear hdr;refine Idx.mk _ hj0 hxj ?_;cbv;(refine Call.inl hw hP Tryz.func230 (by kernel_rfl) (by kernel_rfl) ?_);(conv=>arg 2;cbv);cbv;(split<;>rename_i he<;>(try (simp only[hz,Z.a,AF,AC,AO,AP,AL,reduceCtorEq] at he))<;>(try cbv))
   ·simp only[a7]
    obtain⟨w2,ew2⟩:∃x:List (List AV),x=w1++[[.int .i64 p2]]:=⟨_,rfl⟩;obtain⟨k2,ek2⟩:=Z.e (k1+1);have hwl2:w2.length=w1.length+1:=(by rw[ew2];simp);have hw2:w2=(acc++[p2]).map Ac:=(by rw[ew2,hrp.1];simp[Ac]);have huw2:Up0 w2:=(by rw[hw2];exact CG _);refine App.mk w2 k2 ew2 hk1 ek2 Z.o Z.o ?_;cbv;refine Idx.mk _ hcs0 zL ?_;cbv;simp only[a5,a6];refine hN2 (j2,a2,some (k2,w2)) _ _ ?hx ?hI hT3
    case hx=>(refine Z.n (λj=>[0,1,2,3,4,5,7].getD j 0) ?_;cbv<;>exact Z.q)
    case hI=>exact⟨by simp only;omega,by simp only;omega,by simp only;omega,by simp only;omega,acc++[p2],⟨hw2,by omega,huw2⟩,by simp only[List.length_append,List.length_cons,List.length_nil];omega,by rw[<- hacc,if_pos he];simp⟩
   ·refine Idx.mk _ hcs0 zL ?_
    cbv;simp only[a5,a6];refine hN2 (j2,a2,some (k1,w1)) _ _ ?hx ?hI hT3
    case hx=>(refine Z.n (id) ?_;cbv<;>exact Z.q)
    case hI=>exact⟨by simp only;omega,by simp only;omega,by simp only;omega,by simp only;omega,acc,hrp,by simp only;omega,by rw[<- hacc,if_neg he];simp⟩
def DI(ss:List Sg)(n:Int):List (Int×Int):=match ss[n.toNat]? with|some s=>s.ps|none=>[]
def LJ(s:Int×Int×Bool)(b:Int×Int×Bool):Int×Int×Bool:=if s.2.2 then (min s.1 b.1,max s.2.1 b.2.1,true) else (b.1,b.2.1,true)
def grw(ss:List Sg)(lo hi:Int)(s:Int×Int×Bool):Int->List Int->Int×Int×Bool
 | _,[]=>s
 | a,n::l=>grw ss lo hi (if max lo a<=min hi (a+BD ss n) then LJ s (Bl (DI ss n) (max lo a-a) (min hi (a+BD ss n)-a) (DI ss n).length) else s) (a+BD ss n) l
theorem WS(ss:List Sg)(gs:List Gr)(es ds:List (List AV))(zQ:es=ss.map Ah)(zY:ds=gs.map Ak)(hln:CS ss)(hpc:∀s,s∈ss->Ev s.ps)(from_:Int)(hf:0<=from_/\from_<=1099511627776)(m:List (List Int))(hw1:∀l,l∈m->l.length<=12/\∀n,n∈l->0<=n/\n.toNat<ss.length)(hm:m.length<=1000)(rs:List (List AV))(yD:rs=m.map rtC)
 (lo hi:Int) (v:Int×Int×Bool) (ev:v=m.foldl (λs l=>grw ss lo hi s (-from_) l) (0,0,false)) :
 A9 Tryz.prog 208 [.agg [from_,.list 13 rs],.agg [.list 3 es,.list 5 ds],.agg [lo,hi]] (· = .tuple [.agg [v.1,v.2.1],v.2.2]):=by
 have hu:Up0 es:=by rw[zQ];exact Bu ss
 have hud:Up0 ds:=by rw[zY];exact Bv gs
 have hur:Up0 rs:=by rw[yD];exact BM (f:=rtC) (λd=>rfl) m
 have hrl:rs.length=m.length:=by rw[yD];simp
 obtain⟨v1,v2,v3⟩:=v;refine Z.y Tryz.func208 λzB _ yN _ zF zK hw zC _ yJ _ zI zH hz R hR P hP=>?_;cbv
 (obtain⟨L,eL,L0,Ln⟩:∃L:Int,zK rs=L/\0<=L/\L.toNat=rs.length:=⟨(rs.length:Int),by rw[zH],Int.natCast_nonneg _,Int.toNat_natCast _⟩)
 (refine Call.inl hw hP Tryz.func224 (by kernel_rfl) (by kernel_rfl) ?_);(conv=>arg 2;cbv);cbv;simp only[eL];obtain⟨a0,ea0⟩:∃a0,a0 = -from_:=⟨_,rfl⟩;have c0:yN .neg .i64 from_=a0:=by rw[yJ,ea0];simp only[AO];rw[IntKind.wrap_i64];omega
 have n1:zF true=false:=by rw[zI];rfl
 have n2:zF false=true:=by rw[zI];rfl
 refine Ae.dataN hw (S:=Int×Int×Int×Bool) (λs=>fr 42 [(2,.func (.func 225) [] [.ref 2 2 0 0,.ref 1 2 0 0,.ref 5 1 0 0,.ref 4 2 0 0]),(3,.ref 6 2 0 0),(4,.ref 7 2 0 0),(12,.list 13 rs),(13,L),(14,s.1)])
  (λs=>[.live 2 [[from_,.list 13 rs]],.live 2 [[.list 3 es,.list 5 ds]],.live 2 [[lo,hi]],.live 2 [[(0:Int),(0:Int)]],.live 2 [[s.2.1,s.2.2.1]],.live 1 [[s.2.2.2]],.live 2 [[from_,.list 13 rs]],.live 2 [[.list 3 es,.list 5 ds]]])
  (λs=>0<=s.1/\s.1<=L/\s.2.1<=s.2.2.1/\(s.2.1,s.2.2.1,s.2.2.2)=(m.take s.1.toNat).foldl (λs l=>grw ss lo hi s (-from_) l) (0,0,false)) (λs=>(L-s.1).toNat) (0,0,0,false) (by(refine Z.n (id) ?_;cbv<;>exact Z.q)) ⟨Int.le_refl _,L0,Int.le_refl _,rfl⟩ ?_
 rintro⟨i,b1,b2,f⟩ zJ Q' hN hE hR'
 have zJ:0<=i/\i<=L/\b1<=b2/\(b1,b2,f)=(m.take i.toNat).foldl (λs l=>grw ss lo hi s (-from_) l) (0,0,false):=zJ;cbv;obtain⟨zW,yZ,hb12,hacc⟩:=zJ;(split<;>rename_i hc<;>(try (simp only[hz,Z.a,AF,AC,AO,AP,AL,reduceCtorEq] at hc))<;>(try cbv))
 rotate_left 1
 ·rw[List.take_of_length_le Z.o,<- ev] at hacc
  simp only[Prod.mk.injEq] at hacc;obtain⟨rfl,rfl,rfl⟩:=hacc;refine hE _ _ _ ?_;cbv;repeat' (refine And.intro ?_ ?_)
  all_goals exact Z.r hR
 obtain⟨l,hl⟩:∃l,m[i.toNat]?=some l:=⟨_,List.getElem?_eq_getElem (show i.toNat<m.length by omega)⟩;obtain⟨hl12,hlseg⟩:=hw1 l (List.mem_of_getElem? hl);have hri:rs[i.toNat]?=some (toR l).row:=by rw[yD,List.getElem?_map,hl];rfl
 obtain⟨xs,exs⟩:=Z.e (l.map Ac);have huxs:Up0 xs:=by rw[exs];exact CG l
 have hxl:xs.length=l.length:=by rw[exs];simp
 have hpa:=KA l hl12;have hpa:A9 Tryz.prog 107 [.agg (toR l).row] (· = .list 1 xs):=by rw[exs];exact hpa
 obtain⟨i2,ei2⟩:=Z.e (i+1);have a4:zB .add .i64 i 1=i2:=by rw[zC,ei2];show IntKind.i64.wrap (i+1)=i+1;rw[IntKind.wrap_i64];omega
 have hT2:(L-i2).toNat<(L-i).toNat:=by omega
 have htk:m.take i2.toNat=m.take i.toNat++[l]:=by rw[ei2];exact Eu zW hl
 obtain⟨tg,etg⟩:∃x,x=(m.take i2.toNat).foldl (λs l=>grw ss lo hi s (-from_) l) (0,0,false):=⟨_,rfl⟩;have hacc2:grw ss lo hi (b1,b2,f) a0 l=tg:=by rw[etg,htk,List.foldl_append,<- hacc,ea0];rfl
 obtain⟨row,erow⟩:=Z.e (toR l);rw[<- erow] at hri hpa;obtain⟨n,s0,s1,s2,s3,s4,s5,s6,s7,s8,s9,s10,s11⟩:=row
 (obtain⟨K,eK,K0,Kn⟩:∃L:Int,zK xs=L/\0<=L/\L.toNat=xs.length:=⟨(xs.length:Int),by rw[zH],Int.natCast_nonneg _,Int.toNat_natCast _⟩)
 refine Idx.mk _ zW hri ?_;cbv;simp only[c0];refine Call.stepE (by rw[<- hP];exact hpa) rfl ?_;cbv;simp only[eK]
 refine Ae.dataN hw (S:=Int×Int×Int×Int×Bool) (λs=>fr 42 [(2,.func (.func 225) [] [.ref 2 2 0 0,.ref 1 2 0 0,.ref 5 1 0 0,.ref 4 2 0 0]),(3,.ref 6 2 0 0),(4,.ref 7 2 0 0),(8,s.2.1),(12,.list 13 rs),(13,L),(14,i),(22,.list 1 xs),(23,K),(24,s.1)])
  (λs=>[.live 2 [[from_,.list 13 rs]],.live 2 [[.list 3 es,.list 5 ds]],.live 2 [[lo,hi]],.live 2 [[(0:Int),(0:Int)]],.live 2 [[s.2.2.1,s.2.2.2.1]],.live 1 [[s.2.2.2.2]],.live 2 [[from_,.list 13 rs]],.live 2 [[.list 3 es,.list 5 ds]]])
  (λs=>0<=s.1/\s.1<=K /\ -1099511627776<=s.2.1/\s.2.1<=s.1*1099511627776/\s.2.2.1<=s.2.2.2.1/\grw ss lo hi (s.2.2.1,s.2.2.2.1,s.2.2.2.2) s.2.1 (l.drop s.1.toNat)=tg) (λs=>(K-s.1).toNat) (0,a0,b1,b2,f) (by(refine Z.n (id) ?_;cbv<;>exact Z.q)) ⟨Int.le_refl _,K0,by simp only;omega,by simp only;omega,hb12,hacc2⟩ ?_
 rintro⟨j,a,g1,g2,fd⟩ yV Q2 hN2 hE2 hR2
 have yV:0<=j/\j<=K /\ -1099511627776<=a/\a<=j*1099511627776/\g1<=g2/\grw ss lo hi (g1,g2,fd) a (l.drop j.toNat)=tg:=yV;cbv;obtain⟨hj0,hj1,hq0,hq1,hg12,hac⟩:=yV;(split<;>rename_i hd<;>(try (simp only[hz,Z.a,AF,AC,AO,AP,AL,reduceCtorEq] at hd))<;>(try cbv))
 rotate_left 1
 ·refine hE2 _ _ _ ?_
  cbv;simp only[a4];rw[List.drop_of_length_le Z.o] at hac;refine hN (i2,g1,g2,fd) _ _ ?hx ?hI hT2
  case hx=>(refine Z.n (id) ?_;cbv<;>exact Z.q)
  case hI=>exact⟨by simp only;omega,by simp only;omega,hg12,by simp only;rw[<- etg,<- hac];rfl⟩
 obtain⟨c,hcj⟩:∃c,l[j.toNat]?=some c:=⟨_,List.getElem?_eq_getElem (show j.toNat<l.length by omega)⟩;have hxj:xs[j.toNat]?=some [.int .i64 c]:=by rw[exs,List.getElem?_map,hcj];rfl
 obtain⟨hcs0,hcs1⟩:=hlseg c (List.mem_of_getElem? hcj);obtain⟨⟨len,pps,nx⟩,hdc,zL⟩:=BI (f:=Ah) (ds:=ss) (i:=c) hcs0 hcs1;have hpo:Ev pps:=hpc ⟨len,pps,nx⟩ (List.mem_of_getElem? hdc);obtain⟨pq,epq⟩:=Z.e (pps.map Ap);have hupq:Up0 pq:=by rw[epq];exact E5 pps
 obtain⟨xn,exn⟩:=Z.f (nx.map Ac);have zL:es[c.toNat]?=some [.int .i64 len,.list 2 pq,.list 1 xn]:=by rw[zQ,epq,<- exn];exact zL
 have zH:BD ss c=len:=by unfold BD;rw[hdc]
 have hpsA:DI ss c=pps:=by unfold DI;rw[hdc]
 have hlb:=IV hln c;rw[zH] at hlb;obtain⟨j2,ej2⟩:=Z.e (j+1);have a5:zB .add .i64 j 1=j2:=by rw[zC,ej2];show IntKind.i64.wrap (j+1)=j+1;rw[IntKind.wrap_i64];omega
 obtain⟨a2,ea2⟩:=Z.e (a+len);have a6:zB .add .i64 a len=a2:=by rw[zC,ea2];show IntKind.i64.wrap (a+len)=a+len;rw[IntKind.wrap_i64];omega
 have hT3:(K-j2).toNat<(K-j).toNat:=by omega
 obtain⟨x1,ex1⟩:=Z.f (max lo a);obtain⟨y1,ey1⟩:=Z.f (min hi a2);obtain⟨x2,ex2⟩:=Z.f (x1-a);obtain⟨y2,ey2⟩:=Z.f (y1-a);obtain⟨bv,ebv⟩:=Z.e (Bl pps x2 y2 pps.length);have hbl:=JK pps x2 y2 pps.length;rw[<- ebv] at hbl
 have hdr:grw ss lo hi (g1,g2,fd) a (l.drop j.toNat)=grw ss lo hi (if x1<=y1 then LJ (g1,g2,fd) bv else (g1,g2,fd)) a2 (l.drop j2.toNat):=by
  rw[K8 hcj,show j2.toNat=j.toNat+1 by omega];simp only[grw];rw[zH,hpsA,<- ea2,ex1,ey1,ex2,ey2,<- ebv]
 rw[hdr] at hac;clear hdr;obtain⟨p1,p2,p3⟩:=bv;simp only at hbl;obtain⟨h1,eh1⟩:=Z.f (min g1 p1);obtain⟨h2,eh2⟩:=Z.f (max g2 p2);have hu1:=KC hg12 hbl eh1 eh2;have hu2:=KC hbl hbl (show min p1 p1=p1 by omega) (show max p2 p2=p2 by omega);refine Idx.mk _ hj0 hxj ?_;cbv;(refine Call.inl hw hP Tryz.func225 (by kernel_rfl) (by kernel_rfl) ?_);(conv=>arg 2;cbv);cbv;refine Idx.mk _ hcs0 zL ?_;cbv;simp only[a6];by_cases hxy:x1<=y1
 ·rw[if_pos hxy] at hac
  have k1:=JL ex1 ey1 hxy;have b7:zB .sub .i64 x1 a=x2:=(by rw[zC,Bj Z.o Z.o];exact ex2);have b8:zB .sub .i64 y1 a=y2:=(by rw[zC,Bj Z.o Z.o];exact ey2);have k2:=QQ pps (by have:=hpo.le;omega) pq epq x2 y2 Z.o (p1,p2,p3) ebv;have k2:A9 Tryz.prog 83 [.list 2 pq,.agg [x2,y2]] (· = .tuple [.agg [p1,p2],p3]):=k2
  (first|(refine Call.stepE (v:=?_) ?_ ?_ ?_;rotate_left 1;(focus (rw[<- hP];exact k1));(focus (exact rfl));cbv)|(refine AB.stepE (v:=?_) ?_ ?_ ?_;rotate_left 1;(focus (rw[<- hP];exact k1));(focus (exact rfl));cbv))
  simp only[n1];cbv;refine Idx.mk _ hcs0 zL ?_;cbv;simp only[b7,b8]
  (first|(refine Call.stepE (v:=?_) ?_ ?_ ?_;rotate_left 1;(focus (rw[<- hP];exact k2));(focus (exact Up0.one hupq rfl));cbv)|(refine AB.stepE (v:=?_) ?_ ?_ ?_;rotate_left 1;(focus (rw[<- hP];exact k2));(focus (exact Up0.one hupq rfl));cbv))
  cases fd with
  | false =>
    cbv;simp only[n2];cbv
    (first|(refine Call.stepE (v:=?_) ?_ ?_ ?_;rotate_left 1;(focus (rw[<- hP];exact hu2));(focus (exact rfl));cbv)|(refine AB.stepE (v:=?_) ?_ ?_ ?_;rotate_left 1;(focus (rw[<- hP];exact hu2));(focus (exact rfl));cbv))
    refine Idx.mk _ hcs0 zL ?_;cbv;simp only[a5,a6];refine hN2 (j2,a2,p1,p2,true) _ _ ?hx ?hI hT3
    case hx=>(refine Z.n (id) ?_;cbv<;>exact Z.q)
    case hI=>exact⟨by simp only;omega,by simp only;omega,by simp only;omega,by simp only;omega,hbl,hac⟩
  | true =>
    cbv;simp only[n1];cbv
    (first|(refine Call.stepE (v:=?_) ?_ ?_ ?_;rotate_left 1;(focus (rw[<- hP];exact hu1));(focus (exact rfl));cbv)|(refine AB.stepE (v:=?_) ?_ ?_ ?_;rotate_left 1;(focus (rw[<- hP];exact hu1));(focus (exact rfl));cbv))
    refine Idx.mk _ hcs0 zL ?_;cbv;simp only[a5,a6];refine hN2 (j2,a2,h1,h2,true) _ _ ?hx ?hI hT3
    case hx=>(refine Z.n (id) ?_;cbv<;>exact Z.q)
    case hI=>exact⟨by simp only;omega,by simp only;omega,by simp only;omega,by simp only;omega,by simp only;omega,by simp only[LJ,if_true,eh1,eh2] at hac;exact hac⟩
 ·rw[if_neg hxy] at hac
  have k1:=KD ex1 ey1 (show y1<x1 by omega)
  (first|(refine Call.stepE (v:=?_) ?_ ?_ ?_;rotate_left 1;(focus (rw[<- hP];exact k1));(focus (exact rfl));cbv)|(refine AB.stepE (v:=?_) ?_ ?_ ?_;rotate_left 1;(focus (rw[<- hP];exact k1));(focus (exact rfl));cbv))
  simp only[n2];cbv;refine Idx.mk _ hcs0 zL ?_;cbv;simp only[a5,a6];refine hN2 (j2,a2,g1,g2,fd) _ _ ?hx ?hI hT3
  case hx=>(refine Z.n (id) ?_;cbv<;>exact Z.q)
  case hI=>exact⟨by simp only;omega,by simp only;omega,by simp only;omega,by simp only;omega,hg12,hac⟩
def CX(ss:List Sg)(m:List (List Int))(n:Nv):Int×Int:=
 if n.on=false then (n.g0,n.g1)
 else if m.any (λl=>BU ss n.p.fr l == n.p.hi)=true then (n.g0,n.g1)
 else
  let v:=m.foldl (λs l=>grw ss n.p.lo n.p.hi s (-n.p.fr) l) (0,0,false)
  if v.2.2 then (v.1,v.2.1) else (n.g0,n.g1)
structure JM(ss:List Sg)(m:List (List Int))(n:Nv):Prop where
 fr:0<=n.p.fr/\n.p.fr<=1099511627776
 way:∀l,l∈m->l.length<=12/\∀n,n∈l->0<=n/\n.toNat<ss.length
 few:m.length<=16
 rs:n.p.rs=m.map rtC
theorem QR(l:List Int):∃n x0 x1 x2 x3 x4 x5 x6 x7 x8 x9 x10 x11,rtC l=[.int .i64 n,.int .i64 x0,.int .i64 x1,.int .i64 x2,.int .i64 x3,.int .i64 x4,.int .i64 x5,.int .i64 x6,.int .i64 x7,.int .i64 x8,.int .i64 x9,.int .i64 x10,.int .i64 x11]:=⟨_,_,_,_,_,_,_,_,_,_,_,_,_,rfl⟩
theorem WT(ss:List Sg)(gs:List Gr)(m:List (List Int))(n:Nv)(hu:NvU n)(zQ:n.es=ss.map Ah)(zY:n.ds=gs.map Ak)(hln:CS ss)(hpc:∀s,s∈ss->Ev s.ps)(hon:n.on=true->JM ss m n)(x y:Int)(e:(x,y)=CX ss m n) :
 AJ Tryz.prog 150 [.ref 0 55 0 0] [.live 55 [n.row]] (λr hp=>r = .agg [x,y]/\∃j,hp = .live 55 [n.row]::j):=by
 unfold CX at e;obtain⟨⟨c0,c1,c2,c3,c4,c5,c6,c7,c8,c9,c10,c11,c12,c13⟩,es,ds,cy,g0,g1,os,⟨kn0,la0,su0⟩,⟨kn1,la1,su1⟩,a0,b0,a1,b1,lo,hi,di,on,gr,⟨pl,ph,pe,fr,rs⟩,cl,o0,o1,s0,s1,sc,so,ra,ro,m0,m1,⟨wi,wt,wf⟩⟩:=n;simp only at e zQ zY hon;obtain⟨hue,hud,huo,hur⟩:=hu;simp only at hue hud huo hur
 cases on with
 | false =>
   rw[if_pos rfl] at e;simp only[Prod.mk.injEq] at e;obtain⟨rfl,rfl⟩:=e;refine Z.x Tryz.func150 λ_ _ _ _ zF _ _ _ _ _ _ zI _ hz P hP=>?_;cbv;have n1:zF false=true:=(by rw[zI];rfl);repeat' (first|(simp only[n1];cbv)|fail)
   exact⟨_,rfl⟩
 | true =>
   rw[if_neg Z.d] at e;obtain⟨hfr,hway,hfew,yD⟩:=hon rfl;simp only at hfr yD;refine Z.x Tryz.func150 λzB _ _ _ zF zK hw zC zA _ _ zI zH hz P hP=>?_;cbv;have n1:zF true=false:=(by rw[zI];rfl);repeat' (first|(simp only[n1];cbv)|fail)
   have hrl:rs.length=m.length:=by rw[yD];simp
   (obtain⟨L,eL,L0,Ln⟩:∃L:Int,zK rs=L/\0<=L/\L.toNat=rs.length:=⟨(rs.length:Int),by rw[zH],Int.natCast_nonneg _,Int.toNat_natCast _⟩)
   simp only[eL];obtain⟨v,ev⟩:=Z.e (m.foldl (λs l=>grw ss pl ph s (-fr) l) (0,0,false));have qg:=WS ss gs es ds zQ zY hln hpc fr hfr m hway Z.o rs yD pl ph v ev;rw[<- ev] at e
   refine Ae.dataN hw (S:=Int) (λi=>Go.Eng.fr 75 [(0,.ref 0 55 0 0),(2,.ref 1 2 0 0),(22,.list 13 rs),(23,L),(24,i)]) (λ_=>[.live 55 [c0::c1::c2::c3::c4::c5::c6::c7::c8::c9::c10::c11::c12::c13 :: .list 3 es :: .list 5 ds :: .bool false::cy::g0::g1 :: .list 1 os::kn0 :: .int .u16 la0::su0::[kn1,.int .u16 la1,su1,a0,b0,a1,b1,lo,hi,di,.bool true,gr,pl,ph,pe,fr,.list 13 rs,cl,o0,o1,s0,s1,sc,so,ra,ro,m0,m1,wi,wt,wf]],.live 2 [[(0:Int),(0:Int)]]])
    (λi=>0<=i/\i<=L/\(m.take i.toNat).any (λl=>BU ss fr l == ph)=false) (λi=>(L-i).toNat) 0 (by(refine Z.n (id) ?_;cbv<;>exact Z.q)) ⟨Int.le_refl _,L0,rfl⟩ ?_
   rintro i zJ Q' hN hE hR';have zJ:0<=i/\i<=L/\(m.take i.toNat).any (λl=>BU ss fr l == ph)=false:=zJ;obtain⟨zW,yZ,hany⟩:=zJ;by_cases yC:i<L
   ·obtain⟨l,hl⟩:∃l,m[i.toNat]?=some l:=⟨_,List.getElem?_eq_getElem (show i.toNat<m.length by omega)⟩
    obtain⟨i2,ei2⟩:=Z.e (i+1);have htk:m.take i2.toNat=m.take i.toNat++[l]:=(by rw[ei2];exact LK zW hl);have hlw:=hway l (List.mem_of_getElem? hl);obtain⟨y1,ey1⟩:=Z.e (BU ss fr l);have qe:=NJ ss gs es ds zQ zY hln fr hfr rs hur l hlw.1 hlw.2;rw[<- ey1] at qe;have zL:rs[i.toNat]?=some (rtC l):=(by rw[yD,List.getElem?_map,hl];rfl);obtain⟨z,x0,x1,x2,x3,x4,x5,x6,x7,x8,x9,x10,x11,erow⟩:=QR l;rw[erow] at zL qe;have hT:(L-i2).toNat<(L-i).toNat:=by omega
    have yK:y1≠ph->(m.take i2.toNat).any (λl=>BU ss fr l == ph)=false:=λh=>by
     rw[htk,List.any_append,hany,Bool.false_or];simp[<- ey1,h]
    have hyes:y1=ph->m.any (λl=>BU ss fr l == ph)=true:=λh=>by
     rw[List.any_eq_true];exact⟨l,List.mem_of_getElem? hl,by rw[<- ey1,h];simp⟩
    have a4:zB .add .i64 i 1=i2:=(by rw[zC,Ag Z.o Z.o,ei2]);have ck:=W.lt zA yC;clear ey1 htk hl hany erow qg ev yD;cbv;repeat' (first|(simp only[ck];cbv)|(refine Call.s hP qe ?_;cbv)|(refine AB.s hP qe ?_;cbv)|(refine Idx.mk _ zW zL ?_;cbv)|fail)
    by_cases hph:y1=ph
    ·have d1:=W.eq zA hph
     simp only[d1];cbv;rw[if_pos (hyes hph)] at e;simp only[Prod.mk.injEq] at e;obtain⟨rfl,rfl⟩:=e;refine hR' _ _ ?_;cbv;exact⟨_,rfl⟩
    ·have d1:=W.neq zA hph
     simp only[d1];cbv;simp only[a4];refine hN i2 _ _ ?hx ?hi hT
     case hx=>(refine Z.n (id) ?_;cbv<;>exact Z.q)
     case hi=>exact⟨by omega,by omega,yK hph⟩
   ·have ck:=W.nlt zA (show L<=i by omega)
    rw[List.take_of_length_le Z.o] at hany;rw[if_neg (by rw[hany];decide)] at e;clear ev hany yD;obtain⟨v1,v2,v3⟩:=v;cbv;simp only[ck];refine hE _ _ _ ?_;cbv;repeat' (first|(refine Call.s hP qg ?_;cbv)|(refine AB.s hP qg ?_;cbv)|fail)
    cases v3 with
    | true =>
      simp only[if_true,Prod.mk.injEq] at e;obtain⟨rfl,rfl⟩:=e;cbv;exact⟨_,rfl⟩
    | false =>
      simp only[Bool.false_eq_true,if_false,Prod.mk.injEq] at e;obtain⟨rfl,rfl⟩:=e;cbv;exact⟨_,rfl⟩
end Go.Proofs.YtlchlddijclhjaaGreat
namespace Go.Eng
open Go Go.RowKit
section
variable {P P0:Program} {g:FuncId} {args0 args:List AV} {v:AV} {z s:Nat} {es0 es1:List (List AV)} {a:AA} {dst:Option Nat}
theorem Call.o{h:A7}{K:AA->A7->Prop}(hP:P0=P)(H:AJ P0 g args0 [.live z es0] (λr hD=>r=v/\∃j,hD = .live z es1::j))(hu:Up0 es0)(hu1:Up0 es1)(hv:v.upto 0=true)(hs:h[s]?=some (.live z es0))(ha:Af 1 args0=true)(hr:BH (λ_=>s) args0=args)
 (hK:K (Aj a dst v) (h.set s (.live z es1))):Call P g args h (Cn K a dst):=by
 subst hP;refine Call.of (AJ.one H hu hs ha hr ?_);rintro r hD ⟨rfl,j,rfl⟩;exact⟨hv,es1,j,rfl,hu1,hK⟩
theorem AB.o{h0 news:A7}{K:AA->A7->Prop}(hP:P0=P)(H:AJ P0 g args0 [.live z es0] (λr hD=>r=v/\∃j,hD = .live z es0::j))(hu:Up0 es0)(hv:v.upto 0=true)(hs:h0[s]?=some (.live z es0))(ha:Af 1 args0=true)(hr:BH (λ_=>s) args0=args)
 (hK:K (Aj a dst v) news):AB P g args h0 (Gz K a dst news):=by
 subst hP;refine⟨⟨v,⟨H.1,λC vs hc R hvs=>?_⟩,hK⟩⟩
 have:=(AJ.one (h:=C.h) (K:=λx h'=>x=v/\h'=C.h) H hu (hc s z es0 hs) ha hr (by
  rintro r hD ⟨rfl,j,rfl⟩;refine⟨hv,es0,j,rfl,hu,rfl,?_⟩;have h1:=hc s z es0 hs;obtain⟨h2,h3⟩:=List.getElem?_eq_some_iff.1 h1
  conv=>rhs;rw[<- List.set_getElem_self h2]
  rw[h3])).2 C vs rfl R hvs
 exact this.mono λe w' ⟨u,x,D,h1,⟨h2,h3⟩,h4,h5,h6,h7,_⟩=>⟨u,D,h1,h3,h4,h5,h2▸h6,h7⟩
end
end Go.Eng
namespace Go.Proofs.YtlchlddijclhjaaGreat
open Go Go.RowKit Go.Eng
set_option maxRecDepth 100000
def LM(ss:List Sg)(mm:List (List Int))(n:Nv)(m:Ml):Bool×Int×Int:=if m.has 4 then (true,n.lo+(m.val 4-(CX ss mm n).2-n.c.c5),n.hi+(m.val 4-(CX ss mm n).1+n.c.c5)) else (false,0,0)
theorem WU(ss:List Sg)(gs:List Gr)(mm:List (List Int))(n:Nv)(hu:NvU n)(zQ:n.es=ss.map Ah)(zY:n.ds=gs.map Ak)(hln:CS ss)(hpc:∀s,s∈ss->Ev s.ps)(hon:n.on=true->JM ss mm n)
 (m:Ml) (h5:0<=n.c.c5/\n.c.c5<=1048576) (hv:m.has 4=true -> -2147483648<=m.val 4/\m.val 4<=2147483648) (hbe:(CX ss mm n).1<=(CX ss mm n).2 /\ -1048576<=(CX ss mm n).1/\(CX ss mm n).2<=1048576)
 (hsp:n.lo<=n.hi/\I62 n.lo/\I62 n.hi) (f:Bool) (l h:Int) (e:(f,l,h)=LM ss mm n m) :
 AJ Tryz.prog 94 [.ref 0 55 0 0,.agg m.row] [.live 55 [n.row]] (λr hp=>r = .agg [f,l,h]/\∃j,hp = .live 55 [n.row]::j):=by
 obtain⟨x,ex⟩:=Z.e (m.val 4);obtain⟨has,eh⟩:=Z.e (m.has 4);have q1:=G_ m 4 (.inr (.inr (.inr (.inl rfl)))) x has ex eh;obtain⟨y1,ey1⟩:∃x,x=(CX ss mm n).1:=⟨_,rfl⟩;obtain⟨y2,ey2⟩:∃x,x=(CX ss mm n).2:=⟨_,rfl⟩;have q2:=WT ss gs mm n hu zQ zY hln hpc hon y1 y2 (by rw[ey1,ey2]);unfold LM at e;rw[<- ex,<- eh,<- ey1,<- ey2] at e;rw[<- ex,<- eh] at hv;rw[<- ey1,<- ey2] at hbe;have hur:=hu.row;obtain⟨⟨c0,c1,c2,c3,c4,c5,c6,c7,c8,c9,c10,c11,c12,c13⟩,es,ds,cy,g0,g1,os,⟨kn0,la0,su0⟩,⟨kn1,la1,su1⟩,a0,b0,a1,b1,lo,hi,di,on,gr,⟨pl,ph,pe,fr,rs⟩,cl,o0,o1,s0,s1,sc,so,ra,ro,m0,m1,⟨wi,wt,wf⟩⟩:=n;simp only at h5 e hsp;clear ex eh ey1 ey2 hpc hln zQ zY hon hu;obtain⟨p1,p2,p3,p4,p5,x1,x2,x3,x4,x5,bad,stale,twice,beyond⟩:=m
 cases has with
 | false =>
   simp only[Bool.false_eq_true,if_false,Prod.mk.injEq] at e;obtain⟨rfl,rfl,rfl⟩:=e;clear hv q2 hur;refine Z.x Tryz.func94 λ_ _ _ _ zF _ _ _ _ _ _ zI _ hz P hP=>?_;cbv;have n1:zF false=true:=(by rw[zI];rfl);repeat' (first|(simp only[n1];cbv)|(refine Call.s hP q1 ?_;cbv)|(refine AB.s hP q1 ?_;cbv)|fail)
   exact⟨_,rfl⟩
 | true =>
   simp only[if_true,Prod.mk.injEq] at e;obtain⟨rfl,e1,e2⟩:=e;have hv:=hv rfl;obtain⟨y,ey⟩:=Z.f (x-y2-c5);obtain⟨z,ez⟩:=Z.f (x-y1+c5);have q3:=WV c0 c1 c2 c3 c4 c5 c6 c7 c8 c9 c10 c11 c12 c13 x y1 y2 y z h5 hv hbe.1 hbe.2.1 hbe.2.2 ey ez;have q4:=WW (a:=lo) (b:=hi) (c:=y) (d:=z) (l:=l) (h:=h) hsp.1 Z.o (by rw[e1,ey]) (by rw[e2,ez]) hsp.2.1 hsp.2.2 ⟨by omega,by omega⟩ ⟨by omega,by omega⟩;clear e1 e2 hv ey ez h5 hsp hbe;refine Z.x Tryz.func94 λ_ _ _ _ zF _ _ _ _ _ _ zI _ _ P hP=>?_;cbv;have n1:zF true=false:=(by rw[zI];rfl);repeat' (first|(simp only[n1];cbv)|(refine Call.s hP q1 ?_;cbv)|(refine AB.s hP q1 ?_;cbv)|(refine Call.s hP q3 ?_;cbv)|(refine AB.s hP q3 ?_;cbv)|(refine Call.s hP q4 ?_;cbv)|(refine AB.s hP q4 ?_;cbv)|fail)
   refine AB.o hP q2 hur rfl rfl rfl rfl ?_;repeat' (first|(refine Call.s hP q3 ?_;cbv)|(refine AB.s hP q3 ?_;cbv)|(refine Call.s hP q4 ?_;cbv)|(refine AB.s hP q4 ?_;cbv)|fail)
   all_goals exact⟨_,rfl⟩
def E9(f:Bool)(a b:Int):List (Int×Int):=match f with|true=>[(a,b)]|false=>[]
theorem WX(f0 f1 f2:Bool)(a0 b0 a1 b1 a2 b2:Int):A9 Tryz.prog 141 [.agg [f0,a0,b0,f1,a1,b1,f2,a2,b2]] (λr=>∃es,r = .list 2 es/\es=(E9 f0 a0 b0++E9 f1 a1 b1++E9 f2 a2 b2).map (λp=>[.int .i64 p.1,.int .i64 p.2])):=by
 cases f0<;>cases f1<;>cases f2
 all_goals
  refine Z.y Tryz.func141 λzB _ _ _ _ _ hw zC _ _ _ _ _ hz R hR P hP=>?_;cbv;have e01:zB .add .i64 0 1=1:=(by rw[zC];rfl);have e12:zB .add .i64 1 1=2:=(by rw[zC];rfl);have e23:zB .add .i64 2 1=3:=(by rw[zC];rfl);(refine Ae.rounds hw 4 ?_;cbv)
  repeat' (first
   | (simp only[e01,e12,e23];cbv)
   | (simp only[e01,e12,e23])
   | (refine InN.mk Z.d Z.d ?_;cbv)
   | (refine Ob.mk Z.d ?_;cbv)
   | (refine App.mk _ _ rfl rfl rfl Z.d Z.d ?_;cbv)
   | (split<;>rename_i h<;>(try (simp only[e01,e12,e23] at h))<;>(try (simp only[hz,Z.a,AF,AC,AO,AP,AL,reduceCtorEq] at h))<;>(try cbv)))
  all_goals first
   | (exfalso;omega)
   | (refine⟨_,Vw.sl rfl rfl (Nat.le_refl _),?_⟩;exact hR _ ⟨_,rfl,rfl⟩)
   | (refine⟨_,Vw.nil 2,?_⟩;exact hR _ ⟨_,rfl,rfl⟩)
theorem WY(ps:List (Int×Int))(es:List (List AV))(zQ:es=Bz ps)(hlen':ps.length<=3):A9 Tryz.prog 142 [.list 2 es] (λr=>∃lo hi ok ag,r = .tuple [sp2 lo hi,.bool ok,.bool ag]/\((H5 (aOf ps) (bOf ps) ps.length lo hi true/\ok=true/\ag=true)\/(∃l h,H5 (aOf ps) (bOf ps) ps.length l h false/\ag=false/\(ps.length<3/\lo=0/\hi=0/\ok=false\/3<=ps.length/\Bq (aOf ps) (bOf ps) (BA ps.length ps.length 0) lo hi ok)))):=by
 have hu:Up0 es:=⟨by rw[zQ];have:=KE ps;simpa[AV.upto] using this⟩;have hel:es.length=ps.length:=by rw[zQ];exact JN ps
 refine Z.y Tryz.func142 λ_ _ _ _ _ zK _ _ _ _ _ _ zH hz R hR P hP=>?_;cbv
 (obtain⟨L,eL,L0,Ln⟩:∃L:Int,zK es=L/\0<=L/\L.toNat=es.length:=⟨(es.length:Int),by rw[zH],Int.natCast_nonneg _,Int.toNat_natCast _⟩)
 refine Call.step (by rw[<- hP];exact WZ ps es zQ Z.o) (by exact Up0.one hu rfl) ?_;rintro r ⟨lo,hi,f,rfl,hcom⟩;cbv;(split<;>rename_i h1<;>(try (simp only[hz,Z.a,AF,AC,AO,AP,AL,reduceCtorEq] at h1))<;>(try cbv))
 ·exact⟨_,Vw.same rfl,hR _ ⟨_,_,_,_,rfl,.inl ⟨hcom,rfl,rfl⟩⟩⟩
 (split<;>rename_i h2<;>(try (simp only[eL] at h2))<;>(try (simp only[hz,Z.a,AF,AC,AO,AP,AL,reduceCtorEq] at h2))<;>(try cbv))
 ·exact⟨_,Vw.same rfl,hR _ ⟨_,_,_,_,rfl,.inr ⟨_,_,hcom,rfl,.inl ⟨by omega,rfl,rfl,rfl⟩⟩⟩⟩
 refine Call.step (by rw[<- hP];exact Wd ps es zQ Z.o) (by exact Up0.one hu rfl) ?_;rintro r ⟨l,h,g,rfl,htwo⟩;cbv;exact⟨_,Vw.same rfl,hR _ ⟨_,_,_,_,rfl,.inr ⟨_,_,hcom,rfl,.inr ⟨by omega,htwo⟩⟩⟩⟩
theorem We(a b:Int)(ha:I64 a)(hb:I64 b):A9 Tryz.prog 64 [sp2 a b] (· = .int .i64 ((a+b)/2)):=by
 refine Z.y Tryz.func64 λ_ _ _ _ _ _ _ _ _ _ _ _ _ hz R hR P hP=>?_;cbv;refine Call.step (by rw[<- hP];exact QS a b ha hb) rfl ?_;rintro r rfl;obtain⟨m,em⟩:∃x,(a+b)/2=x:=⟨_,rfl⟩;rw[em] at hR ⊢;cbv;exact Z.r hR
def KF(a b c d:Int):Int:=if (c+d)/2<0 then (if b<c then 1 else -1) else (if d<a then 1 else -1)
theorem QT(a b c d:Int)(hc:I64 c)(hd:I64 d):A9 Tryz.prog 145 [sp2 a b,sp2 c d] (· = .int .i64 (KF a b c d)):=by
 refine Z.y Tryz.func145 λ_ _ _ _ _ _ _ _ _ _ _ _ _ hz R hR P hP=>?_;cbv;obtain⟨m,em⟩:∃x,(c+d)/2=x:=⟨_,rfl⟩;have hm:=We c d hc hd;rw[em] at hm;refine Call.stepE (by rw[<- hP];exact hm) rfl ?_;cbv;repeat' (split<;>rename_i h<;>(try (simp only[hz,Z.a,AF,AC,AO,AP,AL,reduceCtorEq] at h))<;>(try cbv))
 all_goals
  refine⟨_,Vw.same rfl,hR _ (congrArg (AV.int .i64) ?_)⟩;unfold KF;rw[em];repeat' split
  all_goals omega
def meetB(t0 t1 a b:Int):Bool:=decide (max t0 a<=min t1 b)
theorem QU(t0 t1 a b:Int):A9 Tryz.prog 147 [sp2 t0 t1,sp2 a b] (λr=>∃l h,r = .tuple [sp2 l h,.bool (meetB t0 t1 a b)]):=by
 refine(LP t0 t1 a b).mono ?_;rintro r ⟨l,h,o,rfl,h5,_⟩;refine⟨l,h,?_⟩
 have:o=meetB t0 t1 a b:=by
  rw[Bool.eq_iff_iff,h5];simp[meetB]
 rw[this]
theorem Wh(t0 t1 a0 b0 a1 b1:Int):A9 Tryz.prog 144 [sp2 t0 t1,.list 2 [[a0,b0],[a1,b1]]] (· = .list 1 ((if meetB t0 t1 a0 b0 then [] else [[.int .i64 0]])++(if meetB t0 t1 a1 b1 then [] else [[.int .i64 1]]))):=by
 refine Z.y Tryz.func144 λzB _ _ _ _ zK hw zC _ _ _ _ zH hz R hR P hP=>?_;cbv;have eL:zK [[AV.int .i64 a0,.int .i64 b0],[.int .i64 a1,.int .i64 b1]]=2:=by rw[zH];rfl
 have e01:zB .add .i64 0 1=1:=by rw[zC];rfl
 have e12:zB .add .i64 1 1=2:=by rw[zC];rfl
 simp only[eL];(refine Ae.rounds hw 3 ?_;cbv);have m0:A9 P 147 [sp2 t0 t1,sp2 a0 b0] (λr=>∃l h,r = .tuple [sp2 l h,.bool (meetB t0 t1 a0 b0)]):=by rw[<- hP];exact QU t0 t1 a0 b0
 have m1:A9 P 147 [sp2 t0 t1,sp2 a1 b1] (λr=>∃l h,r = .tuple [sp2 l h,.bool (meetB t0 t1 a1 b1)]):=by rw[<- hP];exact QU t0 t1 a1 b1
 generalize meetB t0 t1 a0 b0=o0 at *;generalize meetB t0 t1 a1 b1=o1 at *
 repeat' (first
  | (exfalso;omega)
  | (simp only[e01,e12];cbv)
  | (simp only[e01,e12])
  | (refine Idx.mk [.int .i64 a0,.int .i64 b0] Z.d rfl ?_;cbv)
  | (refine Idx.mk [.int .i64 a1,.int .i64 b1] Z.d rfl ?_;cbv)
  | (refine Call.step m0 rfl ?_;rintro r ⟨l0,h0,rfl⟩;cbv)
  | (refine Call.step m1 rfl ?_;rintro r ⟨l1,h1,rfl⟩;cbv)
  | (refine Ob.mk Z.d ?_;cbv)
  | (refine App.mk _ _ rfl rfl rfl Z.d Z.d ?_;cbv)
  | (split<;>rename_i h<;>(try (simp only[e01,e12] at h))<;>(try (simp only[hz,Z.a,AF,AC,AO,AP,AL,reduceCtorEq] at h))<;>(try cbv)))
 all_goals first
  | (refine⟨_,Vw.sl rfl rfl (Nat.le_refl _),?_⟩;apply hR;simp_all)
  | (refine⟨_,Vw.nil 1,?_⟩;apply hR;simp_all)
def IW(a b c d:Int):Int×Int×Bool:=if max a c<=min b d then (max a c,min b d,true) else (0,0,false)
theorem NK(a b c d l h:Int)(o:Bool)(e:IW a b c d=(l,h,o)):A9 Tryz.prog 147 [sp2 a b,sp2 c d] (· = .tuple [sp2 l h,o]):=by
 refine(LP a b c d).mono ?_;rintro r ⟨l',h',o',rfl,h5,h6,h7⟩;unfold IW at e;split at e
 ·rename_i hc
  simp only[Prod.mk.injEq] at e;obtain⟨rfl,rfl,rfl⟩:=e;obtain rfl:o'=true:=h5.2 ⟨rfl,rfl,hc⟩;obtain⟨rfl,rfl⟩:=h6 rfl;rfl
 ·rename_i hc
  simp only[Prod.mk.injEq] at e;obtain⟨rfl,rfl,rfl⟩:=e
  have:o'=false:=by
   cases o' with
   | false=>rfl
   | true=>exact absurd (h5.1 rfl).2.2 hc
  subst this;obtain⟨rfl,rfl⟩:=h7 rfl;rfl
def GJ(s:Int×Int×Bool)(a b:Int):Int×Int×Bool:=if max s.1 a<=min s.2.1 b then (max s.1 a,min s.2.1 b,s.2.2) else (s.1,s.2.1,true)
def Fa(ok:Bool)(tl th:Int)(n:Int)(p0 p1:Int):Int×Int×Bool:=if ok=true then GJ (p0,p1,false) tl th else (p0,p1,decide (0<n))
def Fe(f:Bool)(a b:Int)(s:Int×Int×Bool):Int×Int×Bool:=if f=true then GJ s a b else s
def H6(ok ag:Bool)(tl th a b:Int):Int:=if ok=true/\ag=false/\meetB tl th a b=false then KF a b tl th else 0
structure NL(ps:List (Int×Int))(tl th:Int)(ok ag:Bool):Prop where
 it:(H5 (aOf ps) (bOf ps) ps.length tl th true/\ok=true/\ag=true)\/(∃l h,H5 (aOf ps) (bOf ps) ps.length l h false/\ag=false/\(ps.length<3/\tl=0/\th=0/\ok=false\/3<=ps.length/\Bq (aOf ps) (bOf ps) (BA ps.length ps.length 0) tl th ok))
theorem Wi{ps:List (Int×Int)}{tl th:Int}{ok ag:Bool}(h:NL ps tl th ok ag)(hI:∀i,i<ps.length->I64 (aOf ps i)/\I64 (bOf ps i))(ho:ok=true):I64 tl/\I64 th:=by
 rcases h.it with ⟨h1,_,_⟩|⟨l,h',_,_,⟨_,_,_,h4⟩|⟨h3,h4⟩⟩
 ·obtain⟨_,⟨i,hi,e⟩,_,⟨j,hj,f⟩,_⟩:=h1.yes rfl
  exact⟨e▸(hI i hi).1,f▸(hI j hj).2⟩
 ·rw[h4] at ho;cases ho
 ·obtain⟨⟨i,j,hp,_,e⟩,_⟩:=h4.lo_ ho
  obtain⟨⟨i',j',hp',_,e'⟩,_⟩:=h4.hi_ ho;have q:∀i j,BA ps.length ps.length 0 i j->i<ps.length/\j<ps.length:=(by intro i j;unfold BA;omega);have a1:=(hI i (q _ _ hp).1).1;have a2:=(hI j (q _ _ hp).2).1;have a3:=(hI i' (q _ _ hp').1).2;have a4:=(hI j' (q _ _ hp').2).2;unfold I64 at *;omega
theorem Wj(t0 t1 a0 b0 a1 b1:Int):A9 Tryz.prog 144 [sp2 t0 t1,.list 2 [[a0,b0],[a1,b1]]] (λr=>(r = .list 1 []/\meetB t0 t1 a0 b0=true/\meetB t0 t1 a1 b1=true)\/(r = .list 1 [[.int .i64 0]]/\meetB t0 t1 a0 b0=false/\meetB t0 t1 a1 b1=true) \/
 (r = .list 1 [[.int .i64 1]]/\meetB t0 t1 a0 b0=true/\meetB t0 t1 a1 b1=false)\/(r = .list 1 [[.int .i64 0],[.int .i64 1]]/\meetB t0 t1 a0 b0=false/\meetB t0 t1 a1 b1=false)):=by
 refine(Wh t0 t1 a0 b0 a1 b1).mono ?_;rintro r rfl
 cases meetB t0 t1 a0 b0<;>cases meetB t0 t1 a1 b1<;>simp
theorem NM{a b c d l h:Int}{o:Bool}(e:IW a b c d=(l,h,o))(cf:Bool):GJ (a,b,cf) c d=if o=true then (l,h,cf) else (a,b,true):=by
 unfold IW at e;unfold GJ;split at e
 ·rename_i hc
  simp only[Prod.mk.injEq] at e;obtain⟨rfl,rfl,rfl⟩:=e;simp[hc]
 ·rename_i hc
  simp only[Prod.mk.injEq] at e;obtain⟨rfl,rfl,rfl⟩:=e;simp[hc]
theorem Wl(p0 p1:Int)(f0 f1 f2 f3:Bool)(a0 b0 a1 b1 a2 b2 a3 b3:Int)(ps:List (Int×Int))(hps:ps=E9 f0 a0 b0++E9 f1 a1 b1++E9 f2 a2 b2)(hI:∀i,i<ps.length->I64 (aOf ps i)/\I64 (bOf ps i)) :
 A9 Tryz.prog 92 [sp2 p0 p1,.agg [f0,a0,b0,f1,a1,b1,f2,a2,b2],.agg [f3,a3,b3]]
  (λr=>∃tl th ok ag lo hi n cl cf s0 s1,r = .agg [.int .i64 lo,.int .i64 hi,.int .i64 n,.bool cl,.bool cf,.int .i64 s0,.int .i64 s1]/\NL ps tl th ok ag/\n=ps.length/\cl=(ag && decide (n=3))/\(lo,hi,cf)=Fe f3 a3 b3 (Fa ok tl th n p0 p1)/\s0=H6 ok ag tl th a0 b0/\s1=H6 ok ag tl th a1 b1):=by
 have hlp:ps.length<=3:=by rw[hps];cases f0<;>cases f1<;>cases f2<;>simp[E9]
 refine Z.y Tryz.func92 λzB _ _ _ _ zK hw zC zA _ _ _ zH hz R hR P hP=>?_;cbv;refine Call.step (by rw[<- hP];exact WX f0 f1 f2 a0 b0 a1 b1 a2 b2) rfl ?_;rintro r ⟨es,rfl,zQ⟩;have zQ:es=Bz ps:=by rw[zQ,hps];rfl
 have hu:Up0 es:=⟨by rw[zQ];exact KE ps⟩;cbv
 (obtain⟨L,eL,L0,Ln⟩:∃L:Int,zK es=L/\0<=L/\L.toNat=es.length:=⟨(es.length:Int),by rw[zH],Int.natCast_nonneg _,Int.toNat_natCast _⟩)
 refine Call.step (by rw[<- hP];exact WY ps es zQ hlp) (by exact Up0.one hu rfl) ?_;rintro r ⟨tl,th,ok,ag,rfl,htog⟩;cbv;obtain⟨ml,mh,mo,em⟩:∃l h o,IW p0 p1 tl th=(l,h,o):=⟨_,_,_,rfl⟩;have m1:A9 P 147 [sp2 p0 p1,sp2 tl th] (· = .tuple [sp2 ml mh,mo]):=by rw[<- hP];exact NK p0 p1 tl th ml mh mo em
 have hL:L=(ps.length:Int):=by have:=JN ps;rw[<- zQ] at this;omega
 have key:∀lo hi cf s0 s1,(lo,hi,cf)=Fe f3 a3 b3 (Fa ok tl th L p0 p1)->s0=H6 ok ag tl th a0 b0->s1=H6 ok ag tl th a1 b1->∀cl,cl=(ag && decide (L=3))->R (.agg [lo,hi,L,cl,cf,s0,s1]):=λlo hi cf s0 s1 h1 h2 h3 cl h4=>hR _ ⟨tl,th,ok,ag,lo,hi,L,cl,cf,s0,s1,rfl,⟨htog⟩,hL,h4,h1,h2,h3⟩;clear hR;have hI2:=Wi ⟨htog⟩ hI;obtain⟨nl,nh,no,en⟩:∃l h o,IW p0 p1 a3 b3=(l,h,o):=⟨_,_,_,rfl⟩;have m2:A9 P 147 [sp2 p0 p1,sp2 a3 b3] (· = .tuple [sp2 nl nh,no]):=by rw[<- hP];exact NK p0 p1 a3 b3 nl nh no en
 obtain⟨ol,oh,oo,eo⟩:∃l h o,IW ml mh a3 b3=(l,h,o):=⟨_,_,_,rfl⟩;have m3:A9 P 147 [sp2 ml mh,sp2 a3 b3] (· = .tuple [sp2 ol oh,oo]):=by rw[<- hP];exact NK ml mh a3 b3 ol oh oo eo
 have nM:=NM em;have nN:=NM en;have nO:=NM eo;clear em en eo;have m4:=Wj tl th a0 b0 a1 b1;rw[hP] at m4;obtain⟨z0,ez0⟩:=Z.f (KF a0 b0 tl th);obtain⟨z1,ez1⟩:=Z.f (KF a1 b1 tl th);have m5:ok=true->A9 P 145 [sp2 a0 b0,sp2 tl th] (· = .int .i64 z0):=λh=>by rw[<- hP,<- ez0];exact QT a0 b0 tl th (hI2 h).1 (hI2 h).2
 have m6:ok=true->A9 P 145 [sp2 a1 b1,sp2 tl th] (· = .int .i64 z1):=λh=>by rw[<- hP,<- ez1];exact QT a1 b1 tl th (hI2 h).1 (hI2 h).2
 have e01:zB .add .i64 0 1=1:=by rw[zC];rfl
 have e12:zB .add .i64 1 1=2:=by rw[zC];rfl
 have l0:zK []=0:=by rw[zH];rfl
 have l1:∀a,zK [a]=1:=λa=>by rw[zH];rfl
 have l2:∀a b,zK [a,b]=2:=λa b=>by rw[zH];rfl
 repeat' (first
  | (split<;>rename_i h<;>(try (simp only[eL] at h))<;>(try (simp only[hz,Z.a,AF,AC,AO,AP,AL,reduceCtorEq] at h))<;>(try cbv))
  | ((refine Call.inl hw hP Tryz.func143 (by kernel_rfl) (by kernel_rfl) ?_);(conv=>arg 2;cbv);cbv)
  | (refine AB.stepE m1 rfl ?_;cbv)
  | (refine AB.stepE m2 rfl ?_;cbv)
  | (refine AB.stepE m3 rfl ?_;cbv))
 all_goals try (refine InN.mk Z.d Z.d ?_;refine InN.mk Z.d Z.d ?_;refine Call.step m4 rfl ?_;rintro r (⟨rfl,q0,q1⟩|⟨rfl,q0,q1⟩|⟨rfl,q0,q1⟩|⟨rfl,q0,q1⟩)<;>cbv)
 all_goals try simp only[l0,l1,l2]
 all_goals try (refine Ae.rounds hw 3 ?_;cbv)
 all_goals
  repeat' (first
   | (exfalso;omega)
   | (simp only[e01,e12];cbv)
   | (simp only[e01,e12])
   | (refine InN.mk Z.d Z.d ?_;cbv)
   | (refine Idx.mk [.int .i64 0] Z.d rfl ?_;cbv)
   | (refine Idx.mk [.int .i64 1] Z.d rfl ?_;cbv)
   | (refine AB.stepE (m5 rfl) rfl ?_;cbv)
   | (refine AB.stepE (m6 rfl) rfl ?_;cbv)
   | (split<;>rename_i h<;>(try (simp only[e01,e12] at h))<;>(try (simp only[hz,Z.a,AF,AC,AO,AP,AL,reduceCtorEq] at h))<;>(try cbv)))
 all_goals
  clear hL m1 m2 m3 m4 m5 m6 hI2 htog hI hu zQ e01 e12 l0 l1 l2 hw hps hlp;refine⟨_,Vw.same rfl,?_⟩;rw[eL];refine key _ _ _ _ _ ?_ ?_ ?_ _ ?_
  ·first|(simp[Fe,Fa,nM,nN,nO, *];done)|(simp[Fe,Fa,nM,nN,nO, *];omega)
  ·simp[H6, *]
  ·simp[H6, *]
  ·rw[Bool.eq_iff_iff];simp[zA,AC]
def NN(a b c d e f:Int):Int×Int×Bool×Bool:=
 if max a c<=min b d then
  (if max a e<=min b f then
    (if max c e<=min d f then (min (min (max a c) (max a e)) (max c e),max (max (min b d) (min b f)) (min d f),true,false)
     else (min (max a c) (max a e),max (min b d) (min b f),true,false))
   else if max c e<=min d f then (min (max a c) (max c e),max (min b d) (min d f),true,false)
   else (max a c,min b d,true,false))
 else if max a e<=min b f then
  (if max c e<=min d f then (min (max a e) (max c e),max (min b f) (min d f),true,false)
   else (max a e,min b f,true,false))
 else if max c e<=min d f then (max c e,min d f,true,false)
 else (0,0,false,false)
def QV:List (Int×Int)->Int×Int×Bool×Bool
 | [(a,b)]=>if a<=b then (a,b,true,true) else (0,0,false,false)
 | [(a,b),(c,d)]=>if max a c<=min b d then (max a c,min b d,true,true) else (0,0,false,false)
 | [(a,b),(c,d),(e,f)]=>if max (max a c) e<=min (min b d) f then (max (max a c) e,min (min b d) f,true,true) else NN a b c d e f
 | _=>(0,0,false,false)
theorem Wm{ps:List (Int×Int)}{tl th:Int}{ok ag:Bool}(h:NL ps tl th ok ag)(hl:ps.length<=3):(tl,th,ok,ag)=QV ps:=by
 match ps,hl with
 | [],_ =>
   rcases h.it with ⟨h1,_,_⟩|⟨l,h',_,h2,⟨_,h3,h4,h5⟩|⟨h3,h4⟩⟩
   ·obtain⟨_,⟨i,hi,_⟩,_⟩:=h1.yes rfl
    simp at hi
   ·rw[h2,h3,h4,h5];rfl
   ·simp at h3
 | [(a,b)],_ =>
   have a0:aOf [(a,b)] 0=a:=rfl;have b0:bOf [(a,b)] 0=b:=rfl;show (tl,th,ok,ag)=if a<=b then (a,b,true,true) else (0,0,false,false)
   rcases h.it with ⟨h1,h2,h3⟩|⟨l,h',h1,h2,⟨_,h3,h4,h5⟩|⟨h3,h4⟩⟩
   ·obtain⟨k0,⟨i,hi,e1⟩,k1,⟨j,hj,e2⟩,k2⟩:=h1.yes rfl
    simp only[List.length_cons,List.length_nil] at hi hj;obtain rfl:i=0:=(by omega);obtain rfl:j=0:=(by omega);rw[a0] at e1;rw[b0] at e2;rw[if_pos Z.o,h2,h3,e1,e2]
   ·obtain⟨_,_,k|⟨i,j,hi,hj,k⟩⟩:=h1.no rfl
    ·simp at k
    ·simp only[List.length_cons,List.length_nil] at hi hj
     obtain rfl:i=0:=(by omega);obtain rfl:j=0:=(by omega);rw[a0,b0] at k;rw[if_neg Z.o,h2,h3,h4,h5]
   ·simp at h3
 | [(a,b),(c,d)],_ =>
   have a0:aOf [(a,b),(c,d)] 0=a:=rfl;have b0:bOf [(a,b),(c,d)] 0=b:=rfl;have a1:aOf [(a,b),(c,d)] 1=c:=rfl;have b1:bOf [(a,b),(c,d)] 1=d:=rfl;show (tl,th,ok,ag)=if max a c<=min b d then (max a c,min b d,true,true) else (0,0,false,false)
   rcases h.it with ⟨h1,h2,h3⟩|⟨l,h',h1,h2,⟨_,h3,h4,h5⟩|⟨h3,h4⟩⟩
   ·obtain⟨k0,⟨i,hi,e1⟩,k1,⟨j,hj,e2⟩,k2⟩:=h1.yes rfl
    simp only[List.length_cons,List.length_nil] at hi hj k1 k2;have p0:=k1 0 Z.d;have p1:=k1 1 Z.d;have q0:=k2 0 Z.d;have q1:=k2 1 Z.d;rw[a0] at p0;rw[a1] at p1;rw[b0] at q0;rw[b1] at q1;have e1':tl=max a c:=(by rcases (show i=0\/i=1 by omega) with rfl|rfl<;>(try rw[a0] at e1)<;>(try rw[a1] at e1)<;>omega);have e2':th=min b d:=(by rcases (show j=0\/j=1 by omega) with rfl|rfl<;>(try rw[b0] at e2)<;>(try rw[b1] at e2)<;>omega);rw[if_pos Z.o,h2,h3,e1',e2']
   ·obtain⟨_,_,k|⟨i,j,hi,hj,k⟩⟩:=h1.no rfl
    ·simp at k
    ·simp only[List.length_cons,List.length_nil] at hi hj
     have:¬max a c<=min b d:=by
      rcases (show i=0\/i=1 by omega) with rfl|rfl<;>rcases (show j=0\/j=1 by omega) with rfl|rfl<;>(try rw[a0] at k)<;>(try rw[a1] at k)<;>(try rw[b0] at k)<;>(try rw[b1] at k)<;>omega
     rw[if_neg this,h2,h3,h4,h5]
   ·simp at h3
 | [(a,b),(c,d),(e,f)],_ =>
   have a0:aOf [(a,b),(c,d),(e,f)] 0=a:=rfl;have b0:bOf [(a,b),(c,d),(e,f)] 0=b:=rfl;have a1:aOf [(a,b),(c,d),(e,f)] 1=c:=rfl;have b1:bOf [(a,b),(c,d),(e,f)] 1=d:=rfl;have a2:aOf [(a,b),(c,d),(e,f)] 2=e:=rfl;have b2:bOf [(a,b),(c,d),(e,f)] 2=f:=rfl;show (tl,th,ok,ag)=if max (max a c) e<=min (min b d) f then (max (max a c) e,min (min b d) f,true,true) else NN a b c d e f
   rcases h.it with ⟨h1,h2,h3⟩|⟨l,h',h1,h2,⟨h3,_⟩|⟨h3,h4⟩⟩
   ·obtain⟨k0,⟨i,hi,e1⟩,k1,⟨j,hj,e2⟩,k2⟩:=h1.yes rfl
    simp only[List.length_cons,List.length_nil] at hi hj k1 k2;have p0:=k1 0 Z.d;have p1:=k1 1 Z.d;have p2:=k1 2 Z.d;have q0:=k2 0 Z.d;have q1:=k2 1 Z.d;have q2:=k2 2 Z.d;rw[a0] at p0;rw[a1] at p1;rw[a2] at p2;rw[b0] at q0;rw[b1] at q1;rw[b2] at q2;have e1':tl=max (max a c) e:=(by rcases (show i=0\/i=1\/i=2 by omega) with rfl|rfl|rfl<;>(try rw[a0] at e1)<;>(try rw[a1] at e1)<;>(try rw[a2] at e1)<;>omega);have e2':th=min (min b d) f:=(by rcases (show j=0\/j=1\/j=2 by omega) with rfl|rfl|rfl<;>(try rw[b0] at e2)<;>(try rw[b1] at e2)<;>(try rw[b2] at e2)<;>omega);rw[if_pos Z.o,h2,h3,e1',e2']
   ·simp at h3
   ·obtain⟨_,_,k|⟨i,j,hi,hj,k⟩⟩:=h1.no rfl
    ·simp at k
    ·simp only[List.length_cons,List.length_nil] at hi hj
     have hno:¬max (max a c) e<=min (min b d) f:=by
      rcases (show i=0\/i=1\/i=2 by omega) with rfl|rfl|rfl<;>rcases (show j=0\/j=1\/j=2 by omega) with rfl|rfl|rfl<;>(try rw[a0] at k)<;>(try rw[a1] at k)<;>(try rw[a2] at k)<;>(try rw[b0] at k)<;>(try rw[b1] at k)<;>(try rw[b2] at k)<;>omega
     rw[if_neg hno,h2];clear h1 h h2 hno k;have hp:∀i j,BA 3 3 0 i j↔(i=0/\j=1)\/(i=0/\j=2)\/(i=1/\j=2):=(by intro i j;unfold BA;omega);have h4:Bq (aOf [(a,b),(c,d),(e,f)]) (bOf [(a,b),(c,d),(e,f)]) (BA 3 3 0) tl th ok:=h4;unfold NN
     cases ok with
     | false =>
       obtain⟨n1,n2,n3⟩:=h4.none_ rfl;have m1:=n3 0 1 ((hp _ _).2 (.inl ⟨rfl,rfl⟩));have m2:=n3 0 2 ((hp _ _).2 (.inr (.inl ⟨rfl,rfl⟩)));have m3:=n3 1 2 ((hp _ _).2 (.inr (.inr ⟨rfl,rfl⟩)));rw[a0,a1,b0,b1] at m1;rw[a0,a2,b0,b2] at m2;rw[a1,a2,b1,b2] at m3;rw[if_neg m1,if_neg m2,if_neg m3,n1,n2]
     | true =>
       obtain⟨⟨i,j,hij,hm,e1⟩,l1⟩:=h4.lo_ rfl;obtain⟨⟨p,q,hpq,hn,e2⟩,l2⟩:=h4.hi_ rfl;have l01:=l1 0 1 ((hp _ _).2 (.inl ⟨rfl,rfl⟩));have l02:=l1 0 2 ((hp _ _).2 (.inr (.inl ⟨rfl,rfl⟩)));have l12:=l1 1 2 ((hp _ _).2 (.inr (.inr ⟨rfl,rfl⟩)));have r01:=l2 0 1 ((hp _ _).2 (.inl ⟨rfl,rfl⟩));have r02:=l2 0 2 ((hp _ _).2 (.inr (.inl ⟨rfl,rfl⟩)));have r12:=l2 1 2 ((hp _ _).2 (.inr (.inr ⟨rfl,rfl⟩)));rw[a0,a1,b0,b1] at l01 r01;rw[a0,a2,b0,b2] at l02 r02;rw[a1,a2,b1,b2] at l12 r12
       have t1:(max a c<=min b d/\tl=max a c)\/(max a e<=min b f/\tl=max a e)\/(max c e<=min d f/\tl=max c e):=by
        rcases (hp _ _).1 hij with ⟨rfl,rfl⟩|⟨rfl,rfl⟩|⟨rfl,rfl⟩
        ·rw[a0,a1,b0,b1] at hm;rw[a0,a1] at e1;exact .inl ⟨hm,e1⟩
        ·rw[a0,a2,b0,b2] at hm;rw[a0,a2] at e1;exact .inr (.inl ⟨hm,e1⟩)
        ·rw[a1,a2,b1,b2] at hm;rw[a1,a2] at e1;exact .inr (.inr ⟨hm,e1⟩)
       have t2:(max a c<=min b d/\th=min b d)\/(max a e<=min b f/\th=min b f)\/(max c e<=min d f/\th=min d f):=by
        rcases (hp _ _).1 hpq with ⟨rfl,rfl⟩|⟨rfl,rfl⟩|⟨rfl,rfl⟩
        ·rw[a0,a1,b0,b1] at hn;rw[b0,b1] at e2;exact .inl ⟨hn,e2⟩
        ·rw[a0,a2,b0,b2] at hn;rw[b0,b2] at e2;exact .inr (.inl ⟨hn,e2⟩)
        ·rw[a1,a2,b1,b2] at hn;rw[b1,b2] at e2;exact .inr (.inr ⟨hn,e2⟩)
       clear e1 e2 l1 l2 h4 hp hij hpq hm hn;by_cases m1:max a c<=min b d<;>by_cases m2:max a e<=min b f<;>by_cases m3:max c e<=min d f<;>simp only[m1,m2,m3,true_and,false_and,or_false,false_or,if_true,if_false,forall_const,false_imp_iff,Prod.mk.injEq,and_true] at t1 t2 l01 l02 l12 r01 r02 r12 ⊢ <;> omega
structure Fu where
 lo:Int
 hi:Int
 n:Int
 cl:Bool
 cf:Bool
 s0:Int
 s1:Int
def EA(f0 f1 f2:Bool)(a0 b0 a1 b1 a2 b2:Int):List (Int×Int):=E9 f0 a0 b0++E9 f1 a1 b1++E9 f2 a2 b2
theorem QW(f0 f1 f2:Bool)(a0 b0 a1 b1 a2 b2:Int):(EA f0 f1 f2 a0 b0 a1 b1 a2 b2).length<=3:=by
 cases f0<;>cases f1<;>cases f2<;>simp[EA,E9]
def Ff(p0 p1:Int)(f0 f1 f2 f3:Bool)(a0 b0 a1 b1 a2 b2 a3 b3:Int):Fu:=
 let ps:=EA f0 f1 f2 a0 b0 a1 b1 a2 b2
 let t:=QV ps
 let w:=Fe f3 a3 b3 (Fa t.2.2.1 t.1 t.2.1 ps.length p0 p1)
 ⟨w.1,w.2.1,ps.length,t.2.2.2 && decide ((ps.length:Int)=3),w.2.2,H6 t.2.2.1 t.2.2.2 t.1 t.2.1 a0 b0,H6 t.2.2.1 t.2.2.2 t.1 t.2.1 a1 b1⟩
theorem Wn(p0 p1:Int)(f0 f1 f2 f3:Bool)(a0 b0 a1 b1 a2 b2 a3 b3:Int)(hI:∀i,i<(EA f0 f1 f2 a0 b0 a1 b1 a2 b2).length->I64 (aOf (EA f0 f1 f2 a0 b0 a1 b1 a2 b2) i)/\I64 (bOf (EA f0 f1 f2 a0 b0 a1 b1 a2 b2) i))(v:Fu)(hv:v=Ff p0 p1 f0 f1 f2 f3 a0 b0 a1 b1 a2 b2 a3 b3) :
 A9 Tryz.prog 92 [.agg [p0,p1],.agg [f0,a0,b0,f1,a1,b1,f2,a2,b2],.agg [f3,a3,b3]]
  (· = .agg [v.lo,v.hi,v.n,v.cl,v.cf,v.s0,v.s1]):=by
 refine(Wl p0 p1 f0 f1 f2 f3 a0 b0 a1 b1 a2 b2 a3 b3 (EA f0 f1 f2 a0 b0 a1 b1 a2 b2) rfl hI).mono ?_;rintro r ⟨tl,th,ok,ag,lo,hi,n,cl,cf,s0,s1,rfl,h1,h2,h3,h4,h5,h6⟩;have ht:=Wm h1 (QW _ _ _ _ _ _ _ _ _);unfold Ff at hv;simp only at hv;rw[<- ht,<- h2] at hv;simp only at hv;rw[<- h4] at hv;rw[hv,h3,h5,h6]
theorem QX{s:Int×Int×Bool}{a b p q:Int}(h:p<=s.1/\s.1<=s.2.1/\s.2.1<=q):p<=(GJ s a b).1/\(GJ s a b).1<=(GJ s a b).2.1/\(GJ s a b).2.1<=q:=by
 unfold GJ;split<;>(simp only;omega)
theorem Wo{p0 p1:Int}(hp:p0<=p1)(f0 f1 f2 f3:Bool)(a0 b0 a1 b1 a2 b2 a3 b3:Int):p0<=(Ff p0 p1 f0 f1 f2 f3 a0 b0 a1 b1 a2 b2 a3 b3).lo/\(Ff p0 p1 f0 f1 f2 f3 a0 b0 a1 b1 a2 b2 a3 b3).lo<=(Ff p0 p1 f0 f1 f2 f3 a0 b0 a1 b1 a2 b2 a3 b3).hi/\(Ff p0 p1 f0 f1 f2 f3 a0 b0 a1 b1 a2 b2 a3 b3).hi<=p1:=by
 have h1:∀ok tl th n,p0<=(Fa ok tl th n p0 p1).1/\(Fa ok tl th n p0 p1).1<=(Fa ok tl th n p0 p1).2.1/\(Fa ok tl th n p0 p1).2.1<=p1:=λok tl th n=>by
  unfold Fa;split
  ·exact QX ⟨Int.le_refl _,hp,Int.le_refl _⟩
  ·exact⟨Int.le_refl _,hp,Int.le_refl _⟩
 have h2:∀s:Int×Int×Bool,p0<=s.1/\s.1<=s.2.1/\s.2.1<=p1->p0<=(Fe f3 a3 b3 s).1/\(Fe f3 a3 b3 s).1<=(Fe f3 a3 b3 s).2.1/\(Fe f3 a3 b3 s).2.1<=p1:=λs h=>by
  unfold Fe;split
  ·exact QX h
  ·exact h
 exact h2 _ (h1 _ _ _ _)
theorem Wp(p0 p1:Int)(f0 f1 f2 f3:Bool)(a0 b0 a1 b1 a2 b2 a3 b3:Int):0<=(Ff p0 p1 f0 f1 f2 f3 a0 b0 a1 b1 a2 b2 a3 b3).n/\(Ff p0 p1 f0 f1 f2 f3 a0 b0 a1 b1 a2 b2 a3 b3).n<=3:=by
 have:=QW f0 f1 f2 a0 b0 a1 b1 a2 b2;unfold Ff;simp only;omega
theorem Wq{f0 f1 f2:Bool}{a0 b0 a1 b1 a2 b2:Int}(h0:f0=true->I64 a0/\I64 b0)(h1:f1=true->I64 a1/\I64 b1)(h2:f2=true->I64 a2/\I64 b2):∀i,i<(EA f0 f1 f2 a0 b0 a1 b1 a2 b2).length->I64 (aOf (EA f0 f1 f2 a0 b0 a1 b1 a2 b2) i)/\I64 (bOf (EA f0 f1 f2 a0 b0 a1 b1 a2 b2) i):=by
 have key:∀p,p∈EA f0 f1 f2 a0 b0 a1 b1 a2 b2->I64 p.1/\I64 p.2:=by
  intro p hp;unfold EA at hp;rcases List.mem_append.1 hp with hp|hp
  ·rcases List.mem_append.1 hp with hp|hp
   ·cases f0<;>simp[E9] at hp;subst hp;exact h0 rfl
   ·cases f1<;>simp[E9] at hp;subst hp;exact h1 rfl
  ·cases f2<;>simp[E9] at hp;subst hp;exact h2 rfl
 intro i hi;unfold aOf bOf
 have:(EA f0 f1 f2 a0 b0 a1 b1 a2 b2).getD i (0,0)∈EA f0 f1 f2 a0 b0 a1 b1 a2 b2:=by
  rw[List.getD_eq_getElem?_getD,List.getElem?_eq_getElem hi];exact List.getElem_mem hi
 exact key _ this
end Go.Proofs.YtlchlddijclhjaaGreat
