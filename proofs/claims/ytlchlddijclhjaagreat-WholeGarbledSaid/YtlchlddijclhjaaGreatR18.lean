/- Parts of the proofs. -/
import Derived.KernelRfl
import Derived.Test.YtlchlddijclhjaaGreatR16
import Derived.Shelf.SlSortCmp.NoneTotal
import Derived.Test.YtlchlddijclhjaaGreatR8
import Derived.Test.YtlchlddijclhjaaGreatRZ
set_option linter.unusedVariables false
set_option linter.unusedSimpArgs false
set_option maxHeartbeats 4000000
namespace Go.Proofs.YtlchlddijclhjaaGreat
open Go Go.RowKit Go.Eng
set_option maxRecDepth 100000
theorem FV{G:Prop} (h:G:=by
 have hu:Up0 es:=by rw[zQ];exact Bu ss
 have lH:Up0 ds:=by rw[zY];exact Bv gs
 intro en e m kU he hen hl K hK;have pO:=hl (XL y0 y1 y2 y3 y4 y5 y6 y7 y8 y9 iF iN) (by simp[XS,XL]);obtain⟨uP,uJ,xA⟩:=BI (f:=Ah) (ds:=ss) (i:=(XL y0 y1 y2 y3 y4 y5 y6 y7 y8 y9 iF iN)) pO.1 pO.2;have r_:nxAt ss (XL y0 y1 y2 y3 y4 y5 y6 y7 y8 y9 iF iN)=uP.nx:=by unfold nxAt;rw[uJ]
 have zi:∀n,n∈uP.nx->0<=n/\n.toNat<ss.length:=λn hn=>O_ yK (by rw[r_];exact hn);have vM:uP.nx.length<=2:=by have:=TJ yK (XL y0 y1 y2 y3 y4 y5 y6 y7 y8 y9 iF iN);rw[r_] at this;exact this
 have hF:Be ss lo hi dp (XS y0 y1 y2 y3 y4 y5 y6 y7 y8 y9 iF iN) en (e,m)=(if e≠0 then (e,m) else if hi<=en\/uP.nx=[] then (if 16<(if lo<=en then Ba m (XS y0 y1 y2 y3 y4 y5 y6 y7 y8 y9 iF iN) else m).length then 13 else 0,if lo<=en then Ba m (XS y0 y1 y2 y3 y4 y5 y6 y7 y8 y9 iF iN) else m) else uP.nx.foldl (λs n=>Be ss lo hi dq (XN y0 y1 y2 y3 y4 y5 y6 y7 y8 y9 iF iN n) (en+BD ss n) s) (e,m)):=by
  rw[<- r_];rfl
 rw[hF] at hK;obtain⟨len,pcs,nx⟩:=uP;obtain⟨q0,eq0⟩:=Z.f (pcs.map Ap);obtain⟨ns,ens⟩:=Z.f (nx.map Ac);have vC:Up0 ns:=by rw[<- ens];exact CG nx
 have qW:ns.length=nx.length:=by rw[<- ens];simp
 have xA:es[(XL y0 y1 y2 y3 y4 y5 y6 y7 y8 y9 iF iN).toNat]?=some [.int .i64 len,.list 2 q0,.list 1 ns]:=by rw[zQ,<- eq0,<- ens];exact xA
 have qA:=Oz m (XS y0 y1 y2 y3 y4 y5 y6 y7 y8 y9 iF iN) (by simp only[XS,XN,List.length_cons,List.length_nil];omega) (λj hj=>(kU.all j hj).1);obtain⟨em,eem⟩:=Z.f (ents m);obtain⟨mJ,eem2⟩:=Z.f (ents (Ba m (XS y0 y1 y2 y3 y4 y5 y6 y7 y8 y9 iF iN)));have xK:Up0 em:=by rw[<- eem];exact Jm m
 have ng:∀e,e∈em->e.length=2:=by rw[<- eem];exact Kj m
 have vD:∀e,e∈mJ->e.length=2:=by rw[<- eem2];exact Kj _
 have heml:em.length=m.length:=by rw[<- eem];exact Jo m
 have rH:mJ.length=(Ba m (XS y0 y1 y2 y3 y4 y5 y6 y7 y8 y9 iF iN)).length:=by rw[<- eem2];exact Jo _
 rw[eem,eem2] at qA;rw[eem];have hnxs:∀n,n∈nx->0<=n/\n.toNat<ss.length:=zi;have vM:nx.length<=2:=vM;show AJ Tryz.prog 209 [.ref 0 6 0 0,.agg (RA y0 y1 y2 y3 y4 y5 y6 y7 y8 y9 iF iN),en] [.live 6 [DD es ds lo hi 1 e],.live 0 em] K;refine Z.x Tryz.func209 λzB zE _ _ _ _ hw zC zA _ _ _ zH hz P hP=>?_;cbv;have s1:zB .sub .i64 nA 1=nP:=by rw[zC];rfl
 simp only[s1];refine InN.mk Z.d Z.d ?_;cbv
 repeat' (first
  | (refine Ik.mk _ rfl ?_;cbv)
  | (refine Idx.mk _ pO.1 xA ?_;cbv))
 have tL:e=0->(hi<=en\/nx=[])->∀j,K (.tuple []) (.live 6 [DD es ds lo hi 1 (if 16<(if lo<=en then Ba m (XS y0 y1 y2 y3 y4 y5 y6 y7 y8 y9 iF iN) else m).length then 13 else 0)] :: .live 0 (ents (if lo<=en then Ba m (XS y0 y1 y2 y3 y4 y5 y6 y7 y8 y9 iF iN) else m))::j):=λh0 hc j=>by
  have:=hK j;rw[if_neg (by simp[h0]),if_pos hc] at this;exact this
 rcases he with rfl|rfl
 rotate_left 1
 ·have c0:zE .neq 13 0=true:=by rw[zA];rfl
  simp only[c0];cbv;have:=hK [.live 13 [(RA y0 y1 y2 y3 y4 y5 y6 y7 y8 y9 iF iN)]];rw[if_pos Z.d,eem] at this;exact this
 have c0:zE .neq 0 0=false:=by rw[zA];rfl
 simp only[c0];cbv;obtain⟨L,eL,L0,Ln⟩:=Z.l zH ns;have tL:=tL rfl;have n0:nx=[]↔L=0:=by rw[<- List.length_eq_zero_iff,<- qW,<- Ln];omega
 have blockA:(hi<=en\/nx=[])->(lo<=en->∀j,K (.tuple []) (.live 6 [DD es ds lo hi 1 (if (16:Int)<mJ.length then 13 else 0)] :: .live 0 mJ::j))/\(en<lo->∀j,K (.tuple []) (.live 6 [DD es ds lo hi 1 0] :: .live 0 em::j)):=λhA=>by
  refine⟨λlg j=>?_,λlg j=>?_⟩
  ·have:=tL hA j
   rw[if_pos lg,eem2] at this;by_cases hq:16<(Ba m (XS y0 y1 y2 y3 y4 y5 y6 y7 y8 y9 iF iN)).length
   ·rw[if_pos hq] at this
    rw[if_pos (by have h5:=rH;(try simp only[XS] at h5);(try simp only[XS] at hq);omega)];exact this
   ·rw[if_neg hq] at this
    rw[if_neg (by have h5:=rH;(try simp only[XS] at h5);(try simp only[XS] at hq);omega)];exact this
  ·have:=tL hA j
   rw[if_neg (show ¬lo<=en by omega),eem,if_neg (show ¬16<m.length by have:=kU.few rfl;simp only at this;omega)] at this;exact this
 obtain⟨n1,lK⟩:∃n:Int,n=em.length:=⟨_,rfl⟩;obtain⟨n2,pg⟩:∃n:Int,n=mJ.length:=⟨_,rfl⟩;have h16:n1<=16:=by have:=kU.few rfl;simp only at this;omega
 simp only[<- pg] at blockA;have lm1:∀ {K':AV->A7->Prop} {hp:A7} {c:Go.Call} {ty t kt et:TypeId} {x:Operand},hp[1]?=some (.live 0 em)->c.callee = .builtin .len->c.args = #[x]->c.argTypes = #[t]->P.underlying t=some (.map kt et)->K' (.int .i64 n1) hp->Xo P (.call c) ty [.mapr 1] hp K':=λh1 h2 h3 h4 h5 h6=>Xo.lenm h2 h3 h4 h5 h1 ng n1 lK h6;have lm2:∀ {K':AV->A7->Prop} {hp:A7} {c:Go.Call} {ty t kt et:TypeId} {x:Operand},hp[1]?=some (.live 0 mJ)->c.callee = .builtin .len->c.args = #[x]->c.argTypes = #[t]->P.underlying t=some (.map kt et)->K' (.int .i64 n2) hp->Xo P (.call c) ty [.mapr 1] hp K':=λh1 h2 h3 h4 h5 h6=>Xo.lenm h2 h3 h4 h5 h1 vD n2 pg h6;(split<;>rename_i h1<;>(try (simp only[hz,Z.a,AF,AC,AO,AP,AL,reduceCtorEq] at h1))<;>(try cbv))
 ·obtain⟨hy,ku⟩:=blockA (.inl h1)
  clear blockA tL;(split<;>rename_i h3<;>(try (simp only[hz,Z.a,AF,AC,AO,AP,AL,reduceCtorEq] at h3))<;>(try cbv))
  ·refine Put.mk mJ rfl qA ?_
   cbv;refine lm2 (kt:=239) (et:=3) rfl rfl rfl rfl (by rw[<- hP];kernel_rfl) ?_;cbv;(split<;>rename_i h4<;>(try (simp only[hz,Z.a,AF,AC,AO,AP,AL,reduceCtorEq] at h4))<;>(try cbv))
   ·have:=hy h3 [.live 13 [(RA y0 y1 y2 y3 y4 y5 y6 y7 y8 y9 iF iN)]]
    rw[if_pos Z.o] at this;exact this
   ·have:=hy h3 [.live 13 [(RA y0 y1 y2 y3 y4 y5 y6 y7 y8 y9 iF iN)]]
    rw[if_neg Z.o] at this;exact this
  ·refine lm1 (kt:=239) (et:=3) rfl rfl rfl rfl (by rw[<- hP];kernel_rfl) ?_
   cbv;(split<;>rename_i h4<;>(try (simp only[hz,Z.a,AF,AC,AO,AP,AL,reduceCtorEq] at h4))<;>(try cbv))
   ·exfalso;omega
   ·exact ku h3 [.live 13 [(RA y0 y1 y2 y3 y4 y5 y6 y7 y8 y9 iF iN)]]
 ·simp only[eL]
  (split<;>rename_i h2<;>(try (simp only[hz,Z.a,AF,AC,AO,AP,AL,reduceCtorEq] at h2))<;>(try cbv))
  ·obtain⟨hy,ku⟩:=blockA (.inr (n0.2 h2))
   clear blockA tL;(split<;>rename_i h3<;>(try (simp only[hz,Z.a,AF,AC,AO,AP,AL,reduceCtorEq] at h3))<;>(try cbv))
   ·refine Put.mk mJ rfl qA ?_
    cbv;refine lm2 (kt:=239) (et:=3) rfl rfl rfl rfl (by rw[<- hP];kernel_rfl) ?_;cbv;(split<;>rename_i h4<;>(try (simp only[hz,Z.a,AF,AC,AO,AP,AL,reduceCtorEq] at h4))<;>(try cbv))
    ·have:=hy h3 [.live 13 [(RA y0 y1 y2 y3 y4 y5 y6 y7 y8 y9 iF iN)]]
     rw[if_pos Z.o] at this;exact this
    ·have:=hy h3 [.live 13 [(RA y0 y1 y2 y3 y4 y5 y6 y7 y8 y9 iF iN)]]
     rw[if_neg Z.o] at this;exact this
   ·refine lm1 (kt:=239) (et:=3) rfl rfl rfl rfl (by rw[<- hP];kernel_rfl) ?_
    cbv;(split<;>rename_i h4<;>(try (simp only[hz,Z.a,AF,AC,AO,AP,AL,reduceCtorEq] at h4))<;>(try cbv))
    ·exfalso;omega
    ·exact ku h3 [.live 13 [(RA y0 y1 y2 y3 y4 y5 y6 y7 y8 y9 iF iN)]]
  ·have hK:=hK
   have ck:zE .eql nA 12=false:=(by rw[zA];rfl);have a1:zB .add .i64 nA 1=nB:=(by rw[zC];rfl);have a2:zB .sub .i64 nB 1=nA:=(by rw[zC];rfl);have hnh:¬(hi<=en\/nx=[]):=(by rw[n0];omega);have hen': -1099511627776<=en/\en<=11*1099511627776:=by have h:=hen;simp only[XS,Bh] at h;omega
   have hKl:∀s',s'=nx.foldl (λs n=>Be ss lo hi dq (XN y0 y1 y2 y3 y4 y5 y6 y7 y8 y9 iF iN n) (en+BD ss n) s) (0,m)->∀j,K (.tuple []) (.live 6 [DD es ds lo hi 1 s'.1] :: .live 0 (ents s'.2)::j):=λs' hs' j=>by
    have:=hK j;rw[if_neg Z.d,if_neg hnh] at this;rw[hs'];exact this
   clear hK blockA tL lm1 lm2;simp only[ck];cbv;simp only[a1]
   repeat' (first
    | (refine Ik.mk _ rfl ?_;cbv)
    | (simp only[a1];cbv)
    | (refine Ie.mk _ _ rfl rfl ?_;cbv))
   simp only[eL]
   refine Ae.dataN hw (S:=Int×Int×(Int×List (List Int))×List (List AV)) (λs=>fr 103 [(0,.ref 0 6 0 0),(2,en),(4,.ref 2 13 0 0),(76,.list 1 ns),(77,L),(78,s.1)])
    (λs=>[.live 6 [[.list 3 es,.list 5 ds,lo,hi,.mapr 1,s.2.2.1.1]],.live 0 s.2.2.2,.live 13 [(RB y0 y1 y2 y3 y4 y5 y6 y7 y8 y9 iF iN s.2.1)]])
    (λs=>0<=s.1/\s.1<=L/\s.2.2.1=(nx.take s.1.toNat).foldl (λs n=>Be ss lo hi dq (XN y0 y1 y2 y3 y4 y5 y6 y7 y8 y9 iF iN n) (en+BD ss n) s) (0,m)/\GOk s.2.2.1/\(s.2.2.1.1=0\/s.2.2.1.1=13)/\s.2.2.2=ents s.2.2.1.2/\Up0 s.2.2.2) (λs=>(L-s.1).toNat) (0,0,(0,m),em) (by(refine Z.n (id) ?_;cbv<;>exact Z.q)) ⟨Int.le_refl _,L0,rfl,kU,.inl rfl,eem.symm,xK⟩ ?_
   rintro⟨i,y,⟨e,m'⟩,em'⟩ zJ Q' hN hE hR'
   have zJ:0<=i/\i<=L/\(e,m')=(nx.take i.toNat).foldl (λs n=>Be ss lo hi dq (XN y0 y1 y2 y3 y4 y5 y6 y7 y8 y9 iF iN n) (en+BD ss n) s) (0,m)/\GOk (e,m')/\(e=0\/e=13)/\em'=ents m'/\Up0 em':=zJ;cbv;obtain⟨zW,yZ,nX,hok',he',hem',hum'⟩:=zJ;(split<;>rename_i hc<;>(try (simp only[hz,Z.a,AF,AC,AO,AP,AL,reduceCtorEq] at hc))<;>(try cbv))
   ·have hit:i.toNat<nx.length:=by omega
    obtain⟨n,hn⟩:∃n,nx[i.toNat]?=some n:=⟨_,List.getElem?_eq_getElem hit⟩;have uW:ns[i.toNat]?=some (Ac n):=(by rw[<- ens,List.getElem?_map,hn];rfl);have uX:=hnxs n (List.mem_of_getElem? hn);obtain⟨x_,uI,nW⟩:=BI (f:=Ah) (ds:=ss) (i:=n) uX.1 uX.2;have nR:BD ss n=x_.len:=(by unfold BD;rw[uI]);have wW:=kr.pos x_ (List.mem_of_getElem? uI);obtain⟨len1,pcs1,nx1⟩:=x_;have wW:1<=len1/\len1<=1099511627776:=wW;have nR:BD ss n=len1:=nR;obtain⟨q1,oW⟩:=Z.f (pcs1.map Ap);obtain⟨q2,eq2⟩:=Z.f (nx1.map Ac);have nW:es[n.toNat]?=some [.int .i64 len1,.list 2 q1,.list 1 q2]:=by rw[zQ,<- oW,<- eq2];exact nW
    have hs2:(Be ss lo hi dq (XN y0 y1 y2 y3 y4 y5 y6 y7 y8 y9 iF iN n) (en+len1) (e,m'))=(nx.take (i+1).toNat).foldl (λs n=>Be ss lo hi dq (XN y0 y1 y2 y3 y4 y5 y6 y7 y8 y9 iF iN n) (en+BD ss n) s) (0,m):=by
     rw[Eu zW hn,List.foldl_append,<- nX,List.foldl_cons,List.foldl_nil,nR]
    have uB:=MO ss lo hi dq (XN y0 y1 y2 y3 y4 y5 y6 y7 y8 y9 iF iN n) (en+len1) (e,m') hok' (by simp only[XS,XN,List.length_cons,List.length_nil];omega);have uf:=MP ss lo hi dq (XN y0 y1 y2 y3 y4 y5 y6 y7 y8 y9 iF iN n) (en+len1) (e,m') he';have a3:zB .add .i64 en len1=en+len1:=by rw[zC];show IntKind.i64.wrap (en+len1)=en+len1;rw[IntKind.wrap_i64];omega
    obtain⟨pg,een2⟩:=Z.e (en+len1);rw[<- een2] at hs2 uB uf a3;have hen2: -1099511627776<=pg/\pg<=Bh (XN y0 y1 y2 y3 y4 y5 y6 y7 y8 y9 iF iN n)*1099511627776:=by have h:=hen;simp only[XS,XN,Bh] at h ⊢;omega
    have hl2:∀x,x∈(XN y0 y1 y2 y3 y4 y5 y6 y7 y8 y9 iF iN n)->0<=x/\x.toNat<ss.length:=λx hx=>by
     have:x∈(XS y0 y1 y2 y3 y4 y5 y6 y7 y8 y9 iF iN)\/x=n:=(by simpa[XS,XN,or_assoc] using hx);rcases this with h|rfl
     ·exact hl x h
     ·exact uX
    obtain⟨⟨e3,m3⟩,qL⟩:∃s',Be ss lo hi dq (XN y0 y1 y2 y3 y4 y5 y6 y7 y8 y9 iF iN n) pg (e,m')=s':=⟨_,rfl⟩;obtain⟨wz,eem3⟩:=Z.e (ents m3);have yu:Up0 wz:=(by rw[eem3];exact Jm m3);rw[qL] at hs2 uB uf;refine Idx.mk _ zW uW ?_;cbv
    repeat' (first
     | (refine Ik.mk _ rfl ?_;cbv)
     | (simp only[a2];cbv)
     | (refine InN.mk Z.d Z.d ?_;cbv)
     | (refine Ie.mk _ _ rfl rfl ?_;cbv)
     | (refine Idx.mk _ uX.1 nW ?_;cbv))
    simp only[a3];refine Call.of (BJ.call hu lH (NX ss gs es ds zQ zY kr yK lo hi y0 y1 y2 y3 y4 y5 y6 y7 y8 y9 iF iN n) hP (sg:=0) (sm:=1) (h:=[.live 6 [DD es ds lo hi 1 e],.live 0 em',.live 13 [(RB y0 y1 y2 y3 y4 y5 y6 y7 y8 y9 iF iN n)]]) Z.d rfl (by rw[<- hem'];rfl) hok' he' hen2 hl2 ?_);rw[qL,<- eem3];have a4:zB .add .i64 i 1=i+1:=by rw[zC];show IntKind.i64.wrap (i+1)=i+1;rw[IntKind.wrap_i64];omega
    cbv;simp only[a4];refine hN (i+1,n,(e3,m3),wz) _ _ (by(refine Z.n (id) ?_;cbv<;>exact Z.q)) ⟨by simp only;omega,by simp only;omega,hs2,uB,uf,eem3,yu⟩ ?_;simp only;omega
   ·refine hE _ _ _ ?_
    cbv;have:=hKl (e,m') (by rw[nX,List.take_of_length_le Z.o]) [.live 13 [(RB y0 y1 y2 y3 y4 y5 y6 y7 y8 y9 iF iN y)]];rw[<- hem'] at this;exact this):G:=h
section
variable (ss:List Sg) (gs:List Gr) (es ds:List (List AV)) (zQ:es=ss.map Ah) (zY:ds=gs.map Ak) (kr:CS ss) (yK:EJ ss) (lo hi:Int)
include zQ zY kr yK
namespace Gw11
@[reducible] def XS(y0 y1 y2 y3 y4 y5 y6 y7 y8 y9 iF iN:Int):List Int:=[y0,y1,y2,y3,y4,y5,y6,y7,y8,y9,iF]
@[reducible] def XN(y0 y1 y2 y3 y4 y5 y6 y7 y8 y9 iF iN n:Int):List Int:=[y0,y1,y2,y3,y4,y5,y6,y7,y8,y9,iF,n]
@[reducible] def XL(y0 y1 y2 y3 y4 y5 y6 y7 y8 y9 iF iN:Int):Int:=iF
@[reducible] def RA(y0 y1 y2 y3 y4 y5 y6 y7 y8 y9 iF iN:Int):List AV:=[jz 11,y0,y1,y2,y3,y4,y5,y6,y7,y8,y9,iF,jz 0]
@[reducible] def RB(y0 y1 y2 y3 y4 y5 y6 y7 y8 y9 iF iN n:Int):List AV:=[jz 12,y0,y1,y2,y3,y4,y5,y6,y7,y8,y9,iF,n]
@[reducible] def dp:Nat:=2
@[reducible] def dq:Nat:=1
@[reducible] def nP:Int:=10
@[reducible] def nA:Int:=11
@[reducible] def nB:Int:=12
theorem NX(y0 y1 y2 y3 y4 y5 y6 y7 y8 y9 iF iN n:Int):BJ ss es ds lo hi dq (XN y0 y1 y2 y3 y4 y5 y6 y7 y8 y9 iF iN n):=TL ss gs es ds zQ zY kr yK lo hi y0 y1 y2 y3 y4 y5 y6 y7 y8 y9 iF n
theorem gr(y0 y1 y2 y3 y4 y5 y6 y7 y8 y9 iF iN:Int):BJ ss es ds lo hi dp (XS y0 y1 y2 y3 y4 y5 y6 y7 y8 y9 iF iN):=by exact FV
end Gw11
theorem gB(y0 y1 y2 y3 y4 y5 y6 y7 y8 y9 iF:Int):BJ ss es ds lo hi 2 [y0,y1,y2,y3,y4,y5,y6,y7,y8,y9,iF]:=Gw11.gr ss gs es ds zQ zY kr yK lo hi y0 y1 y2 y3 y4 y5 y6 y7 y8 y9 iF 0
namespace Gw10
@[reducible] def XS(y0 y1 y2 y3 y4 y5 y6 y7 y8 y9 iF iN:Int):List Int:=[y0,y1,y2,y3,y4,y5,y6,y7,y8,y9]
@[reducible] def XN(y0 y1 y2 y3 y4 y5 y6 y7 y8 y9 iF iN n:Int):List Int:=[y0,y1,y2,y3,y4,y5,y6,y7,y8,y9,n]
@[reducible] def XL(y0 y1 y2 y3 y4 y5 y6 y7 y8 y9 iF iN:Int):Int:=y9
@[reducible] def RA(y0 y1 y2 y3 y4 y5 y6 y7 y8 y9 iF iN:Int):List AV:=[jz 10,y0,y1,y2,y3,y4,y5,y6,y7,y8,y9,jz 0,jz 0]
@[reducible] def RB(y0 y1 y2 y3 y4 y5 y6 y7 y8 y9 iF iN n:Int):List AV:=[jz 11,y0,y1,y2,y3,y4,y5,y6,y7,y8,y9,n,jz 0]
@[reducible] def dp:Nat:=3
@[reducible] def dq:Nat:=2
@[reducible] def nP:Int:=9
@[reducible] def nA:Int:=10
@[reducible] def nB:Int:=11
theorem NX(y0 y1 y2 y3 y4 y5 y6 y7 y8 y9 iF iN n:Int):BJ ss es ds lo hi dq (XN y0 y1 y2 y3 y4 y5 y6 y7 y8 y9 iF iN n):=Gw11.gr ss gs es ds zQ zY kr yK lo hi y0 y1 y2 y3 y4 y5 y6 y7 y8 y9 n 0
theorem gr(y0 y1 y2 y3 y4 y5 y6 y7 y8 y9 iF iN:Int):BJ ss es ds lo hi dp (XS y0 y1 y2 y3 y4 y5 y6 y7 y8 y9 iF iN):=by exact FV
end Gw10
theorem gD(y0 y1 y2 y3 y4 y5 y6 y7 y8 y9:Int):BJ ss es ds lo hi 3 [y0,y1,y2,y3,y4,y5,y6,y7,y8,y9]:=Gw10.gr ss gs es ds zQ zY kr yK lo hi y0 y1 y2 y3 y4 y5 y6 y7 y8 y9 0 0
namespace Gw9
@[reducible] def XS(y0 y1 y2 y3 y4 y5 y6 y7 y8 y9 iF iN:Int):List Int:=[y0,y1,y2,y3,y4,y5,y6,y7,y8]
@[reducible] def XN(y0 y1 y2 y3 y4 y5 y6 y7 y8 y9 iF iN n:Int):List Int:=[y0,y1,y2,y3,y4,y5,y6,y7,y8,n]
@[reducible] def XL(y0 y1 y2 y3 y4 y5 y6 y7 y8 y9 iF iN:Int):Int:=y8
@[reducible] def RA(y0 y1 y2 y3 y4 y5 y6 y7 y8 y9 iF iN:Int):List AV:=[jz 9,y0,y1,y2,y3,y4,y5,y6,y7,y8,jz 0,jz 0,jz 0]
@[reducible] def RB(y0 y1 y2 y3 y4 y5 y6 y7 y8 y9 iF iN n:Int):List AV:=[jz 10,y0,y1,y2,y3,y4,y5,y6,y7,y8,n,jz 0,jz 0]
@[reducible] def dp:Nat:=4
@[reducible] def dq:Nat:=3
@[reducible] def nP:Int:=8
@[reducible] def nA:Int:=9
@[reducible] def nB:Int:=10
theorem NX(y0 y1 y2 y3 y4 y5 y6 y7 y8 y9 iF iN n:Int):BJ ss es ds lo hi dq (XN y0 y1 y2 y3 y4 y5 y6 y7 y8 y9 iF iN n):=Gw10.gr ss gs es ds zQ zY kr yK lo hi y0 y1 y2 y3 y4 y5 y6 y7 y8 n 0 0
theorem gr(y0 y1 y2 y3 y4 y5 y6 y7 y8 y9 iF iN:Int):BJ ss es ds lo hi dp (XS y0 y1 y2 y3 y4 y5 y6 y7 y8 y9 iF iN):=by exact FV
end Gw9
theorem gF(y0 y1 y2 y3 y4 y5 y6 y7 y8:Int):BJ ss es ds lo hi 4 [y0,y1,y2,y3,y4,y5,y6,y7,y8]:=Gw9.gr ss gs es ds zQ zY kr yK lo hi y0 y1 y2 y3 y4 y5 y6 y7 y8 0 0 0
namespace Gw8
@[reducible] def XS(y0 y1 y2 y3 y4 y5 y6 y7 y8 y9 iF iN:Int):List Int:=[y0,y1,y2,y3,y4,y5,y6,y7]
@[reducible] def XN(y0 y1 y2 y3 y4 y5 y6 y7 y8 y9 iF iN n:Int):List Int:=[y0,y1,y2,y3,y4,y5,y6,y7,n]
@[reducible] def XL(y0 y1 y2 y3 y4 y5 y6 y7 y8 y9 iF iN:Int):Int:=y7
@[reducible] def RA(y0 y1 y2 y3 y4 y5 y6 y7 y8 y9 iF iN:Int):List AV:=[jz 8,y0,y1,y2,y3,y4,y5,y6,y7,jz 0,jz 0,jz 0,jz 0]
@[reducible] def RB(y0 y1 y2 y3 y4 y5 y6 y7 y8 y9 iF iN n:Int):List AV:=[jz 9,y0,y1,y2,y3,y4,y5,y6,y7,n,jz 0,jz 0,jz 0]
@[reducible] def dp:Nat:=5
@[reducible] def dq:Nat:=4
@[reducible] def nP:Int:=7
@[reducible] def nA:Int:=8
@[reducible] def nB:Int:=9
theorem NX(y0 y1 y2 y3 y4 y5 y6 y7 y8 y9 iF iN n:Int):BJ ss es ds lo hi dq (XN y0 y1 y2 y3 y4 y5 y6 y7 y8 y9 iF iN n):=Gw9.gr ss gs es ds zQ zY kr yK lo hi y0 y1 y2 y3 y4 y5 y6 y7 n 0 0 0
theorem gr(y0 y1 y2 y3 y4 y5 y6 y7 y8 y9 iF iN:Int):BJ ss es ds lo hi dp (XS y0 y1 y2 y3 y4 y5 y6 y7 y8 y9 iF iN):=by exact FV
end Gw8
theorem gG(y0 y1 y2 y3 y4 y5 y6 y7:Int):BJ ss es ds lo hi 5 [y0,y1,y2,y3,y4,y5,y6,y7]:=Gw8.gr ss gs es ds zQ zY kr yK lo hi y0 y1 y2 y3 y4 y5 y6 y7 0 0 0 0
namespace Gw7
@[reducible] def XS(y0 y1 y2 y3 y4 y5 y6 y7 y8 y9 iF iN:Int):List Int:=[y0,y1,y2,y3,y4,y5,y6]
@[reducible] def XN(y0 y1 y2 y3 y4 y5 y6 y7 y8 y9 iF iN n:Int):List Int:=[y0,y1,y2,y3,y4,y5,y6,n]
@[reducible] def XL(y0 y1 y2 y3 y4 y5 y6 y7 y8 y9 iF iN:Int):Int:=y6
@[reducible] def RA(y0 y1 y2 y3 y4 y5 y6 y7 y8 y9 iF iN:Int):List AV:=[jz 7,y0,y1,y2,y3,y4,y5,y6,jz 0,jz 0,jz 0,jz 0,jz 0]
@[reducible] def RB(y0 y1 y2 y3 y4 y5 y6 y7 y8 y9 iF iN n:Int):List AV:=[jz 8,y0,y1,y2,y3,y4,y5,y6,n,jz 0,jz 0,jz 0,jz 0]
@[reducible] def dp:Nat:=6
@[reducible] def dq:Nat:=5
@[reducible] def nP:Int:=6
@[reducible] def nA:Int:=7
@[reducible] def nB:Int:=8
theorem NX(y0 y1 y2 y3 y4 y5 y6 y7 y8 y9 iF iN n:Int):BJ ss es ds lo hi dq (XN y0 y1 y2 y3 y4 y5 y6 y7 y8 y9 iF iN n):=Gw8.gr ss gs es ds zQ zY kr yK lo hi y0 y1 y2 y3 y4 y5 y6 n 0 0 0 0
theorem gr(y0 y1 y2 y3 y4 y5 y6 y7 y8 y9 iF iN:Int):BJ ss es ds lo hi dp (XS y0 y1 y2 y3 y4 y5 y6 y7 y8 y9 iF iN):=by exact FV
end Gw7
theorem gH(y0 y1 y2 y3 y4 y5 y6:Int):BJ ss es ds lo hi 6 [y0,y1,y2,y3,y4,y5,y6]:=Gw7.gr ss gs es ds zQ zY kr yK lo hi y0 y1 y2 y3 y4 y5 y6 0 0 0 0 0
namespace Gw6
@[reducible] def XS(y0 y1 y2 y3 y4 y5 y6 y7 y8 y9 iF iN:Int):List Int:=[y0,y1,y2,y3,y4,y5]
@[reducible] def XN(y0 y1 y2 y3 y4 y5 y6 y7 y8 y9 iF iN n:Int):List Int:=[y0,y1,y2,y3,y4,y5,n]
@[reducible] def XL(y0 y1 y2 y3 y4 y5 y6 y7 y8 y9 iF iN:Int):Int:=y5
@[reducible] def RA(y0 y1 y2 y3 y4 y5 y6 y7 y8 y9 iF iN:Int):List AV:=[jz 6,y0,y1,y2,y3,y4,y5,jz 0,jz 0,jz 0,jz 0,jz 0,jz 0]
@[reducible] def RB(y0 y1 y2 y3 y4 y5 y6 y7 y8 y9 iF iN n:Int):List AV:=[jz 7,y0,y1,y2,y3,y4,y5,n,jz 0,jz 0,jz 0,jz 0,jz 0]
@[reducible] def dp:Nat:=7
@[reducible] def dq:Nat:=6
@[reducible] def nP:Int:=5
@[reducible] def nA:Int:=6
@[reducible] def nB:Int:=7
theorem NX(y0 y1 y2 y3 y4 y5 y6 y7 y8 y9 iF iN n:Int):BJ ss es ds lo hi dq (XN y0 y1 y2 y3 y4 y5 y6 y7 y8 y9 iF iN n):=Gw7.gr ss gs es ds zQ zY kr yK lo hi y0 y1 y2 y3 y4 y5 n 0 0 0 0 0
theorem gr(y0 y1 y2 y3 y4 y5 y6 y7 y8 y9 iF iN:Int):BJ ss es ds lo hi dp (XS y0 y1 y2 y3 y4 y5 y6 y7 y8 y9 iF iN):=by exact FV
end Gw6
theorem gI(y0 y1 y2 y3 y4 y5:Int):BJ ss es ds lo hi 7 [y0,y1,y2,y3,y4,y5]:=Gw6.gr ss gs es ds zQ zY kr yK lo hi y0 y1 y2 y3 y4 y5 0 0 0 0 0 0
namespace Gw5
@[reducible] def XS(y0 y1 y2 y3 y4 y5 y6 y7 y8 y9 iF iN:Int):List Int:=[y0,y1,y2,y3,y4]
@[reducible] def XN(y0 y1 y2 y3 y4 y5 y6 y7 y8 y9 iF iN n:Int):List Int:=[y0,y1,y2,y3,y4,n]
@[reducible] def XL(y0 y1 y2 y3 y4 y5 y6 y7 y8 y9 iF iN:Int):Int:=y4
@[reducible] def RA(y0 y1 y2 y3 y4 y5 y6 y7 y8 y9 iF iN:Int):List AV:=[jz 5,y0,y1,y2,y3,y4,jz 0,jz 0,jz 0,jz 0,jz 0,jz 0,jz 0]
@[reducible] def RB(y0 y1 y2 y3 y4 y5 y6 y7 y8 y9 iF iN n:Int):List AV:=[jz 6,y0,y1,y2,y3,y4,n,jz 0,jz 0,jz 0,jz 0,jz 0,jz 0]
@[reducible] def dp:Nat:=8
@[reducible] def dq:Nat:=7
@[reducible] def nP:Int:=4
@[reducible] def nA:Int:=5
@[reducible] def nB:Int:=6
theorem NX(y0 y1 y2 y3 y4 y5 y6 y7 y8 y9 iF iN n:Int):BJ ss es ds lo hi dq (XN y0 y1 y2 y3 y4 y5 y6 y7 y8 y9 iF iN n):=Gw6.gr ss gs es ds zQ zY kr yK lo hi y0 y1 y2 y3 y4 n 0 0 0 0 0 0
theorem gr(y0 y1 y2 y3 y4 y5 y6 y7 y8 y9 iF iN:Int):BJ ss es ds lo hi dp (XS y0 y1 y2 y3 y4 y5 y6 y7 y8 y9 iF iN):=by exact FV
end Gw5
theorem gJ(y0 y1 y2 y3 y4:Int):BJ ss es ds lo hi 8 [y0,y1,y2,y3,y4]:=Gw5.gr ss gs es ds zQ zY kr yK lo hi y0 y1 y2 y3 y4 0 0 0 0 0 0 0
namespace Gw4
@[reducible] def XS(y0 y1 y2 y3 y4 y5 y6 y7 y8 y9 iF iN:Int):List Int:=[y0,y1,y2,y3]
@[reducible] def XN(y0 y1 y2 y3 y4 y5 y6 y7 y8 y9 iF iN n:Int):List Int:=[y0,y1,y2,y3,n]
@[reducible] def XL(y0 y1 y2 y3 y4 y5 y6 y7 y8 y9 iF iN:Int):Int:=y3
@[reducible] def RA(y0 y1 y2 y3 y4 y5 y6 y7 y8 y9 iF iN:Int):List AV:=[jz 4,y0,y1,y2,y3,jz 0,jz 0,jz 0,jz 0,jz 0,jz 0,jz 0,jz 0]
@[reducible] def RB(y0 y1 y2 y3 y4 y5 y6 y7 y8 y9 iF iN n:Int):List AV:=[jz 5,y0,y1,y2,y3,n,jz 0,jz 0,jz 0,jz 0,jz 0,jz 0,jz 0]
@[reducible] def dp:Nat:=9
@[reducible] def dq:Nat:=8
@[reducible] def nP:Int:=3
@[reducible] def nA:Int:=4
@[reducible] def nB:Int:=5
theorem NX(y0 y1 y2 y3 y4 y5 y6 y7 y8 y9 iF iN n:Int):BJ ss es ds lo hi dq (XN y0 y1 y2 y3 y4 y5 y6 y7 y8 y9 iF iN n):=Gw5.gr ss gs es ds zQ zY kr yK lo hi y0 y1 y2 y3 n 0 0 0 0 0 0 0
theorem gr(y0 y1 y2 y3 y4 y5 y6 y7 y8 y9 iF iN:Int):BJ ss es ds lo hi dp (XS y0 y1 y2 y3 y4 y5 y6 y7 y8 y9 iF iN):=by exact FV
end Gw4
theorem gK(y0 y1 y2 y3:Int):BJ ss es ds lo hi 9 [y0,y1,y2,y3]:=Gw4.gr ss gs es ds zQ zY kr yK lo hi y0 y1 y2 y3 0 0 0 0 0 0 0 0
namespace Gw3
@[reducible] def XS(y0 y1 y2 y3 y4 y5 y6 y7 y8 y9 iF iN:Int):List Int:=[y0,y1,y2]
@[reducible] def XN(y0 y1 y2 y3 y4 y5 y6 y7 y8 y9 iF iN n:Int):List Int:=[y0,y1,y2,n]
@[reducible] def XL(y0 y1 y2 y3 y4 y5 y6 y7 y8 y9 iF iN:Int):Int:=y2
@[reducible] def RA(y0 y1 y2 y3 y4 y5 y6 y7 y8 y9 iF iN:Int):List AV:=[jz 3,y0,y1,y2,jz 0,jz 0,jz 0,jz 0,jz 0,jz 0,jz 0,jz 0,jz 0]
@[reducible] def RB(y0 y1 y2 y3 y4 y5 y6 y7 y8 y9 iF iN n:Int):List AV:=[jz 4,y0,y1,y2,n,jz 0,jz 0,jz 0,jz 0,jz 0,jz 0,jz 0,jz 0]
@[reducible] def dp:Nat:=10
@[reducible] def dq:Nat:=9
@[reducible] def nP:Int:=2
@[reducible] def nA:Int:=3
@[reducible] def nB:Int:=4
theorem NX(y0 y1 y2 y3 y4 y5 y6 y7 y8 y9 iF iN n:Int):BJ ss es ds lo hi dq (XN y0 y1 y2 y3 y4 y5 y6 y7 y8 y9 iF iN n):=Gw4.gr ss gs es ds zQ zY kr yK lo hi y0 y1 y2 n 0 0 0 0 0 0 0 0
theorem gr(y0 y1 y2 y3 y4 y5 y6 y7 y8 y9 iF iN:Int):BJ ss es ds lo hi dp (XS y0 y1 y2 y3 y4 y5 y6 y7 y8 y9 iF iN):=by exact FV
end Gw3
theorem gL(y0 y1 y2:Int):BJ ss es ds lo hi 10 [y0,y1,y2]:=Gw3.gr ss gs es ds zQ zY kr yK lo hi y0 y1 y2 0 0 0 0 0 0 0 0 0
namespace Gw2
@[reducible] def XS(y0 y1 y2 y3 y4 y5 y6 y7 y8 y9 iF iN:Int):List Int:=[y0,y1]
@[reducible] def XN(y0 y1 y2 y3 y4 y5 y6 y7 y8 y9 iF iN n:Int):List Int:=[y0,y1,n]
@[reducible] def XL(y0 y1 y2 y3 y4 y5 y6 y7 y8 y9 iF iN:Int):Int:=y1
@[reducible] def RA(y0 y1 y2 y3 y4 y5 y6 y7 y8 y9 iF iN:Int):List AV:=[jz 2,y0,y1,jz 0,jz 0,jz 0,jz 0,jz 0,jz 0,jz 0,jz 0,jz 0,jz 0]
@[reducible] def RB(y0 y1 y2 y3 y4 y5 y6 y7 y8 y9 iF iN n:Int):List AV:=[jz 3,y0,y1,n,jz 0,jz 0,jz 0,jz 0,jz 0,jz 0,jz 0,jz 0,jz 0]
@[reducible] def dp:Nat:=11
@[reducible] def dq:Nat:=10
@[reducible] def nP:Int:=1
@[reducible] def nA:Int:=2
@[reducible] def nB:Int:=3
theorem NX(y0 y1 y2 y3 y4 y5 y6 y7 y8 y9 iF iN n:Int):BJ ss es ds lo hi dq (XN y0 y1 y2 y3 y4 y5 y6 y7 y8 y9 iF iN n):=Gw3.gr ss gs es ds zQ zY kr yK lo hi y0 y1 n 0 0 0 0 0 0 0 0 0
theorem gr(y0 y1 y2 y3 y4 y5 y6 y7 y8 y9 iF iN:Int):BJ ss es ds lo hi dp (XS y0 y1 y2 y3 y4 y5 y6 y7 y8 y9 iF iN):=by exact FV
end Gw2
theorem gM(y0 y1:Int):BJ ss es ds lo hi 11 [y0,y1]:=Gw2.gr ss gs es ds zQ zY kr yK lo hi y0 y1 0 0 0 0 0 0 0 0 0 0
namespace Gw1
@[reducible] def XS(y0 y1 y2 y3 y4 y5 y6 y7 y8 y9 iF iN:Int):List Int:=[y0]
@[reducible] def XN(y0 y1 y2 y3 y4 y5 y6 y7 y8 y9 iF iN n:Int):List Int:=[y0,n]
@[reducible] def XL(y0 y1 y2 y3 y4 y5 y6 y7 y8 y9 iF iN:Int):Int:=y0
@[reducible] def RA(y0 y1 y2 y3 y4 y5 y6 y7 y8 y9 iF iN:Int):List AV:=[jz 1,y0,jz 0,jz 0,jz 0,jz 0,jz 0,jz 0,jz 0,jz 0,jz 0,jz 0,jz 0]
@[reducible] def RB(y0 y1 y2 y3 y4 y5 y6 y7 y8 y9 iF iN n:Int):List AV:=[jz 2,y0,n,jz 0,jz 0,jz 0,jz 0,jz 0,jz 0,jz 0,jz 0,jz 0,jz 0]
@[reducible] def dp:Nat:=12
@[reducible] def dq:Nat:=11
@[reducible] def nP:Int:=0
@[reducible] def nA:Int:=1
@[reducible] def nB:Int:=2
theorem NX(y0 y1 y2 y3 y4 y5 y6 y7 y8 y9 iF iN n:Int):BJ ss es ds lo hi dq (XN y0 y1 y2 y3 y4 y5 y6 y7 y8 y9 iF iN n):=Gw2.gr ss gs es ds zQ zY kr yK lo hi y0 n 0 0 0 0 0 0 0 0 0 0
theorem gr(y0 y1 y2 y3 y4 y5 y6 y7 y8 y9 iF iN:Int):BJ ss es ds lo hi dp (XS y0 y1 y2 y3 y4 y5 y6 y7 y8 y9 iF iN):=by exact FV
end Gw1
theorem gN(y0:Int):BJ ss es ds lo hi 12 [y0]:=Gw1.gr ss gs es ds zQ zY kr yK lo hi y0 0 0 0 0 0 0 0 0 0 0 0
end
theorem gY(ss:List Sg)(gs:List Gr)(es ds:List (List AV))(zQ:es=ss.map Ah)(zY:ds=gs.map Ak)(kr:CS ss)(yK:EJ ss)(lo hi:Int):∀l:List Int,l.length<=12/\1<=l.length->BJ ss es ds lo hi (13-l.length) l
 | [],h=>absurd h.2 Z.d
 | [x0],h=>gN ss gs es ds zQ zY kr yK lo hi x0
 | [x0,x1],h=>gM ss gs es ds zQ zY kr yK lo hi x0 x1
 | [x0,x1,x2],h=>gL ss gs es ds zQ zY kr yK lo hi x0 x1 x2
 | [x0,x1,x2,x3],h=>gK ss gs es ds zQ zY kr yK lo hi x0 x1 x2 x3
 | [x0,x1,x2,x3,x4],h=>gJ ss gs es ds zQ zY kr yK lo hi x0 x1 x2 x3 x4
 | [x0,x1,x2,x3,x4,x5],h=>gI ss gs es ds zQ zY kr yK lo hi x0 x1 x2 x3 x4 x5
 | [x0,x1,x2,x3,x4,x5,x6],h=>gH ss gs es ds zQ zY kr yK lo hi x0 x1 x2 x3 x4 x5 x6
 | [x0,x1,x2,x3,x4,x5,x6,x7],h=>gG ss gs es ds zQ zY kr yK lo hi x0 x1 x2 x3 x4 x5 x6 x7
 | [x0,x1,x2,x3,x4,x5,x6,x7,x8],h=>gF ss gs es ds zQ zY kr yK lo hi x0 x1 x2 x3 x4 x5 x6 x7 x8
 | [x0,x1,x2,x3,x4,x5,x6,x7,x8,x9],h=>gD ss gs es ds zQ zY kr yK lo hi x0 x1 x2 x3 x4 x5 x6 x7 x8 x9
 | [x0,x1,x2,x3,x4,x5,x6,x7,x8,x9,x10],h=>gB ss gs es ds zQ zY kr yK lo hi x0 x1 x2 x3 x4 x5 x6 x7 x8 x9 x10
 | [x0,x1,x2,x3,x4,x5,x6,x7,x8,x9,x10,x11],h=>TL ss gs es ds zQ zY kr yK lo hi x0 x1 x2 x3 x4 x5 x6 x7 x8 x9 x10 x11
 | _::_::_::_::_::_::_::_::_::_::_::_::_::_,h=>absurd h.1 (by simp)
instance ltL_dec:∀l m:List Int,Decidable (ltL l m)
 | a::l,b::m=>match ltL_dec l m with
   | .isTrue h=>if h1:a<b then .isTrue (.inl h1) else if h2:a=b then .isTrue (.inr ⟨h2,h⟩) else .isFalse λh3=>h3.elim h1 λh4=>h2 h4.1
   | .isFalse h=>if h1:a<b then .isTrue (.inl h1) else .isFalse λh3=>h3.elim h1 λh4=>h h4.2
 | [],_=>.isFalse λh=>h
 | _::_,[]=>.isFalse λh=>h
def ltR(l m:List Int):Prop:=ltL (toR l).key (toR m).key
instance (l m:List Int):Decidable (ltR l m):=ltL_dec _ _
def Jr(l:List Int):List (List Int)->List (List Int)
 | []=>[l]
 | k::m=>if ltR k l then k::Jr l m else l::k::m
def J2:List (List Int)->List (List Int)
 | []=>[]
 | l::m=>Jr l (J2 m)
theorem PS(l:List Int):∀m,(Jr l m).Perm (l::m)
 | []=>.refl _
 | k::m=>by
   unfold Jr;split
   ·exact((PS l m).cons k).trans (.swap l k m)
   ·exact .refl _
theorem Js:∀m,(J2 m).Perm m
 | []=>.refl _
 | l::m=>(PS l _).trans ((Js m).cons l)
theorem UM{a b c:List Int}:ltR a b->ltR b c->ltR a c:=MM _ _ _
theorem gZ(a:List Int):¬ltR a a:=Oy _
theorem gm(a b:List Int):ltR a b\/toR a=toR b\/ltR b a:=(MN (toR a).key (toR b).key rfl).imp id λh=>h.imp (λh=>R13.key_inj h) id
theorem gq{a b c:List Int}(h1:¬ltR b a)(h2:¬ltR c b):¬ltR c a:=λh=>by
 rcases gm a b with h3|h3|h3
 ·exact h2 (UM h h3)
 ·unfold ltR at h h2;rw[h3] at h;exact h2 h
 ·exact h1 h3
theorem UN(l:List Int):∀m,m.Pairwise (λx y=>¬ltR y x)->(Jr l m).Pairwise (λx y=>¬ltR y x)
 | [],_=>List.pairwise_singleton _ _
 | k::m,h=>by
   obtain⟨h1,h2⟩:=List.pairwise_cons.1 h;unfold Jr;split
   ·rename_i hk
    refine List.pairwise_cons.2 ⟨λx hx=>?_,UN l m h2⟩;rcases List.mem_cons.1 ((PS l m).mem_iff.1 hx) with rfl|hx
    ·exact λh3=>gZ _ (UM hk h3)
    ·exact h1 x hx
   ·rename_i hk
    refine List.pairwise_cons.2 ⟨λx hx=>?_,h⟩;rcases List.mem_cons.1 hx with rfl|hx
    ·exact hk
    ·exact gq hk (h1 x hx)
theorem PT:∀m,(J2 m).Pairwise (λx y=>¬ltR y x)
 | []=>List.Pairwise.nil
 | l::m=>UN l _ (PT m)
theorem UO:∀ {l m:List R13},l.Perm m->l.Pairwise (λx y=>¬ltL y.key x.key)->m.Pairwise (λx y=>¬ltL y.key x.key)->l=m
 | [],m,hp,_,_=>(List.nil_perm.1 hp).symm
 | a::l,[],hp,_,_=>absurd hp.length_eq (by simp)
 | a::l,b::m,hp,h1,h2=>by
   obtain⟨k1,k2⟩:=List.pairwise_cons.1 h1;obtain⟨k3,k4⟩:=List.pairwise_cons.1 h2
   have e:a=b:=by
    rcases List.mem_cons.1 (hp.mem_iff.1 (List.mem_cons_self (a:=a) (l:=l))) with e|ha
    ·exact e
    ·rcases List.mem_cons.1 (hp.mem_iff.2 (List.mem_cons_self (a:=b) (l:=m))) with e|hb
     ·exact e.symm
     ·have h3:=k3 a ha
      have h4:=k1 b hb;rcases MN a.key b.key rfl with h|h|h
      ·exact absurd h h3
      ·exact R13.key_inj h
      ·exact absurd h h4
   subst e;rw[UO (List.Perm.cons_inv hp) k2 k4]
theorem gu{m:List (List Int)}{rs:List R13}(hp:rs.Perm (m.map toR))(hs:rs.Pairwise (λx y=>¬ltL y.key x.key)):rs=(J2 m).map toR:=
 UO (hp.trans ((Js m).map toR).symm) hs (List.pairwise_map.2 (PT m))
def EL(ss:List Sg)(lo hi from_:Int)(ls:List (List Int)):Int×List (List Int):=ls.foldl (λs l=>Be ss lo hi (13-l.length) l (BU ss from_ l) s) (0,[])
def Ei(ss:List Sg)(lo hi from_:Int)(ls:List (List Int)):(Int×List (List Int))×Int:=
 if hi<lo\/lo < -from_ then ((0,[]),40)
 else if (EL ss lo hi from_ ls).1≠0 then ((0,[]),(EL ss lo hi from_ ls).1)
 else if (EL ss lo hi from_ ls).2=[] then ((0,[]),40)
 else ((from_,J2 (EL ss lo hi from_ ls).2),0)
structure Cu(ss:List Sg)(l:List Int):Prop where
 len:l.length<=12/\1<=l.length
 seg:∀n,n∈l->0<=n/\n.toNat<ss.length
theorem UQ(sn:List Nat)(j:Nat):Up0 (sn.map (λk:Nat=>[AV.int .i64 (k:Int)])++[[AV.int .i64 (j:Int)]]):=by
 have:=BM (f:=λk:Nat=>[AV.int .i64 (k:Int)]) (λd=>rfl) (sn++[j])
 rwa [List.map_append] at this
theorem Md:∀(n:Nat) (l:List Nat),l.Nodup->(∀i,i∈l->i<n)->l.length<=n
 | 0,l,_,h2=>by
   cases l with
   | nil=>simp
   | cons a l=>exact absurd (h2 a (by simp)) Z.o
 | n+1,l,h,h2=>by
   have:=Md n (l.erase n) (h.erase n) λi hi=>by
    have h3:=(h.mem_erase_iff.1 hi);have:=h2 i h3.2;omega
   rw[List.length_erase] at this;split at this<;>omega
theorem gy{P:Program}(hP:Tryz.prog=P){h:A7}{K:AV->A7->Prop}(hK:K (.tuple []) h) :
 AJ P 210 [.nils,.func (.func 211) [] []] h K:=by
 subst hP;refine⟨⟨_,Tryz.func210,by kernel_rfl,by kernel_rfl⟩,λC vs hC RC hv=>?_⟩;subst hC;obtain⟨tY,uT⟩:=hv
 have o7:vs = #[vs.getD 0 undef,vs.getD 1 undef]:=by
  have hn:vs.size=2:=(by simpa using tY);obtain⟨l⟩:=vs
  match l,hn with
  | [x,y],_=>rfl
 have e0:=(uT 0 _ rfl).nils';rw[o7,e0];have bY:=AnyF.slices_SortFunc_none (P:=Tryz.prog) Tryz.sortFL none 0 (vs.getD 1 undef) C.w;refine bY.mono ?_;rintro e w' ⟨rfl,rfl⟩;exact⟨_,_,_,rfl,hK,rfl,RC,.tuple [] #[] rfl (λi x hx=>by simp at hx),Ext.refl _ _,Nat.le_refl _⟩
theorem gz(a b:Int)(o:Bool)(h:o=decide (a<=b)):A9 Tryz.prog 73 [.agg [a,b]] (· = .bool o):=by
 (refine A9.ofX Tryz.func73 (by kernel_rfl) (by kernel_rfl) λw hw R hR=>?_);(conv=>arg 2;cbv);(generalize hP:Tryz.prog=P);cbv;subst hw;exact⟨_,Vw.same rfl,hR _ (by rw[h];rfl)⟩
theorem g_(ss:List Sg)(gs:List Gr)(es ds:List (List AV))(zQ:es=ss.map Ah)(zY:ds=gs.map Ak)(kr:CS ss)(yK:EJ ss)(lo hi from_:Int)(hf:0<=from_/\from_<=1099511627776)(ls:List (List Int))(hls:∀l,l∈ls->Cu ss l)(hsz1:ls.length<=1000)(rs:List (List AV))(yD:rs=ls.map rtC)(v:(Int×List (List Int))×Int)(hv:v=Ei ss lo hi from_ ls) :
 A9 Tryz.prog 153 [.agg [from_,.list 13 rs],.agg [.list 3 es,.list 5 ds],.agg [lo,hi]] (· = .tuple [.agg [v.1.1,.list 13 (v.1.2.map rtC)],v.2]):=by
 have hu:Up0 es:=by rw[zQ];exact Bu ss
 have lH:Up0 ds:=by rw[zY];exact Bv gs
 have lW:Up0 rs:=by rw[yD];exact BM (f:=rtC) (λd=>rfl) ls
 obtain⟨⟨v1,v2⟩,v3⟩:=v;obtain⟨vs,evs⟩:=Z.e (v2.map rtC);show A9 Tryz.prog 153 [.agg [from_,.list 13 rs],.agg [.list 3 es,.list 5 ds],.agg [lo,hi]] (· = .tuple [.agg [v1,.list 13 (v2.map rtC)],v3]);rw[<- evs];obtain⟨o,eo⟩:=Z.e (decide (lo<=hi));(refine A9.ofY Tryz.func153 (by kernel_rfl) (by kernel_rfl) (Z.w λzB zE yN _ zF _ _ _ _ _ _ _ _ _ zM _ _ _ _ _ hw zC zA yJ _ zI _ _ _ _ _ _ _ zH _ zV _ _ _ _ _ hz R hR=>?_));(conv=>arg 2;cbv);(generalize hP:Tryz.prog=P);cbv;refine Call.stepE (by rw[<- hP];exact gz lo hi o eo) rfl ?_;cbv;obtain⟨a0,uO⟩:∃a0,a0 = -from_:=⟨_,rfl⟩;have c0:yN .neg .i64 from_=a0:=by rw[yJ,uO];simp only[AO];rw[IntKind.wrap_i64];omega
 by_cases hr:lo<=hi
 rotate_left 1
 ·have n1:zF o=true:=by rw[zI,eo];simp[hr]
  simp only[n1];cbv
  have uz:(v1,v2,v3)=(0,[],40):=by
   unfold Ei at hv;rw[if_pos (.inl Z.o)] at hv;simp only[Prod.mk.injEq] at hv ⊢;exact⟨hv.1.1,hv.1.2,hv.2⟩
  simp only[Prod.mk.injEq] at uz;obtain⟨rfl,rfl,rfl⟩:=uz;subst evs;exact⟨_,Vw.tuple (rs:=[.agg [jz 0,.list 13 []],.int .i64 40]) ⟨Vw.agg (rs:=[.int .i64 0,.list 13 []]) ⟨Vw.same rfl,Vw.nil 13,trivial⟩,Vw.same rfl,trivial⟩,hR _ rfl⟩
 have n1:zF o=false:=by rw[zI,eo];simp[hr]
 simp only[n1];cbv;simp only[c0];(split<;>rename_i h1<;>(try (simp only[hz,Z.a,AF,AC,AO,AP,AL,reduceCtorEq] at h1))<;>(try cbv))
 ·have uz:(v1,v2,v3)=(0,[],40):=by
   unfold Ei at hv;rw[if_pos (.inr Z.o)] at hv;simp only[Prod.mk.injEq] at hv ⊢;exact⟨hv.1.1,hv.1.2,hv.2⟩
  simp only[Prod.mk.injEq] at uz;obtain⟨rfl,rfl,rfl⟩:=uz;subst evs;exact⟨_,Vw.tuple (rs:=[.agg [jz 0,.list 13 []],.int .i64 40]) ⟨Vw.agg (rs:=[.int .i64 0,.list 13 []]) ⟨Vw.same rfl,Vw.nil 13,trivial⟩,Vw.same rfl,trivial⟩,hR _ rfl⟩
 obtain⟨L,eL,L0,Ln⟩:=Z.l zH rs;simp only[eL];have hemp:Up0 ([]:List (List AV)):=⟨rfl⟩;have oL:rs.length=ls.length:=by rw[yD];simp
 unfold Ei at hv;rw[if_neg (show ¬(hi<lo\/lo < -from_) by omega)] at hv
 refine Ae.data hw (S:=Int×(Int×List (List Int))×List (List AV)) (λs=>fr 84 [(3,.ref 0 2 0 0),(4,.ref 1 2 0 0),(6,.ref 3 2 0 0),(8,.ref 5 6 0 0),(31,.list 13 rs),(32,L),(33,s.1)])
  (λs=>[.live 2 [[from_,.list 13 rs]],.live 2 [[.list 3 es,.list 5 ds]],.live 2 [[lo,hi]],.live 2 [[jz 0,.nils]],.live 0 s.2.2,.live 6 [[.list 3 es,.list 5 ds,lo,hi,.mapr 4,s.2.1.1]]])
  (λs=>0<=s.1/\s.1<=L/\s.2.1=EL ss lo hi from_ (ls.take s.1.toNat)/\GOk s.2.1/\(s.2.1.1=0\/s.2.1.1=13)/\s.2.2=ents s.2.1.2/\Up0 s.2.2) (λs=>(L-s.1).toNat) (0,(0,[]),[]) Z.i ⟨Int.le_refl _,L0,rfl,⟨by simp,λ_=>by simp,λk hk=>by simp at hk,List.nodup_nil⟩,.inl rfl,rfl,hemp⟩ ?_
 rintro⟨i,⟨e,m⟩,em⟩ zJ Q' hN hE hR'
 have zJ:0<=i/\i<=L/\(e,m)=EL ss lo hi from_ (ls.take i.toNat)/\GOk (e,m)/\(e=0\/e=13)/\em=ents m/\Up0 em:=zJ;cbv;obtain⟨zW,yZ,nX,kU,he,xU,xK⟩:=zJ;(split<;>rename_i hc<;>(try (simp only[hz,Z.a,AF,AC,AO,AP,AL,reduceCtorEq] at hc))<;>(try cbv))
 ·have hit:i.toNat<ls.length:=by omega
  obtain⟨l,hl⟩:∃l,ls[i.toNat]?=some l:=⟨_,List.getElem?_eq_getElem hit⟩;have lg:=hls l (List.mem_of_getElem? hl);obtain⟨i2,kW⟩:=Z.e (i+1);have a4:zB .add .i64 i 1=i2:=by rw[zC,kW];show IntKind.i64.wrap (i+1)=i+1;rw[IntKind.wrap_i64];omega
  have oG:rs[i.toNat]?=some (toR l).row:=(by rw[yD,List.getElem?_map,hl];rfl);obtain⟨y,ey⟩:=Z.e (BU ss from_ l);have hend:=NJ ss gs es ds zQ zY kr from_ hf rs lW l lg.len.1 lg.seg;have hend:A9 Tryz.prog 167 [.agg [from_,.list 13 rs],.agg [.list 3 es,.list 5 ds],.agg (toR l).row] (· = .int .i64 y):=(by rw[ey];exact hend);obtain⟨⟨e3,m3⟩,qL⟩:∃s',s'=Be ss lo hi (13-l.length) l y (e,m):=⟨_,rfl⟩
  have hs2:(e3,m3)=EL ss lo hi from_ (ls.take i2.toNat):=by
   rw[qL,kW,Eu zW hl];unfold EL at nX ⊢;rw[List.foldl_append,<- nX,List.foldl_cons,List.foldl_nil,ey]
  have uB:=MO ss lo hi (13-l.length) l y (e,m) kU lg.len;have uf:=MP ss lo hi (13-l.length) l y (e,m) he;rw[<- qL] at uB uf;obtain⟨wz,eem3⟩:=Z.e (ents m3);have yu:Up0 wz:=(by rw[eem3];exact Jm m3);have sS:=Sk kr hf l;rw[<- ey] at sS
  have sH:∀ {H:A7} {K:AV->A7->Prop},H[5]?=some (.live 6 [[.list 3 es,.list 5 ds,lo,hi,.mapr 4,e]])->H[4]?=some (.live 0 em)->K (.tuple []) ((H.set 5 (.live 6 [[.list 3 es,.list 5 ds,lo,hi,.mapr 4,e3]])).set 4 (.live 0 wz))->AJ P 209 [.ref 5 6 0 0,.agg (toR l).row,y] H K:=λh1 h2 hK =>
   BJ.call hu lH (gY ss gs es ds zQ zY kr yK lo hi l lg.len) hP Z.d h1 (by rw[<- xU];exact h2) kU he sS lg.seg (by rw[<- qL,<- eem3];exact hK)
  obtain⟨row,erow⟩:=Z.e (toR l);rw[<- erow] at oG hend sH;obtain⟨n,s0,s1,s2,s3,s4,s5,s6,s7,s8,s9,s10,s11⟩:=row;refine Idx.mk _ zW oG ?_;cbv;have nJ:∀n s0 s1 s2 s3 s4 s5 s6 s7 s8 s9 s10 s11:Int,Af 0 [AV.agg [from_,.list 13 rs],.agg [.list 3 es,.list 5 ds],.agg [n,s0,s1,s2,s3,s4,s5,s6,s7,s8,s9,s10,s11]]=true:=λn s0 s1 s2 s3 s4 s5 s6 s7 s8 s9 s10 s11=>(by simp only[Af,AV.upto,hu.get,lH.get,lW.get];rfl);refine AB.stepE (by rw[<- hP];exact hend) (nJ _ _ _ _ _ _ _ _ _ _ _ _ _) ?_;cbv;refine Call.of (sH rfl rfl ?_);cbv;simp only[a4];refine hN (i2,(e3,m3),wz) _ _ ?hx ?hi ?ht
  case hx=>exact Z.i
  case hi=>exact⟨by simp only;omega,by simp only;omega,hs2,uB,uf,eem3,yu⟩
  case ht=>simp only;omega
 refine hE _ _ _ ?_;cbv;have hsv:(e,m)=EL ss lo hi from_ ls:=by rw[nX,List.take_of_length_le Z.o]
 rw[<- hsv] at hv;clear nX;have ng:∀x,x∈em->x.length=2:=by rw[xU];exact Kj m
 obtain⟨nE,enE⟩:∃n:Int,n=em.length:=⟨_,rfl⟩;refine Xo.range (kt:=239) (et:=3) (by rw[<- hP];kernel_rfl) rfl ng nE enE ?_;cbv
 refine Ae.data hw (S:=List Nat×List (List AV)×Option (Nat×List (List AV))) (λs=>fr 84 [(6,.ref 3 2 0 0),(8,.ref 5 6 0 0),(11,.ref 6 2 0 0),(52,.ref 7 0 0 0)])
  (λs=>match s.2.2 with
    | none=>[.live 2 [[from_,.list 13 rs]],.live 2 [[.list 3 es,.list 5 ds]],.live 2 [[lo,hi]],.live 2 [[jz 0,.nils]],.live 0 em,.live 6 [[.list 3 es,.list 5 ds,lo,hi,.mapr 4,e]],.live 2 [[from_,.nils]],.live 0 ([.mapr 4,.int .i64 nE,.int .i64 nE]::s.2.1)]
    | some (k,w)=>[.live 2 [[from_,.list 13 rs]],.live 2 [[.list 3 es,.list 5 ds]],.live 2 [[lo,hi]],.live 2 [[jz 0,.nils]],.live 0 em,.live 6 [[.list 3 es,.list 5 ds,lo,hi,.mapr 4,e]],.live 2 [[from_,.sl 8 13 0 k]],.live 0 ([.mapr 4,.int .i64 nE,.int .i64 nE]::s.2.1),.live 13 w])
  (λs=>s.1.Nodup/\(∀i,i∈s.1->i<m.length)/\s.2.1=s.1.map (λk:Nat=>[AV.int .i64 (k:Int)])/\Up0 s.2.1/\(match s.2.2 with|none=>s.1=[]|some (k,w)=>s.1≠[]/\k=s.1.length/\k=w.length/\Up0 w/\w=s.1.map (λi=>rtC (m.getD i [])))) (λs=>m.length-s.1.length) ([],[],none) Z.i ⟨List.nodup_nil,(λi hi=>by simp at hi),rfl,hemp,rfl⟩ ?_
 rintro⟨sn,sr,acc⟩ zJ Q' hN hE hR'
 cases acc with
 | none =>
   have zJ:sn.Nodup/\(∀i,i∈sn->i<m.length)/\sr=sn.map (λk:Nat=>[AV.int .i64 (k:Int)])/\Up0 sr/\sn=[]:=zJ;obtain⟨hnd,yC,pz,husr,qR⟩:=zJ;cbv;refine Xo.next (es:=em) (sr:=sr) (sn:=sn) rfl rfl ng enE pz ?_ ?_
   ·intro kT
    cbv;refine hE _ _ _ ?_;cbv
    have oq:m=[]:=by
     have:em.length=0:=by
      by_cases h0:em.length=0
      ·exact h0
      ·have:=kT 0 Z.o;rw[qR] at this;simp at this
     rw[xU,Jo] at this;exact List.length_eq_zero_iff.1 this
    rw[oq] at hv;refine Call.of (gy hP ?_);cbv;(split<;>rename_i qK<;>(try (simp only[hz,Z.a,AF,AC,AO,AP,AL,reduceCtorEq] at qK))<;>(try cbv))
    ·rw[if_pos (show ¬(e,([]:List (List Int))).1=0 from qK)] at hv
     simp only[Prod.mk.injEq] at hv;obtain⟨⟨rfl,rfl⟩,rfl⟩:=hv;subst evs;repeat' (refine And.intro ?_ ?_)
     all_goals exact⟨_,Vw.tuple (rs:=[.agg [jz 0,.list 13 []],.int .i64 v3]) ⟨Vw.agg (rs:=[.int .i64 0,.list 13 []]) ⟨Vw.same rfl,Vw.nil 13,trivial⟩,Vw.same rfl,trivial⟩,hR _ rfl⟩
    ·have c2:zM 0=0:=by rw[zV];rfl
     have c3:zE .eql 0 0=true:=(by rw[zA];rfl);simp only[c2,c3];cbv;rw[if_neg (show ¬¬(e,([]:List (List Int))).1=0 from λh=>h qK),if_pos rfl] at hv;simp only[Prod.mk.injEq] at hv;obtain⟨⟨rfl,rfl⟩,rfl⟩:=hv;subst evs;repeat' (refine And.intro ?_ ?_)
     all_goals exact⟨_,Vw.tuple (rs:=[.agg [jz 0,.list 13 []],.int .i64 40]) ⟨Vw.agg (rs:=[.int .i64 0,.list 13 []]) ⟨Vw.same rfl,Vw.nil 13,trivial⟩,Vw.same rfl,trivial⟩,hR _ rfl⟩
   ·intro j kx vx hj nu
    obtain⟨l,hl,rfl,rfl⟩:∃l,m[j]?=some l/\kx = .agg (toR l).row/\vx = .int .i64 (Bh l):=by
     rw[xU] at nu;unfold ents at nu;rw[List.getElem?_map] at nu
     cases hm:m[j]? with
     | none=>rw[hm] at nu;cases nu
     | some l =>
       rw[hm] at nu;simp only[Option.map_some,Option.some.injEq,enR,List.cons.injEq,and_true] at nu;exact⟨l,rfl,nu.1.symm,nu.2.symm⟩
    have wC:j<m.length:=(List.getElem?_eq_some_iff.1 hl).1;have uF:m.getD j []=l:=(by rw[List.getD_eq_getElem?_getD,hl];rfl);obtain⟨uo,esr2⟩:∃x,x=sr++[[AV.int .i64 (j:Int)]]:=⟨_,rfl⟩;have u_:Up0 uo:=(by rw[esr2,pz];exact UQ sn j);obtain⟨row,erow⟩:=Z.e (toR l);obtain⟨q,eq⟩:=Z.e (Bh l);rw[<- erow,<- eq] at nu;rw[<- erow,<- eq,<- esr2];have vF:uo=(sn++[j]).map λk:Nat=>[AV.int .i64 (k:Int)]:=(by rw[esr2,pz];simp);have vN:(sn++[j]).Nodup:=List.nodup_append.2 ⟨hnd,by simp,λa ha b hb=>by simp at hb;subst hb;exact λe=>hj (e▸ha)⟩
    have vU:∀i,i∈sn++[j]->i<m.length:=λi hi=>by
     rcases List.mem_append.1 hi with hi|hi
     ·exact yC i hi
     ·simp at hi;omega
    have kS:sn.length<m.length:=by
     have:=Md (m.length) (sn++[j]) vN vU;simp at this;omega
    have erow2:row.row=rtC l:=(by rw[erow];rfl);obtain⟨n,s0,s1,s2,s3,s4,s5,s6,s7,s8,s9,s10,s11⟩:=row;cbv;refine Xo.entry (es:=em) (sr:=uo) (sr0:=sr) (sn:=sn) rfl rfl ng enE pz esr2 nu ?_;cbv;refine Ob.mk Z.d ?_;refine hN (sn++[j],uo,some (1,[[.int .i64 n,.int .i64 s0,.int .i64 s1,.int .i64 s2,.int .i64 s3,.int .i64 s4,.int .i64 s5,.int .i64 s6,.int .i64 s7,.int .i64 s8,.int .i64 s9,.int .i64 s10,.int .i64 s11]])) _ _ ?hx ?hi ?ht
    case hx=>(refine Z.k (λj=>[0,1,2,3,4,5,6,7,9].getD j 0) ?_;cbv;(repeat' (first|exact trivial|rfl|assumption|(refine Bn.hd (es0:=uo) Z.m rfl rfl ?_;cbv)|apply And.intro|(simp only[hz,Z.a,AF,AC,AO,AP,AL,reduceCtorEq];first|done|assumption)|exact Bn.same Z.m (by first|assumption|rfl)|exact FzL.mk rfl rfl rfl Z.m (by first|assumption|rfl) Z.d|(refine Bn.one ?_;cbv))))
    case hi=>exact⟨vN,vU,vF,u_,by simp,by rw[qR];rfl,rfl,⟨rfl⟩,by rw[qR];show [R13.row ⟨n,s0,s1,s2,s3,s4,s5,s6,s7,s8,s9,s10,s11⟩]=[rtC (m.getD j [])];rw[uF,<- erow2]⟩
    case ht=>simp only[List.length_append,List.length_cons,List.length_nil];omega
 | some acc =>
   obtain⟨k,w⟩:=acc;have zJ:sn.Nodup/\(∀i,i∈sn->i<m.length)/\sr=sn.map (λk:Nat=>[AV.int .i64 (k:Int)])/\Up0 sr/\(sn≠[]/\k=sn.length/\k=w.length/\Up0 w/\w=sn.map (λi=>rtC (m.getD i []))):=zJ;obtain⟨hnd,yC,pz,husr,qR,hk,hkw,oD,mX⟩:=zJ;cbv;refine Xo.next (es:=em) (sr:=sr) (sn:=sn) rfl rfl ng enE pz ?_ ?_
   ·intro kT
    cbv;refine hE _ _ _ ?_;cbv;have hsp:sn.Perm (List.range m.length):=(List.perm_ext_iff_of_nodup hnd List.nodup_range).2 λi=>⟨λh=>List.mem_range.2 (yC i h),λh=>kT i (by rw[xU,Jo];exact List.mem_range.1 h)⟩
    have mP:(sn.map λi=>toR (m.getD i [])).Perm (m.map toR):=by
     have e1:(List.range m.length).map (λi=>toR (m.getD i []))=m.map toR:=by
      apply List.ext_getElem
      ·simp
      ·intro i h1 h2
       simp at h1 h2;simp[List.getD_eq_getElem?_getD,h2]
     rw[<- e1];exact hsp.map _
    have hmn:m≠[]:=λh=>by
     rw[h] at yC
     cases sn with
     | nil=>exact qR rfl
     | cons a l=>exact absurd (yC a (by simp)) (by simp)
    refine Call.of (dK hP (s:=8) (n:=k) (rs:=sn.map λi=>toR (m.getD i [])) rfl (by rw[mX,List.map_map];rfl) (by rw[hk,List.length_map]) (by rw[List.length_map];have:=Md _ _ hnd yC;have:m.length<=17:=kU.len;omega) ?_);intro rs' uA mH;have lG:=gu (uA.trans mP) mH;have hrl':rs'.length=k:=(by rw[uA.length_eq,hk,List.length_map]);obtain⟨ws,ews⟩:=Z.e (rs'.map R13.row);have hws:ws=(J2 m).map rtC:=(by rw[ews,lG,List.map_map];rfl);have huws:Up0 ws:=(by rw[hws];exact BM (f:=rtC) (λd=>rfl) _);have vz:ws.length=k:=(by rw[ews,List.length_map,hrl']);rw[<- ews];clear mX;cbv;(split<;>rename_i qK<;>(try (simp only[hz,Z.a,AF,AC,AO,AP,AL,reduceCtorEq] at qK))<;>(try cbv))
    ·rw[if_pos (show ¬(e,m).1=0 from qK)] at hv
     simp only[Prod.mk.injEq] at hv;obtain⟨⟨rfl,rfl⟩,rfl⟩:=hv;subst evs;repeat' (refine And.intro ?_ ?_)
     all_goals exact⟨_,Vw.tuple (rs:=[.agg [jz 0,.list 13 []],.int .i64 v3]) ⟨Vw.agg (rs:=[.int .i64 0,.list 13 []]) ⟨Vw.same rfl,Vw.nil 13,trivial⟩,Vw.same rfl,trivial⟩,hR _ rfl⟩
    ·have c2:zE .eql (zM k) 0=false:=by rw[zA,zV];simp only[AC];rw[beq_eq_false_iff_ne];have h9:sn.length≠0:=(λh=>qR (List.length_eq_zero_iff.1 h));show (k:Int)≠0;omega
     simp only[c2];cbv;rw[if_neg (show ¬¬(e,m).1=0 from λh=>h qK),if_neg hmn] at hv;simp only[Prod.mk.injEq] at hv;obtain⟨⟨rfl,rfl⟩,rfl⟩:=hv;have e1:(ws.drop 0).take k=ws:=by rw[List.drop_zero,List.take_of_length_le Z.o]
     have hvw:∀h:A7,h[8]?=some (.live 13 ws)->Vw h (.sl 8 13 0 k) (.list 13 ws):=λh hh=>by
      have:=Vw.sl hh huws.get (i:=0) (n:=k) Z.o
      rwa [e1] at this
     exact⟨_,Vw.tuple (rs:=[.agg [v1,.list 13 ws],.int .i64 0]) ⟨Vw.agg (rs:=[.int .i64 v1,.list 13 ws]) ⟨Vw.same rfl,hvw _ rfl,trivial⟩,Vw.same rfl,trivial⟩,hR _ (by rw[evs,hws])⟩
   ·intro j kx vx hj nu
    obtain⟨l,hl,rfl,rfl⟩:∃l,m[j]?=some l/\kx = .agg (toR l).row/\vx = .int .i64 (Bh l):=by
     rw[xU] at nu;unfold ents at nu;rw[List.getElem?_map] at nu
     cases hm:m[j]? with
     | none=>rw[hm] at nu;cases nu
     | some l =>
       rw[hm] at nu;simp only[Option.map_some,Option.some.injEq,enR,List.cons.injEq,and_true] at nu;exact⟨l,rfl,nu.1.symm,nu.2.symm⟩
    have wC:j<m.length:=(List.getElem?_eq_some_iff.1 hl).1;have uF:m.getD j []=l:=(by rw[List.getD_eq_getElem?_getD,hl];rfl);obtain⟨uo,esr2⟩:∃x,x=sr++[[AV.int .i64 (j:Int)]]:=⟨_,rfl⟩;have u_:Up0 uo:=(by rw[esr2,pz];exact UQ sn j);obtain⟨row,erow⟩:=Z.e (toR l);obtain⟨q,eq⟩:=Z.e (Bh l);rw[<- erow,<- eq] at nu;rw[<- erow,<- eq,<- esr2];have vF:uo=(sn++[j]).map λk:Nat=>[AV.int .i64 (k:Int)]:=(by rw[esr2,pz];simp);have vN:(sn++[j]).Nodup:=List.nodup_append.2 ⟨hnd,by simp,λa ha b hb=>by simp at hb;subst hb;exact λe=>hj (e▸ha)⟩
    have vU:∀i,i∈sn++[j]->i<m.length:=λi hi=>by
     rcases List.mem_append.1 hi with hi|hi
     ·exact yC i hi
     ·simp at hi;omega
    have kS:sn.length<m.length:=by
     have:=Md (m.length) (sn++[j]) vN vU;simp at this;omega
    have erow2:row.row=rtC l:=(by rw[erow];rfl);obtain⟨n,s0,s1,s2,s3,s4,s5,s6,s7,s8,s9,s10,s11⟩:=row;cbv;refine Xo.entry (es:=em) (sr:=uo) (sr0:=sr) (sn:=sn) rfl rfl ng enE pz esr2 nu ?_;cbv;obtain⟨w2,lN⟩:=Z.e (w++[[.int .i64 n,.int .i64 s0,.int .i64 s1,.int .i64 s2,.int .i64 s3,.int .i64 s4,.int .i64 s5,.int .i64 s6,.int .i64 s7,.int .i64 s8,.int .i64 s9,.int .i64 s10,.int .i64 s11]]);obtain⟨k2,wH⟩:=Z.e (k+1);have rP:w2=(sn++[j]).map (λi=>rtC (m.getD i [])):=by rw[lN,mX,List.map_append];show _++[R13.row ⟨n,s0,s1,s2,s3,s4,s5,s6,s7,s8,s9,s10,s11⟩]=_++[rtC (m.getD j [])];rw[uF,<- erow2]
    have lQ:Up0 w2:=(by rw[rP];exact BM (f:=λi=>rtC (m.getD i [])) (λd=>rfl) (sn++[j]));have hm17:m.length<=17:=kU.len;refine App.mk w2 k2 lN hkw wH Z.o Z.o ?_;cbv;refine hN (sn++[j],uo,some (k2,w2)) _ _ ?hx ?hi ?ht
    case hx=>(refine Z.k (λj=>[0,1,2,3,4,5,6,7,10].getD j 0) ?_;cbv;(repeat' (first|exact trivial|rfl|assumption|(refine Bn.hd (es0:=uo) Z.m rfl rfl ?_;cbv)|apply And.intro|(simp only[hz,Z.a,AF,AC,AO,AP,AL,reduceCtorEq];first|done|assumption)|exact Bn.same Z.m (by first|assumption|rfl)|exact FzL.mk rfl rfl rfl Z.m (by first|assumption|rfl) Z.d|(refine Bn.one ?_;cbv))))
    case hi=>exact⟨vN,vU,vF,u_,by simp,by simp;omega,by rw[lN,wH];simp;omega,lQ,rP⟩
    case ht=>simp only[List.length_append,List.length_cons,List.length_nil];omega
def Gn(ss:List Sg)(lo hi from_:Int)(l:List Int):Prop:=lo<=BU ss from_ l/\(hi<=BU ss from_ l\/nxAt ss (Bw l)=[])
theorem h_(ss:List Sg)(from_:Int)(l:List Int)(n:Int):BU ss from_ (l++[n])=BU ss from_ l+BD ss n:=by unfold BU;rw[List.foldl_append];rfl
theorem Cu.snoc{ss:List Sg}(yK:EJ ss){l:List Int}(h:Cu ss l)(wu:l.length≠12){n q:Int}(hn:n∈nxAt ss q):Cu ss (l++[n]):=by
 have h1:=h.len;refine⟨by simp;omega,λx hx=>?_⟩;rcases List.mem_append.1 hx with hx|hx
 ·exact h.seg x hx
 ·simp at hx;subst hx;exact O_ yK hn
theorem UR{ss:List Sg}(yK:EJ ss){lo hi from_:Int}:∀(f:Nat) (l:List Int) (s:Int×List (List Int)),Cu ss l->(∀k,k∈s.2->Cu ss k/\Gn ss lo hi from_ k)->∀k,k∈(Be ss lo hi f l (BU ss from_ l) s).2->Cu ss k/\Gn ss lo hi from_ k
 | 0,l,s,hl,hs=>hs
 | f+1,l,s,hl,hs=>by
   unfold Be;split
   ·exact hs
   ·split
    ·rename_i hc
     intro k hk;by_cases lg:lo<=BU ss from_ l
     ·simp only[if_pos lg] at hk
      rcases TK.1 hk with hk|rfl
      ·exact hs k hk
      ·exact⟨hl,lg,hc⟩
     ·simp only[if_neg lg] at hk
      exact hs k hk
    ·split
     ·exact hs
     ·rename_i wu
      have step:∀(ns:List Int) (s:Int×List (List Int)),(∀n,n∈ns->n∈nxAt ss (Bw l))->(∀k,k∈s.2->Cu ss k/\Gn ss lo hi from_ k)->∀k,k∈(ns.foldl (λs n=>Be ss lo hi f (l++[n]) (BU ss from_ l+BD ss n) s) s).2->Cu ss k/\Gn ss lo hi from_ k:=by
       intro ns
       induction ns with
       | nil=>intro s _ h;exact h
       | cons n ns ih =>
         intro s hns h;refine ih _ (λx hx=>hns x (List.mem_cons_of_mem _ hx)) ?_;have:=UR yK f (l++[n]) s (hl.snoc yK wu (hns n List.mem_cons_self)) h;rw[h_] at this;exact this
      exact step _ s (λn hn=>hn) hs
theorem Me{α β: Type}{f: β -> α -> β}{P: β -> Prop}:∀(l:List α) (s: β),P s->(∀s a,a∈l->P s->P (f s a))->P (l.foldl f s)
 | [],s,h,_=>h
 | a::l,s,h,hf=>Me l (f s a) (hf s a List.mem_cons_self h) λs b hb=>hf s b (List.mem_cons_of_mem _ hb)
theorem iA{ss:List Sg}(yK:EJ ss){lo hi from_:Int}(ls:List (List Int))(hl:∀l,l∈ls->Cu ss l):∀k,k∈(EL ss lo hi from_ ls).2->Cu ss k/\Gn ss lo hi from_ k:=
 Me (P:=λs:Int×List (List Int)=>∀k,k∈s.2->Cu ss k/\Gn ss lo hi from_ k) ls _ (λk hk=>by simp at hk) λs l h hs=>UR yK _ l s (hl l h) hs
theorem iB{ss:List Sg}{lo hi from_:Int}(ls:List (List Int))(hl:∀l,l∈ls->Cu ss l):GOk (EL ss lo hi from_ ls):=
 Me (P:=GOk) ls _ ⟨by simp,λ_=>by simp,λk hk=>by simp at hk,List.nodup_nil⟩ λs l h hs=>MO ss lo hi _ l _ s hs (hl l h).len
theorem iC{ss:List Sg}{lo hi from_:Int}(ls:List (List Int)):(EL ss lo hi from_ ls).1=0\/(EL ss lo hi from_ ls).1=13:=
 Me (P:=λs:Int×List (List Int)=>s.1=0\/s.1=13) ls _ (.inl rfl) λs l h hs=>MP ss lo hi _ l _ s hs
theorem iD{m:List (List Int)}{l:List Int}:l∈J2 m↔l∈m:=(Js m).mem_iff
structure iE(ss:List Sg)(lo hi from_:Int)(m:List (List Int)):Prop where
 le:lo<=hi /\ -from_<=lo
 ways:∀l,l∈m->Cu ss l/\Gn ss lo hi from_ l
 nd:m.Nodup
 few:m.length<=16
 some:m≠[]
 sort:m.Pairwise (λx y=>¬ltR y x)
theorem Oh{ss:List Sg}(yK:EJ ss){lo hi from_:Int}(ls:List (List Int))(hl:∀l,l∈ls->Cu ss l){v:(Int×List (List Int))×Int}(hv:v=Ei ss lo hi from_ ls):(v.2≠0/\v.1.2=[])\/(v.2=0/\v.1.1=from_/\iE ss lo hi from_ v.1.2):=by
 unfold Ei at hv;split at hv
 ·rw[hv];exact .inl ⟨by decide,rfl⟩
 ·rename_i h1
  split at hv
  ·rename_i h2;rw[hv];exact .inl ⟨h2,rfl⟩
  ·rename_i h2
   have h2:(EL ss lo hi from_ ls).1=0:=Classical.not_not.1 h2;split at hv
   ·rw[hv];exact .inl ⟨by decide,rfl⟩
   ·rename_i h3
    rw[hv];have kU:=iB (lo:=lo) (hi:=hi) (from_:=from_) ls hl
    exact .inr ⟨rfl,rfl,by omega,λl h=>iA yK ls hl l (iD.1 h),(Js _).nodup_iff.2 kU.nd,by rw[(Js _).length_eq];exact kU.few h2,
     λh=>h3 (List.length_eq_zero_iff.1 (by rw[<- (Js _).length_eq];simp only at h;rw[h];rfl)),PT _⟩
section
variable (ss:List Sg) (lo hi from_:Int)
def UT(l:List Int):Prop:=hi<=BU ss from_ l\/nxAt ss (Bw l)=[]
instance (l:List Int):Decidable (UT ss hi from_ l):=inferInstanceAs (Decidable (_\/_))
def UU(l:List Int):Prop:=¬UT ss hi from_ l/\l.length=12
structure FP(R:List Int->Prop)(s s':Int×List (List Int)):Prop where
 stay:s.1≠0->s'.1≠0
 good:s'.1=0->(∀k,k∈s'.2↔k∈s.2\/(R k/\Gn ss lo hi from_ k))/\(∀k,R k->¬UU ss hi from_ k)
 bad:s.1=0->s'.1≠0->(∃k,R k/\UU ss hi from_ k)\/(∃L:List (List Int),L.Nodup/\17<=L.length/\∀k,k∈L->k∈s.2\/(R k/\Gn ss lo hi from_ k))
end
variable {ss:List Sg} {lo hi from_:Int}
theorem FP.nil(s:Int×List (List Int)):FP ss lo hi from_ (λ_=>False) s s:=
 ⟨id,λ_=>⟨λk=>by simp,λk h=>h.elim⟩,λh h'=>absurd h h'⟩
end Go.Proofs.YtlchlddijclhjaaGreat
namespace Go.Proofs.YtlchlddijclhjaaGreat
open Go Go.RowKit Go.Eng
set_option maxRecDepth 100000
theorem UV{ss:List Sg}{lo hi from_:Int}{ls:List (List Int)}{v1 v3:Int}{v2:List (List Int)}(h:((v1,v2),v3)=Ei ss lo hi from_ ls):v3=0\/v3=13\/v3=40:=by
 have he:=iC (ss:=ss) (lo:=lo) (hi:=hi) (from_:=from_) ls;unfold Ei at h;split at h
 ·simp only[Prod.mk.injEq] at h;exact .inr (.inr h.2)
 ·split at h
  ·simp only[Prod.mk.injEq] at h;rw[h.2];exact he.imp id .inl
  ·split at h
   ·simp only[Prod.mk.injEq] at h;exact .inr (.inr h.2)
   ·simp only[Prod.mk.injEq] at h;exact .inl h.2
theorem fw(a b v:Int)(hv:v=a):A9 Tryz.prog 161 [a,b] (· = .agg [b,.list 13 [[jz 1,v,jz 0,jz 0,jz 0,jz 0,jz 0,jz 0,jz 0,jz 0,jz 0,jz 0,jz 0]]]):=by
 subst hv;refine Z.y Tryz.func161 λ_ _ _ _ _ _ _ _ _ _ _ _ _ _ R hR P hP=>?_;cbv;refine InN.mk Z.d Z.d ?_;exact Z.r hR
theorem f_(es ds:List (List AV))(hu:Up0 es)(lH:Up0 ds)(g:Int)(hg:0<=g)(G:Gr)(hG:ds[g.toNat]?=some (Ak G))(c0 c1 c2 c3 c4 c5 c6 c7 c8 c9 c10 c11 c12 c13:Int)(hc:0<=c8/\c8<=1048576)(lJ:0<=G.acc/\G.acc<=1048576)(a b lo hi est:Int)(ha:I62 a)(hb: -4611686018427387904<=b/\b<=4611686018423193599)(lg: -(G.acc+c8)+min 0 a=lo)(m_:G.acc+c8+max 0 b=hi)(hest:(lo+hi)/2=est)(r0:List (List AV))(mZ:r0=[rtC [G.seg]]) :
 A9 Tryz.prog 101 [.agg [c0,c1,c2,c3,c4,c5,c6,c7,c8,c9,c10,c11,c12,c13],.agg [.list 3 es,.list 5 ds],g,.agg [a,b]] (· = .agg [.bool true,g,lo,hi,est,G.off,.list 13 r0]):=by
 obtain⟨gid,gseg,goff,gacc,gsl⟩:=G;have wm:=fw gseg goff gseg rfl;have wm:A9 Tryz.prog 161 [gseg,goff] (· = .agg [goff,.list 13 r0]):=by rw[mZ];exact wm
 have hG:ds[g.toNat]?=some [jz gid,jz gseg,jz goff,jz gacc,jz gsl]:=hG;have er0':=mZ;clear mZ;unfold I62 at ha;simp only at lJ lg m_;have hmid:=Jd hest ⟨by omega,by omega⟩ ⟨by omega,by omega⟩;(refine A9.ofY Tryz.func101 (by kernel_rfl) (by kernel_rfl) (Z.w λzB _ yN _ _ _ yO _ _ _ _ _ _ _ _ _ _ _ _ _ _ zC _ yJ _ _ _ yS _ _ _ _ _ _ _ _ _ _ _ _ _ _ R hR=>?_));(conv=>arg 2;cbv);(generalize hP:Tryz.prog=P);cbv;refine Idx.mk _ hg hG ?_;cbv;obtain⟨fa,efa⟩:=Z.f (gacc+c8);obtain⟨nf,enf⟩:∃z,-fa=z:=⟨_,rfl⟩;obtain⟨x,ex⟩:=Z.f (min 0 a);obtain⟨y,ey⟩:=Z.f (max 0 b);have b1:zB .add .i64 gacc c8=fa:=by rw[zC,Ag Z.o Z.o];exact efa
 have b2:yN .neg .i64 fa=nf:=by rw[yJ,Ha Z.o Z.o];exact enf
 have b3:yO false 0 a=x:=by rw[yS,G5,ex]
 have b4:yO true 0 b=y:=by rw[yS,I1,ey]
 have b5:zB .add .i64 nf x=lo:=by rw[zC,Ag Z.o Z.o];omega
 have b6:zB .add .i64 fa y=hi:=by rw[zC,Ag Z.o Z.o];omega
 simp only[b1,b2,b3,b4,b5,b6]
 repeat' (first
  | (refine AB.stepE (by rw[<- hP];exact hmid) rfl ?_;cbv)
  | (refine Call.stepE (by rw[<- hP];exact hmid) rfl ?_;cbv)
  | (refine AB.stepE (by rw[<- hP];exact wm) rfl ?_;cbv)
  | (refine Call.stepE (by rw[<- hP];exact wm) rfl ?_;cbv)
  | (refine And.intro ?_ ?_))
 all_goals
  have tZ:Up0 r0:=(by rw[er0'];exact⟨rfl⟩);exact⟨_,Vw.same (by simp only[Cb,AV.upto,Af,tZ.get];rfl),hR _ rfl⟩
structure PlT where
 lo:Int
 hi:Int
 est:Int
 m:List (List Int)
structure Kg(ss:List Sg)(p:PlT):Prop where
 lo: -17592186044416<=p.lo
 hi:p.hi<=17592186044416
 le:p.lo<=p.est/\p.est<=p.hi
 way:∀l,l∈p.m->Cu ss l
 few:p.m.length<=16
def Dr(ss:List Sg)(from_:Int)(p:PlT)(a b:Int):PlT×Int:=
 if p.lo+a < -17592186044416\/17592186044416<p.hi+b then (p,20)
 else (⟨p.lo+a,p.hi+b,max (p.lo+a) (min (p.est+(a+b)/2) (p.hi+b)),(Ei ss (p.lo+a) (p.hi+b) from_ p.m).1.2⟩,(Ei ss (p.lo+a) (p.hi+b) from_ p.m).2)
theorem SE{ss:List Sg}(yK:EJ ss){from_:Int}{p:PlT}(hp:Kg ss p){a b:Int}(kY:a<=b){q:PlT}{e:Int}(hv:(q,e)=Dr ss from_ p a b):(e=0/\Kg ss q)\/e=13\/e=20\/e=40:=by
 have h1:=hp.lo;have h2:=hp.hi;have h3:=hp.le;unfold Dr at hv;split at hv
 ·simp only[Prod.mk.injEq] at hv;exact .inr (.inr (.inl hv.2))
 ·rename_i hn
  simp only[Prod.mk.injEq] at hv;have hc:=Oh (lo:=p.lo+a) (hi:=p.hi+b) (from_:=from_) yK p.m hp.way rfl;have he:e=0\/e=13\/e=40:=UV (ss:=ss) (lo:=p.lo+a) (hi:=p.hi+b) (from_:=from_) (ls:=p.m) (v1:=(Ei ss (p.lo+a) (p.hi+b) from_ p.m).1.1) (v2:=(Ei ss (p.lo+a) (p.hi+b) from_ p.m).1.2) (by rw[hv.2]);rcases he with he|he|he
  ·refine .inl ⟨he,?_⟩
   rcases hc with hc|hc
   ·exact absurd (hv.2.symm.trans he) hc.1
   ·rw[hv.1]
    exact⟨by simp only;omega,by simp only;omega,by simp only;omega,λl hl=>(hc.2.2.ways l hl).1,hc.2.2.few⟩
  ·exact .inr (.inl he)
  ·exact .inr (.inr (.inr he))
theorem iG(ss:List Sg)(gs:List Gr)(es ds:List (List AV))(zQ:es=ss.map Ah)(zY:ds=gs.map Ak)(kr:CS ss)(yK:EJ ss)(g from_:Int)(hf:0<=from_/\from_<=1099511627776)(p:PlT)(hp:Kg ss p)(rs:List (List AV))(yD:rs=p.m.map rtC)(a b:Int)(kY:a<=b)(ha: -1099511627776<=a)(hb:b<=1099511627776)(q:PlT)(e:Int)(hv:(q,e)=Dr ss from_ p a b)(us:List (List AV))(kZ:us=q.m.map rtC) :
 A9 Tryz.prog 97 [.agg [.bool true,g,p.lo,p.hi,p.est,from_,.list 13 rs],.agg [.list 3 es,.list 5 ds],.agg [a,b]] (λr=>(e=0/\r = .tuple [.agg [.bool true,g,q.lo,q.hi,q.est,from_,.list 13 us],jz 0])\/(e≠0/\r = .tuple [.agg [.bool false,jz 0,jz 0,jz 0,jz 0,jz 0,.nils],e])):=by
 have hu:Up0 es:=by rw[zQ];exact Bu ss
 have lH:Up0 ds:=by rw[zY];exact Bv gs
 have lW:Up0 rs:=by rw[yD];exact BM (f:=rtC) (λd=>rfl) p.m
 have rQ:Up0 us:=by rw[kZ];exact BM (f:=rtC) (λd=>rfl) q.m
 have lg:=hp.lo;have m_:=hp.hi;have nR:=hp.le;have rG:=hp.few;obtain⟨v,ev⟩:=Z.e (Ei ss (p.lo+a) (p.hi+b) from_ p.m);have hA:=g_ ss gs es ds zQ zY kr yK (p.lo+a) (p.hi+b) from_ hf p.m hp.way Z.o rs yD v ev;have kU:=Oh yK p.m hp.way ev;unfold Dr at hv;rw[<- ev] at hv;have xU:=UV (show ((v.1.1,v.1.2),v.2)=_ from ev);obtain⟨⟨v1,v2⟩,v3⟩:=v;obtain⟨lo,hi,est,m⟩:=p;simp only at lg m_ nR hA hv yD rG xU kU;obtain⟨l',el'⟩:=Z.f (lo+a);obtain⟨h',xu⟩:=Z.f (hi+b);obtain⟨md,emd⟩:∃x,(a+b)/2=x:=⟨_,rfl⟩;obtain⟨s',kw⟩:=Z.f (est+md);obtain⟨t',et'⟩:=Z.f (max l' (min s' h'));obtain⟨u',eu'⟩:=Z.f (v2.map rtC);rw[el',xu,emd,kw,et'] at hv;rw[el',xu] at hA;have hA:A9 Tryz.prog 153 [.agg [from_,.list 13 rs],.agg [.list 3 es,.list 5 ds],.agg [l',h']] (· = .tuple [.agg [v1,.list 13 u'],v3]):=by rw[<- eu'];exact hA
 have hugA:Af 0 [AV.agg [from_,.list 13 rs],.agg [.list 3 es,.list 5 ds],.agg [l',h']]=true:=by simp only[Af,AV.upto,hu.get,lH.get,lW.get];rfl
 have s1:=MQ Z.o kY el' xu ⟨by omega,by omega⟩ ⟨by omega,by omega⟩ ⟨by omega,by omega⟩ ⟨by omega,by omega⟩;have s3:=Jd emd ⟨by omega,by omega⟩ ⟨by omega,by omega⟩;have s4:=TN kw ⟨by omega,by omega⟩ ⟨by omega,by omega⟩;have s5:=dR et';obtain⟨o,eo⟩:=Z.f (decide (l'<=h' -> -17592186044416<=l'/\h'<=17592186044416));have s2:=TP o eo;show A9 Tryz.prog 97 [.agg [.bool true,g,lo,hi,est,from_,.list 13 rs],.agg [.list 3 es,.list 5 ds],.agg [a,b]] _;refine Z.y Tryz.func97 λ_ _ _ _ zF _ _ _ _ _ _ zI _ hz R hR P hP=>?_;cbv;have n1:zF true=false:=by rw[zI];rfl
 have n2:zF false=true:=by rw[zI];rfl
 simp only[n1];cbv;refine Call.stepE (by rw[<- hP];exact s1) rfl ?_;cbv;simp only[n1];cbv;refine Call.stepE (by rw[<- hP];exact s2) rfl ?_;have hRR:∀r,((e=0/\r = .tuple [.agg [.bool true,g,q.lo,q.hi,q.est,from_,.list 13 us],jz 0])\/(e≠0/\r = .tuple [.agg [.bool false,jz 0,jz 0,jz 0,jz 0,jz 0,.nils],e]))->R r:=hR;have hZ2:∀(x:Int) (h:A7),e≠0->x=e->Ret [.agg [.bool false,jz 0,jz 0,jz 0,jz 0,jz 0,.nils],jz x] h R:=λx h h0 hx=>⟨_,Vw.same rfl,hR _ (.inr ⟨h0,by rw[<- hx];rfl⟩)⟩
 have hY:∀h:A7,e=0->q=⟨l',h',t',v2⟩->Ret [.agg [.bool true,g,l',h',t',from_,.list 13 u'],jz 0] h R:=λh h0 hq=>by
  have huu':Up0 u':=(by rw[<- eu'];exact BM (f:=rtC) (λd=>rfl) v2);refine⟨_,Vw.same (by simp only[Cb,AV.upto,Af,huu'.get];rfl),hR _ (.inl ⟨h0,?_⟩)⟩;rw[hq] at kZ ⊢;rw[kZ,<- eu'];rfl
 by_cases hov:l' < -17592186044416\/17592186044416<h'
 ·rw[if_pos hov] at hv
  simp only[Prod.mk.injEq] at hv;have ho:o=false:=(by rw[<- eo];simp;omega);rw[ho];cbv;simp only[n2];cbv;exact hZ2 20 _ Z.o hv.2.symm
 ·rw[if_neg hov] at hv
  simp only[Prod.mk.injEq] at hv;have ho:o=true:=(by rw[<- eo];simp;omega);rw[ho];cbv;simp only[n1];cbv;refine Call.stepE (by rw[<- hP];exact hA) (by exact hugA) ?_;cbv;(split<;>rename_i h5<;>(try (simp only[hz,Z.a,AF,AC,AO,AP,AL,reduceCtorEq] at h5))<;>(try cbv))
  ·exact hZ2 v3 _ Z.o hv.2.symm
  have lv:v1=from_:=by
   rcases kU with h|h
   ·exact absurd h5 h.1
   ·exact h.2.1
  subst lv
  repeat' (first
   | (refine Call.stepE (by rw[<- hP];exact s3) rfl ?_;cbv)
   | (refine AB.stepE (by rw[<- hP];exact s3) rfl ?_;cbv)
   | (refine Call.stepE (by rw[<- hP];exact s4) rfl ?_;cbv)
   | (refine AB.stepE (by rw[<- hP];exact s4) rfl ?_;cbv)
   | (refine Call.stepE (by rw[<- hP];exact s5) rfl ?_;cbv)
   | (refine AB.stepE (by rw[<- hP];exact s5) rfl ?_;cbv)
   | (refine And.intro ?_ ?_))
  all_goals exact hY _ Z.o hv.1
end Go.Proofs.YtlchlddijclhjaaGreat
