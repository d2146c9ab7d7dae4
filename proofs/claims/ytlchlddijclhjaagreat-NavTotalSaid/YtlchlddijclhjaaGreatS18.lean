/- Parts of the proofs. -/
import Derived.KernelRfl
import Derived.Test.YtlchlddijclhjaaGreatS16
import Derived.Shelf.SlSortCmp.NoneTotal
import Derived.Test.YtlchlddijclhjaaGreatS8
import Derived.Test.YtlchlddijclhjaaGreatSZ
set_option linter.unusedVariables false
set_option linter.unusedSimpArgs false
set_option maxHeartbeats 4000000
namespace Go.Proofs.YtlchlddijclhjaaGreat
open Go Go.RowKit Go.Eng
set_option maxRecDepth 100000
theorem kAS{G:Prop} (h:G:=by
 have hu:Up0 es:=by rw[zU];exact k42 ss
 have hud:Up0 ds:=by rw[yG];exact k43 gs
 intro en e m hok he hen hl K hK;have hlast:=hl (XL y0 y1 y2 y3 y4 y5 y6 y7 y8 y9 y10 y11) (by simp[XS,XL]);obtain⟨sg0,hd0,xA⟩:=k0V (f:=k0Y) (ds:=ss) (i:=(XL y0 y1 y2 y3 y4 y5 y6 y7 y8 y9 y10 y11)) hlast.1 hlast.2;have hnxe:nxAt ss (XL y0 y1 y2 y3 y4 y5 y6 y7 y8 y9 y10 y11)=sg0.nx:=by unfold nxAt;rw[hd0]
 have hnx0:∀n,n∈sg0.nx->0<=n/\n.toNat<ss.length:=λn hn=>kGH yS (by rw[hnxe];exact hn);have hnx2:sg0.nx.length<=2:=by have:=kHZ yS (XL y0 y1 y2 y3 y4 y5 y6 y7 y8 y9 y10 y11);rw[hnxe] at this;exact this
 have hF:k34 ss lo hi dp (XS y0 y1 y2 y3 y4 y5 y6 y7 y8 y9 y10 y11) en (e,m)=(if e≠0 then (e,m) else if hi<=en\/sg0.nx=[] then (if 16<(if lo<=en then k80 m (XS y0 y1 y2 y3 y4 y5 y6 y7 y8 y9 y10 y11) else m).length then 13 else 0,if lo<=en then k80 m (XS y0 y1 y2 y3 y4 y5 y6 y7 y8 y9 y10 y11) else m) else sg0.nx.foldl (λs n=>k34 ss lo hi dq (XN y0 y1 y2 y3 y4 y5 y6 y7 y8 y9 y10 y11 n) (en+k1O ss n) s) (e,m)):=by
  rw[<- hnxe];rfl
 rw[hF] at hK;obtain⟨len,pcs,nx⟩:=sg0;obtain⟨q0,eq0⟩:=Z.f (pcs.map k1E);obtain⟨ns,ens⟩:=Z.f (nx.map k0K);have huns:Up0 ns:=by rw[<- ens];exact k3K nx
 have hnl:ns.length=nx.length:=by rw[<- ens];simp
 have xA:es[(XL y0 y1 y2 y3 y4 y5 y6 y7 y8 y9 y10 y11).toNat]?=some [.int .i64 len,.list 2 q0,.list 1 ns]:=by rw[zU,<- eq0,<- ens];exact xA
 have hput:=kD0 m (XS y0 y1 y2 y3 y4 y5 y6 y7 y8 y9 y10 y11) (by simp only[XS,XN,List.length_cons,List.length_nil];omega) (λj hj=>(hok.all j hj).1);obtain⟨em,eem⟩:=Z.f (ents m);obtain⟨em2,eem2⟩:=Z.f (ents (k80 m (XS y0 y1 y2 y3 y4 y5 y6 y7 y8 y9 y10 y11)));have hum:Up0 em:=by rw[<- eem];exact k92 m
 have htwo:∀e,e∈em->e.length=2:=by rw[<- eem];exact k8O m
 have htwo2:∀e,e∈em2->e.length=2:=by rw[<- eem2];exact k8O _
 have heml:em.length=m.length:=by rw[<- eem];exact k6W m
 have heml2:em2.length=(k80 m (XS y0 y1 y2 y3 y4 y5 y6 y7 y8 y9 y10 y11)).length:=by rw[<- eem2];exact k6W _
 rw[eem,eem2] at hput;rw[eem];have hnxs:∀n,n∈nx->0<=n/\n.toNat<ss.length:=hnx0;have hnx2:nx.length<=2:=hnx2;show k06 Tryz.prog 209 [.ref 0 6 0 0,.agg (RA y0 y1 y2 y3 y4 y5 y6 y7 y8 y9 y10 y11),en] [.live 6 [kDX es ds lo hi 1 e],.live 0 em] K;refine Z.x Tryz.func209 λzA zG _ _ _ _ hw zC zB _ _ _ zE hz P hP=>?_;cbv;have s1:zA .sub .i64 nA 1=nP:=by rw[zC];rfl
 simp only[s1];refine InN.mk Z.d Z.d ?_;cbv
 repeat' (first
  | (refine kHB.mk _ rfl ?_;cbv)
  | (refine Idx.mk _ hlast.1 xA ?_;cbv))
 have hKz:e=0->(hi<=en\/nx=[])->∀j,K (.tuple []) (.live 6 [kDX es ds lo hi 1 (if 16<(if lo<=en then k80 m (XS y0 y1 y2 y3 y4 y5 y6 y7 y8 y9 y10 y11) else m).length then 13 else 0)] :: .live 0 (ents (if lo<=en then k80 m (XS y0 y1 y2 y3 y4 y5 y6 y7 y8 y9 y10 y11) else m))::j):=λh0 hc j=>by
  have:=hK j;rw[if_neg (by simp[h0]),if_pos hc] at this;exact this
 rcases he with rfl|rfl
 rotate_left 1
 ·have c0:zG .neq 13 0=true:=by rw[zB];rfl
  simp only[c0];cbv;have:=hK [.live 13 [(RA y0 y1 y2 y3 y4 y5 y6 y7 y8 y9 y10 y11)]];rw[if_pos Z.d,eem] at this;exact this
 have c0:zG .neq 0 0=false:=by rw[zB];rfl
 simp only[c0];cbv;obtain⟨L,eL,L0,Ln⟩:=Z.l zE ns;have hKz:=hKz rfl;have n0:nx=[]↔L=0:=by rw[<- List.length_eq_zero_iff,<- hnl,<- Ln];omega
 have blockA:(hi<=en\/nx=[])->(lo<=en->∀j,K (.tuple []) (.live 6 [kDX es ds lo hi 1 (if (16:Int)<em2.length then 13 else 0)] :: .live 0 em2::j))/\(en<lo->∀j,K (.tuple []) (.live 6 [kDX es ds lo hi 1 0] :: .live 0 em::j)):=λhA=>by
  refine⟨λhlo j=>?_,λhlo j=>?_⟩
  ·have:=hKz hA j
   rw[if_pos hlo,eem2] at this;by_cases hq:16<(k80 m (XS y0 y1 y2 y3 y4 y5 y6 y7 y8 y9 y10 y11)).length
   ·rw[if_pos hq] at this
    rw[if_pos (by have h5:=heml2;(try simp only[XS] at h5);(try simp only[XS] at hq);omega)];exact this
   ·rw[if_neg hq] at this
    rw[if_neg (by have h5:=heml2;(try simp only[XS] at h5);(try simp only[XS] at hq);omega)];exact this
  ·have:=hKz hA j
   rw[if_neg (show ¬lo<=en by omega),eem,if_neg (show ¬16<m.length by have:=hok.few rfl;simp only at this;omega)] at this;exact this
 obtain⟨n1,en1⟩:∃n:Int,n=em.length:=⟨_,rfl⟩;obtain⟨n2,en2⟩:∃n:Int,n=em2.length:=⟨_,rfl⟩;have h16:n1<=16:=by have:=hok.few rfl;simp only at this;omega
 simp only[<- en2] at blockA;have lm1:∀ {K':AV->k00->Prop} {hp:k00} {c:Go.Call} {ty t kt et:TypeId} {x:Operand},hp[1]?=some (.live 0 em)->c.callee = .builtin .len->c.args = #[x]->c.argTypes = #[t]->P.underlying t=some (.map kt et)->K' (.int .i64 n1) hp->Xo P (.call c) ty [.mapr 1] hp K':=λh1 h2 h3 h4 h5 h6=>Xo.lenm h2 h3 h4 h5 h1 htwo n1 en1 h6;have lm2:∀ {K':AV->k00->Prop} {hp:k00} {c:Go.Call} {ty t kt et:TypeId} {x:Operand},hp[1]?=some (.live 0 em2)->c.callee = .builtin .len->c.args = #[x]->c.argTypes = #[t]->P.underlying t=some (.map kt et)->K' (.int .i64 n2) hp->Xo P (.call c) ty [.mapr 1] hp K':=λh1 h2 h3 h4 h5 h6=>Xo.lenm h2 h3 h4 h5 h1 htwo2 n2 en2 h6;(split<;>rename_i h1<;>(try (simp only[hz,Z.a,k05,k04,k08,k03,k0M,reduceCtorEq] at h1))<;>(try cbv))
 ·obtain⟨hy,hno⟩:=blockA (.inl h1)
  clear blockA hKz;(split<;>rename_i h3<;>(try (simp only[hz,Z.a,k05,k04,k08,k03,k0M,reduceCtorEq] at h3))<;>(try cbv))
  ·refine Put.mk em2 rfl hput ?_
   cbv;refine lm2 (kt:=239) (et:=3) rfl rfl rfl rfl (by rw[<- hP];kernel_rfl) ?_;cbv;(split<;>rename_i h4<;>(try (simp only[hz,Z.a,k05,k04,k08,k03,k0M,reduceCtorEq] at h4))<;>(try cbv))
   ·have:=hy h3 [.live 13 [(RA y0 y1 y2 y3 y4 y5 y6 y7 y8 y9 y10 y11)]]
    rw[if_pos Z.o] at this;exact this
   ·have:=hy h3 [.live 13 [(RA y0 y1 y2 y3 y4 y5 y6 y7 y8 y9 y10 y11)]]
    rw[if_neg Z.o] at this;exact this
  ·refine lm1 (kt:=239) (et:=3) rfl rfl rfl rfl (by rw[<- hP];kernel_rfl) ?_
   cbv;(split<;>rename_i h4<;>(try (simp only[hz,Z.a,k05,k04,k08,k03,k0M,reduceCtorEq] at h4))<;>(try cbv))
   ·exfalso;omega
   ·exact hno h3 [.live 13 [(RA y0 y1 y2 y3 y4 y5 y6 y7 y8 y9 y10 y11)]]
 ·simp only[eL]
  (split<;>rename_i h2<;>(try (simp only[hz,Z.a,k05,k04,k08,k03,k0M,reduceCtorEq] at h2))<;>(try cbv))
  ·obtain⟨hy,hno⟩:=blockA (.inr (n0.2 h2))
   clear blockA hKz;(split<;>rename_i h3<;>(try (simp only[hz,Z.a,k05,k04,k08,k03,k0M,reduceCtorEq] at h3))<;>(try cbv))
   ·refine Put.mk em2 rfl hput ?_
    cbv;refine lm2 (kt:=239) (et:=3) rfl rfl rfl rfl (by rw[<- hP];kernel_rfl) ?_;cbv;(split<;>rename_i h4<;>(try (simp only[hz,Z.a,k05,k04,k08,k03,k0M,reduceCtorEq] at h4))<;>(try cbv))
    ·have:=hy h3 [.live 13 [(RA y0 y1 y2 y3 y4 y5 y6 y7 y8 y9 y10 y11)]]
     rw[if_pos Z.o] at this;exact this
    ·have:=hy h3 [.live 13 [(RA y0 y1 y2 y3 y4 y5 y6 y7 y8 y9 y10 y11)]]
     rw[if_neg Z.o] at this;exact this
   ·refine lm1 (kt:=239) (et:=3) rfl rfl rfl rfl (by rw[<- hP];kernel_rfl) ?_
    cbv;(split<;>rename_i h4<;>(try (simp only[hz,Z.a,k05,k04,k08,k03,k0M,reduceCtorEq] at h4))<;>(try cbv))
    ·exfalso;omega
    ·exact hno h3 [.live 13 [(RA y0 y1 y2 y3 y4 y5 y6 y7 y8 y9 y10 y11)]]
  ·have hK:=hK
   have ck:zG .eql nA 12=false:=(by rw[zB];rfl);have a1:zA .add .i64 nA 1=nB:=(by rw[zC];rfl);have a2:zA .sub .i64 nB 1=nA:=(by rw[zC];rfl);have hnh:¬(hi<=en\/nx=[]):=(by rw[n0];omega);have hen': -1099511627776<=en/\en<=11*1099511627776:=by have h:=hen;simp only[XS,k8Z] at h;omega
   have hKl:∀s',s'=nx.foldl (λs n=>k34 ss lo hi dq (XN y0 y1 y2 y3 y4 y5 y6 y7 y8 y9 y10 y11 n) (en+k1O ss n) s) (0,m)->∀j,K (.tuple []) (.live 6 [kDX es ds lo hi 1 s'.1] :: .live 0 (ents s'.2)::j):=λs' hs' j=>by
    have:=hK j;rw[if_neg Z.d,if_neg hnh] at this;rw[hs'];exact this
   clear hK blockA hKz lm1 lm2;simp only[ck];cbv;simp only[a1]
   repeat' (first
    | (refine kHB.mk _ rfl ?_;cbv)
    | (simp only[a1];cbv)
    | (refine kBF.mk _ _ rfl rfl ?_;cbv))
   simp only[eL]
   refine k1Q.dataN hw (S:=Int×Int×(Int×List (List Int))×List (List AV)) (λs=>fr 103 [(0,.ref 0 6 0 0),(2,en),(4,.ref 2 13 0 0),(76,.list 1 ns),(77,L),(78,s.1)])
    (λs=>[.live 6 [[.list 3 es,.list 5 ds,lo,hi,.mapr 1,s.2.2.1.1]],.live 0 s.2.2.2,.live 13 [(RB y0 y1 y2 y3 y4 y5 y6 y7 y8 y9 y10 y11 s.2.1)]])
    (λs=>0<=s.1/\s.1<=L/\s.2.2.1=(nx.take s.1.toNat).foldl (λs n=>k34 ss lo hi dq (XN y0 y1 y2 y3 y4 y5 y6 y7 y8 y9 y10 y11 n) (en+k1O ss n) s) (0,m)/\GOk s.2.2.1/\(s.2.2.1.1=0\/s.2.2.1.1=13)/\s.2.2.2=ents s.2.2.1.2/\Up0 s.2.2.2) (λs=>(L-s.1).toNat) (0,0,(0,m),em) (by(refine Z.n (id) ?_;cbv<;>exact Z.q)) ⟨Int.le_refl _,L0,rfl,hok,.inl rfl,eem.symm,hum⟩ ?_
   rintro⟨i,y,⟨e,m'⟩,em'⟩ zJ Q' hN hE hR'
   have zJ:0<=i/\i<=L/\(e,m')=(nx.take i.toNat).foldl (λs n=>k34 ss lo hi dq (XN y0 y1 y2 y3 y4 y5 y6 y7 y8 y9 y10 y11 n) (en+k1O ss n) s) (0,m)/\GOk (e,m')/\(e=0\/e=13)/\em'=ents m'/\Up0 em':=zJ;cbv;obtain⟨yJ,yZ,hfold,hok',he',hem',hum'⟩:=zJ;(split<;>rename_i hc<;>(try (simp only[hz,Z.a,k05,k04,k08,k03,k0M,reduceCtorEq] at hc))<;>(try cbv))
   ·have hit:i.toNat<nx.length:=by omega
    obtain⟨n,hn⟩:∃n,nx[i.toNat]?=some n:=⟨_,List.getElem?_eq_getElem hit⟩;have hni:ns[i.toNat]?=some (k0K n):=(by rw[<- ens,List.getElem?_map,hn];rfl);have hnb:=hnxs n (List.mem_of_getElem? hn);obtain⟨sg1,hd1,hrow1⟩:=k0V (f:=k0Y) (ds:=ss) (i:=n) hnb.1 hnb.2;have hle:k1O ss n=sg1.len:=(by unfold k1O;rw[hd1]);have hl1:=hln.pos sg1 (List.mem_of_getElem? hd1);obtain⟨len1,pcs1,nx1⟩:=sg1;have hl1:1<=len1/\len1<=1099511627776:=hl1;have hle:k1O ss n=len1:=hle;obtain⟨q1,eq1⟩:=Z.f (pcs1.map k1E);obtain⟨q2,eq2⟩:=Z.f (nx1.map k0K);have hrow1:es[n.toNat]?=some [.int .i64 len1,.list 2 q1,.list 1 q2]:=by rw[zU,<- eq1,<- eq2];exact hrow1
    have hs2:(k34 ss lo hi dq (XN y0 y1 y2 y3 y4 y5 y6 y7 y8 y9 y10 y11 n) (en+len1) (e,m'))=(nx.take (i+1).toNat).foldl (λs n=>k34 ss lo hi dq (XN y0 y1 y2 y3 y4 y5 y6 y7 y8 y9 y10 y11 n) (en+k1O ss n) s) (0,m):=by
     rw[k24 yJ hn,List.foldl_append,<- hfold,List.foldl_cons,List.foldl_nil,hle]
    have hok2:=kA4 ss lo hi dq (XN y0 y1 y2 y3 y4 y5 y6 y7 y8 y9 y10 y11 n) (en+len1) (e,m') hok' (by simp only[XS,XN,List.length_cons,List.length_nil];omega);have he2:=kDB ss lo hi dq (XN y0 y1 y2 y3 y4 y5 y6 y7 y8 y9 y10 y11 n) (en+len1) (e,m') he';have a3:zA .add .i64 en len1=en+len1:=by rw[zC];show IntKind.i64.wrap (en+len1)=en+len1;rw[IntKind.wrap_i64];omega
    obtain⟨en2,een2⟩:=Z.e (en+len1);rw[<- een2] at hs2 hok2 he2 a3;have hen2: -1099511627776<=en2/\en2<=k8Z (XN y0 y1 y2 y3 y4 y5 y6 y7 y8 y9 y10 y11 n)*1099511627776:=by have h:=hen;simp only[XS,XN,k8Z] at h ⊢;omega
    have hl2:∀x,x∈(XN y0 y1 y2 y3 y4 y5 y6 y7 y8 y9 y10 y11 n)->0<=x/\x.toNat<ss.length:=λx hx=>by
     have:x∈(XS y0 y1 y2 y3 y4 y5 y6 y7 y8 y9 y10 y11)\/x=n:=(by simpa[XS,XN,or_assoc] using hx);rcases this with h|rfl
     ·exact hl x h
     ·exact hnb
    obtain⟨⟨e3,m3⟩,es3⟩:∃s',k34 ss lo hi dq (XN y0 y1 y2 y3 y4 y5 y6 y7 y8 y9 y10 y11 n) en2 (e,m')=s':=⟨_,rfl⟩;obtain⟨em3,eem3⟩:=Z.e (ents m3);have hum3:Up0 em3:=(by rw[eem3];exact k92 m3);rw[es3] at hs2 hok2 he2;refine Idx.mk _ yJ hni ?_;cbv
    repeat' (first
     | (refine kHB.mk _ rfl ?_;cbv)
     | (simp only[a2];cbv)
     | (refine InN.mk Z.d Z.d ?_;cbv)
     | (refine kBF.mk _ _ rfl rfl ?_;cbv)
     | (refine Idx.mk _ hnb.1 hrow1 ?_;cbv))
    simp only[a3];refine Call.of (k23.call hu hud (NX ss gs es ds zU yG hln yS lo hi y0 y1 y2 y3 y4 y5 y6 y7 y8 y9 y10 y11 n) hP (sg:=0) (sm:=1) (h:=[.live 6 [kDX es ds lo hi 1 e],.live 0 em',.live 13 [(RB y0 y1 y2 y3 y4 y5 y6 y7 y8 y9 y10 y11 n)]]) Z.d rfl (by rw[<- hem'];rfl) hok' he' hen2 hl2 ?_);rw[es3,<- eem3];have a4:zA .add .i64 i 1=i+1:=by rw[zC];show IntKind.i64.wrap (i+1)=i+1;rw[IntKind.wrap_i64];omega
    cbv;simp only[a4];refine hN (i+1,n,(e3,m3),em3) _ _ (by(refine Z.n (id) ?_;cbv<;>exact Z.q)) ⟨by simp only;omega,by simp only;omega,hs2,hok2,he2,eem3,hum3⟩ ?_;simp only;omega
   ·refine hE _ _ _ ?_
    cbv;have:=hKl (e,m') (by rw[hfold,List.take_of_length_le Z.o]) [.live 13 [(RB y0 y1 y2 y3 y4 y5 y6 y7 y8 y9 y10 y11 y)]];rw[<- hem'] at this;exact this):G:=h
section
variable (ss:List Sg) (gs:List Gr) (es ds:List (List AV)) (zU:es=ss.map k0Y) (yG:ds=gs.map k14) (hln:k2N ss) (yS:k4N ss) (lo hi:Int)
include zU yG hln yS
namespace Gw11
@[reducible] def XS(y0 y1 y2 y3 y4 y5 y6 y7 y8 y9 y10 y11:Int):List Int:=[y0,y1,y2,y3,y4,y5,y6,y7,y8,y9,y10]
@[reducible] def XN(y0 y1 y2 y3 y4 y5 y6 y7 y8 y9 y10 y11 n:Int):List Int:=[y0,y1,y2,y3,y4,y5,y6,y7,y8,y9,y10,n]
@[reducible] def XL(y0 y1 y2 y3 y4 y5 y6 y7 y8 y9 y10 y11:Int):Int:=y10
@[reducible] def RA(y0 y1 y2 y3 y4 y5 y6 y7 y8 y9 y10 y11:Int):List AV:=[jz 11,y0,y1,y2,y3,y4,y5,y6,y7,y8,y9,y10,jz 0]
@[reducible] def RB(y0 y1 y2 y3 y4 y5 y6 y7 y8 y9 y10 y11 n:Int):List AV:=[jz 12,y0,y1,y2,y3,y4,y5,y6,y7,y8,y9,y10,n]
@[reducible] def dp:Nat:=2
@[reducible] def dq:Nat:=1
@[reducible] def nP:Int:=10
@[reducible] def nA:Int:=11
@[reducible] def nB:Int:=12
theorem NX(y0 y1 y2 y3 y4 y5 y6 y7 y8 y9 y10 y11 n:Int):k23 ss es ds lo hi dq (XN y0 y1 y2 y3 y4 y5 y6 y7 y8 y9 y10 y11 n):=kIL ss gs es ds zU yG hln yS lo hi y0 y1 y2 y3 y4 y5 y6 y7 y8 y9 y10 n
theorem gr(y0 y1 y2 y3 y4 y5 y6 y7 y8 y9 y10 y11:Int):k23 ss es ds lo hi dp (XS y0 y1 y2 y3 y4 y5 y6 y7 y8 y9 y10 y11):=by exact kAS
end Gw11
theorem kSC(y0 y1 y2 y3 y4 y5 y6 y7 y8 y9 y10:Int):k23 ss es ds lo hi 2 [y0,y1,y2,y3,y4,y5,y6,y7,y8,y9,y10]:=Gw11.gr ss gs es ds zU yG hln yS lo hi y0 y1 y2 y3 y4 y5 y6 y7 y8 y9 y10 0
namespace Gw10
@[reducible] def XS(y0 y1 y2 y3 y4 y5 y6 y7 y8 y9 y10 y11:Int):List Int:=[y0,y1,y2,y3,y4,y5,y6,y7,y8,y9]
@[reducible] def XN(y0 y1 y2 y3 y4 y5 y6 y7 y8 y9 y10 y11 n:Int):List Int:=[y0,y1,y2,y3,y4,y5,y6,y7,y8,y9,n]
@[reducible] def XL(y0 y1 y2 y3 y4 y5 y6 y7 y8 y9 y10 y11:Int):Int:=y9
@[reducible] def RA(y0 y1 y2 y3 y4 y5 y6 y7 y8 y9 y10 y11:Int):List AV:=[jz 10,y0,y1,y2,y3,y4,y5,y6,y7,y8,y9,jz 0,jz 0]
@[reducible] def RB(y0 y1 y2 y3 y4 y5 y6 y7 y8 y9 y10 y11 n:Int):List AV:=[jz 11,y0,y1,y2,y3,y4,y5,y6,y7,y8,y9,n,jz 0]
@[reducible] def dp:Nat:=3
@[reducible] def dq:Nat:=2
@[reducible] def nP:Int:=9
@[reducible] def nA:Int:=10
@[reducible] def nB:Int:=11
theorem NX(y0 y1 y2 y3 y4 y5 y6 y7 y8 y9 y10 y11 n:Int):k23 ss es ds lo hi dq (XN y0 y1 y2 y3 y4 y5 y6 y7 y8 y9 y10 y11 n):=Gw11.gr ss gs es ds zU yG hln yS lo hi y0 y1 y2 y3 y4 y5 y6 y7 y8 y9 n 0
theorem gr(y0 y1 y2 y3 y4 y5 y6 y7 y8 y9 y10 y11:Int):k23 ss es ds lo hi dp (XS y0 y1 y2 y3 y4 y5 y6 y7 y8 y9 y10 y11):=by exact kAS
end Gw10
theorem kSD(y0 y1 y2 y3 y4 y5 y6 y7 y8 y9:Int):k23 ss es ds lo hi 3 [y0,y1,y2,y3,y4,y5,y6,y7,y8,y9]:=Gw10.gr ss gs es ds zU yG hln yS lo hi y0 y1 y2 y3 y4 y5 y6 y7 y8 y9 0 0
namespace Gw9
@[reducible] def XS(y0 y1 y2 y3 y4 y5 y6 y7 y8 y9 y10 y11:Int):List Int:=[y0,y1,y2,y3,y4,y5,y6,y7,y8]
@[reducible] def XN(y0 y1 y2 y3 y4 y5 y6 y7 y8 y9 y10 y11 n:Int):List Int:=[y0,y1,y2,y3,y4,y5,y6,y7,y8,n]
@[reducible] def XL(y0 y1 y2 y3 y4 y5 y6 y7 y8 y9 y10 y11:Int):Int:=y8
@[reducible] def RA(y0 y1 y2 y3 y4 y5 y6 y7 y8 y9 y10 y11:Int):List AV:=[jz 9,y0,y1,y2,y3,y4,y5,y6,y7,y8,jz 0,jz 0,jz 0]
@[reducible] def RB(y0 y1 y2 y3 y4 y5 y6 y7 y8 y9 y10 y11 n:Int):List AV:=[jz 10,y0,y1,y2,y3,y4,y5,y6,y7,y8,n,jz 0,jz 0]
@[reducible] def dp:Nat:=4
@[reducible] def dq:Nat:=3
@[reducible] def nP:Int:=8
@[reducible] def nA:Int:=9
@[reducible] def nB:Int:=10
theorem NX(y0 y1 y2 y3 y4 y5 y6 y7 y8 y9 y10 y11 n:Int):k23 ss es ds lo hi dq (XN y0 y1 y2 y3 y4 y5 y6 y7 y8 y9 y10 y11 n):=Gw10.gr ss gs es ds zU yG hln yS lo hi y0 y1 y2 y3 y4 y5 y6 y7 y8 n 0 0
theorem gr(y0 y1 y2 y3 y4 y5 y6 y7 y8 y9 y10 y11:Int):k23 ss es ds lo hi dp (XS y0 y1 y2 y3 y4 y5 y6 y7 y8 y9 y10 y11):=by exact kAS
end Gw9
theorem kXC(y0 y1 y2 y3 y4 y5 y6 y7 y8:Int):k23 ss es ds lo hi 4 [y0,y1,y2,y3,y4,y5,y6,y7,y8]:=Gw9.gr ss gs es ds zU yG hln yS lo hi y0 y1 y2 y3 y4 y5 y6 y7 y8 0 0 0
namespace Gw8
@[reducible] def XS(y0 y1 y2 y3 y4 y5 y6 y7 y8 y9 y10 y11:Int):List Int:=[y0,y1,y2,y3,y4,y5,y6,y7]
@[reducible] def XN(y0 y1 y2 y3 y4 y5 y6 y7 y8 y9 y10 y11 n:Int):List Int:=[y0,y1,y2,y3,y4,y5,y6,y7,n]
@[reducible] def XL(y0 y1 y2 y3 y4 y5 y6 y7 y8 y9 y10 y11:Int):Int:=y7
@[reducible] def RA(y0 y1 y2 y3 y4 y5 y6 y7 y8 y9 y10 y11:Int):List AV:=[jz 8,y0,y1,y2,y3,y4,y5,y6,y7,jz 0,jz 0,jz 0,jz 0]
@[reducible] def RB(y0 y1 y2 y3 y4 y5 y6 y7 y8 y9 y10 y11 n:Int):List AV:=[jz 9,y0,y1,y2,y3,y4,y5,y6,y7,n,jz 0,jz 0,jz 0]
@[reducible] def dp:Nat:=5
@[reducible] def dq:Nat:=4
@[reducible] def nP:Int:=7
@[reducible] def nA:Int:=8
@[reducible] def nB:Int:=9
theorem NX(y0 y1 y2 y3 y4 y5 y6 y7 y8 y9 y10 y11 n:Int):k23 ss es ds lo hi dq (XN y0 y1 y2 y3 y4 y5 y6 y7 y8 y9 y10 y11 n):=Gw9.gr ss gs es ds zU yG hln yS lo hi y0 y1 y2 y3 y4 y5 y6 y7 n 0 0 0
theorem gr(y0 y1 y2 y3 y4 y5 y6 y7 y8 y9 y10 y11:Int):k23 ss es ds lo hi dp (XS y0 y1 y2 y3 y4 y5 y6 y7 y8 y9 y10 y11):=by exact kAS
end Gw8
theorem kXD(y0 y1 y2 y3 y4 y5 y6 y7:Int):k23 ss es ds lo hi 5 [y0,y1,y2,y3,y4,y5,y6,y7]:=Gw8.gr ss gs es ds zU yG hln yS lo hi y0 y1 y2 y3 y4 y5 y6 y7 0 0 0 0
namespace Gw7
@[reducible] def XS(y0 y1 y2 y3 y4 y5 y6 y7 y8 y9 y10 y11:Int):List Int:=[y0,y1,y2,y3,y4,y5,y6]
@[reducible] def XN(y0 y1 y2 y3 y4 y5 y6 y7 y8 y9 y10 y11 n:Int):List Int:=[y0,y1,y2,y3,y4,y5,y6,n]
@[reducible] def XL(y0 y1 y2 y3 y4 y5 y6 y7 y8 y9 y10 y11:Int):Int:=y6
@[reducible] def RA(y0 y1 y2 y3 y4 y5 y6 y7 y8 y9 y10 y11:Int):List AV:=[jz 7,y0,y1,y2,y3,y4,y5,y6,jz 0,jz 0,jz 0,jz 0,jz 0]
@[reducible] def RB(y0 y1 y2 y3 y4 y5 y6 y7 y8 y9 y10 y11 n:Int):List AV:=[jz 8,y0,y1,y2,y3,y4,y5,y6,n,jz 0,jz 0,jz 0,jz 0]
@[reducible] def dp:Nat:=6
@[reducible] def dq:Nat:=5
@[reducible] def nP:Int:=6
@[reducible] def nA:Int:=7
@[reducible] def nB:Int:=8
theorem NX(y0 y1 y2 y3 y4 y5 y6 y7 y8 y9 y10 y11 n:Int):k23 ss es ds lo hi dq (XN y0 y1 y2 y3 y4 y5 y6 y7 y8 y9 y10 y11 n):=Gw8.gr ss gs es ds zU yG hln yS lo hi y0 y1 y2 y3 y4 y5 y6 n 0 0 0 0
theorem gr(y0 y1 y2 y3 y4 y5 y6 y7 y8 y9 y10 y11:Int):k23 ss es ds lo hi dp (XS y0 y1 y2 y3 y4 y5 y6 y7 y8 y9 y10 y11):=by exact kAS
end Gw7
theorem kXE(y0 y1 y2 y3 y4 y5 y6:Int):k23 ss es ds lo hi 6 [y0,y1,y2,y3,y4,y5,y6]:=Gw7.gr ss gs es ds zU yG hln yS lo hi y0 y1 y2 y3 y4 y5 y6 0 0 0 0 0
namespace Gw6
@[reducible] def XS(y0 y1 y2 y3 y4 y5 y6 y7 y8 y9 y10 y11:Int):List Int:=[y0,y1,y2,y3,y4,y5]
@[reducible] def XN(y0 y1 y2 y3 y4 y5 y6 y7 y8 y9 y10 y11 n:Int):List Int:=[y0,y1,y2,y3,y4,y5,n]
@[reducible] def XL(y0 y1 y2 y3 y4 y5 y6 y7 y8 y9 y10 y11:Int):Int:=y5
@[reducible] def RA(y0 y1 y2 y3 y4 y5 y6 y7 y8 y9 y10 y11:Int):List AV:=[jz 6,y0,y1,y2,y3,y4,y5,jz 0,jz 0,jz 0,jz 0,jz 0,jz 0]
@[reducible] def RB(y0 y1 y2 y3 y4 y5 y6 y7 y8 y9 y10 y11 n:Int):List AV:=[jz 7,y0,y1,y2,y3,y4,y5,n,jz 0,jz 0,jz 0,jz 0,jz 0]
@[reducible] def dp:Nat:=7
@[reducible] def dq:Nat:=6
@[reducible] def nP:Int:=5
@[reducible] def nA:Int:=6
@[reducible] def nB:Int:=7
theorem NX(y0 y1 y2 y3 y4 y5 y6 y7 y8 y9 y10 y11 n:Int):k23 ss es ds lo hi dq (XN y0 y1 y2 y3 y4 y5 y6 y7 y8 y9 y10 y11 n):=Gw7.gr ss gs es ds zU yG hln yS lo hi y0 y1 y2 y3 y4 y5 n 0 0 0 0 0
theorem gr(y0 y1 y2 y3 y4 y5 y6 y7 y8 y9 y10 y11:Int):k23 ss es ds lo hi dp (XS y0 y1 y2 y3 y4 y5 y6 y7 y8 y9 y10 y11):=by exact kAS
end Gw6
theorem kXF(y0 y1 y2 y3 y4 y5:Int):k23 ss es ds lo hi 7 [y0,y1,y2,y3,y4,y5]:=Gw6.gr ss gs es ds zU yG hln yS lo hi y0 y1 y2 y3 y4 y5 0 0 0 0 0 0
namespace Gw5
@[reducible] def XS(y0 y1 y2 y3 y4 y5 y6 y7 y8 y9 y10 y11:Int):List Int:=[y0,y1,y2,y3,y4]
@[reducible] def XN(y0 y1 y2 y3 y4 y5 y6 y7 y8 y9 y10 y11 n:Int):List Int:=[y0,y1,y2,y3,y4,n]
@[reducible] def XL(y0 y1 y2 y3 y4 y5 y6 y7 y8 y9 y10 y11:Int):Int:=y4
@[reducible] def RA(y0 y1 y2 y3 y4 y5 y6 y7 y8 y9 y10 y11:Int):List AV:=[jz 5,y0,y1,y2,y3,y4,jz 0,jz 0,jz 0,jz 0,jz 0,jz 0,jz 0]
@[reducible] def RB(y0 y1 y2 y3 y4 y5 y6 y7 y8 y9 y10 y11 n:Int):List AV:=[jz 6,y0,y1,y2,y3,y4,n,jz 0,jz 0,jz 0,jz 0,jz 0,jz 0]
@[reducible] def dp:Nat:=8
@[reducible] def dq:Nat:=7
@[reducible] def nP:Int:=4
@[reducible] def nA:Int:=5
@[reducible] def nB:Int:=6
theorem NX(y0 y1 y2 y3 y4 y5 y6 y7 y8 y9 y10 y11 n:Int):k23 ss es ds lo hi dq (XN y0 y1 y2 y3 y4 y5 y6 y7 y8 y9 y10 y11 n):=Gw6.gr ss gs es ds zU yG hln yS lo hi y0 y1 y2 y3 y4 n 0 0 0 0 0 0
theorem gr(y0 y1 y2 y3 y4 y5 y6 y7 y8 y9 y10 y11:Int):k23 ss es ds lo hi dp (XS y0 y1 y2 y3 y4 y5 y6 y7 y8 y9 y10 y11):=by exact kAS
end Gw5
theorem kXG(y0 y1 y2 y3 y4:Int):k23 ss es ds lo hi 8 [y0,y1,y2,y3,y4]:=Gw5.gr ss gs es ds zU yG hln yS lo hi y0 y1 y2 y3 y4 0 0 0 0 0 0 0
namespace Gw4
@[reducible] def XS(y0 y1 y2 y3 y4 y5 y6 y7 y8 y9 y10 y11:Int):List Int:=[y0,y1,y2,y3]
@[reducible] def XN(y0 y1 y2 y3 y4 y5 y6 y7 y8 y9 y10 y11 n:Int):List Int:=[y0,y1,y2,y3,n]
@[reducible] def XL(y0 y1 y2 y3 y4 y5 y6 y7 y8 y9 y10 y11:Int):Int:=y3
@[reducible] def RA(y0 y1 y2 y3 y4 y5 y6 y7 y8 y9 y10 y11:Int):List AV:=[jz 4,y0,y1,y2,y3,jz 0,jz 0,jz 0,jz 0,jz 0,jz 0,jz 0,jz 0]
@[reducible] def RB(y0 y1 y2 y3 y4 y5 y6 y7 y8 y9 y10 y11 n:Int):List AV:=[jz 5,y0,y1,y2,y3,n,jz 0,jz 0,jz 0,jz 0,jz 0,jz 0,jz 0]
@[reducible] def dp:Nat:=9
@[reducible] def dq:Nat:=8
@[reducible] def nP:Int:=3
@[reducible] def nA:Int:=4
@[reducible] def nB:Int:=5
theorem NX(y0 y1 y2 y3 y4 y5 y6 y7 y8 y9 y10 y11 n:Int):k23 ss es ds lo hi dq (XN y0 y1 y2 y3 y4 y5 y6 y7 y8 y9 y10 y11 n):=Gw5.gr ss gs es ds zU yG hln yS lo hi y0 y1 y2 y3 n 0 0 0 0 0 0 0
theorem gr(y0 y1 y2 y3 y4 y5 y6 y7 y8 y9 y10 y11:Int):k23 ss es ds lo hi dp (XS y0 y1 y2 y3 y4 y5 y6 y7 y8 y9 y10 y11):=by exact kAS
end Gw4
theorem kXH(y0 y1 y2 y3:Int):k23 ss es ds lo hi 9 [y0,y1,y2,y3]:=Gw4.gr ss gs es ds zU yG hln yS lo hi y0 y1 y2 y3 0 0 0 0 0 0 0 0
namespace Gw3
@[reducible] def XS(y0 y1 y2 y3 y4 y5 y6 y7 y8 y9 y10 y11:Int):List Int:=[y0,y1,y2]
@[reducible] def XN(y0 y1 y2 y3 y4 y5 y6 y7 y8 y9 y10 y11 n:Int):List Int:=[y0,y1,y2,n]
@[reducible] def XL(y0 y1 y2 y3 y4 y5 y6 y7 y8 y9 y10 y11:Int):Int:=y2
@[reducible] def RA(y0 y1 y2 y3 y4 y5 y6 y7 y8 y9 y10 y11:Int):List AV:=[jz 3,y0,y1,y2,jz 0,jz 0,jz 0,jz 0,jz 0,jz 0,jz 0,jz 0,jz 0]
@[reducible] def RB(y0 y1 y2 y3 y4 y5 y6 y7 y8 y9 y10 y11 n:Int):List AV:=[jz 4,y0,y1,y2,n,jz 0,jz 0,jz 0,jz 0,jz 0,jz 0,jz 0,jz 0]
@[reducible] def dp:Nat:=10
@[reducible] def dq:Nat:=9
@[reducible] def nP:Int:=2
@[reducible] def nA:Int:=3
@[reducible] def nB:Int:=4
theorem NX(y0 y1 y2 y3 y4 y5 y6 y7 y8 y9 y10 y11 n:Int):k23 ss es ds lo hi dq (XN y0 y1 y2 y3 y4 y5 y6 y7 y8 y9 y10 y11 n):=Gw4.gr ss gs es ds zU yG hln yS lo hi y0 y1 y2 n 0 0 0 0 0 0 0 0
theorem gr(y0 y1 y2 y3 y4 y5 y6 y7 y8 y9 y10 y11:Int):k23 ss es ds lo hi dp (XS y0 y1 y2 y3 y4 y5 y6 y7 y8 y9 y10 y11):=by exact kAS
end Gw3
theorem kXI(y0 y1 y2:Int):k23 ss es ds lo hi 10 [y0,y1,y2]:=Gw3.gr ss gs es ds zU yG hln yS lo hi y0 y1 y2 0 0 0 0 0 0 0 0 0
namespace Gw2
@[reducible] def XS(y0 y1 y2 y3 y4 y5 y6 y7 y8 y9 y10 y11:Int):List Int:=[y0,y1]
@[reducible] def XN(y0 y1 y2 y3 y4 y5 y6 y7 y8 y9 y10 y11 n:Int):List Int:=[y0,y1,n]
@[reducible] def XL(y0 y1 y2 y3 y4 y5 y6 y7 y8 y9 y10 y11:Int):Int:=y1
@[reducible] def RA(y0 y1 y2 y3 y4 y5 y6 y7 y8 y9 y10 y11:Int):List AV:=[jz 2,y0,y1,jz 0,jz 0,jz 0,jz 0,jz 0,jz 0,jz 0,jz 0,jz 0,jz 0]
@[reducible] def RB(y0 y1 y2 y3 y4 y5 y6 y7 y8 y9 y10 y11 n:Int):List AV:=[jz 3,y0,y1,n,jz 0,jz 0,jz 0,jz 0,jz 0,jz 0,jz 0,jz 0,jz 0]
@[reducible] def dp:Nat:=11
@[reducible] def dq:Nat:=10
@[reducible] def nP:Int:=1
@[reducible] def nA:Int:=2
@[reducible] def nB:Int:=3
theorem NX(y0 y1 y2 y3 y4 y5 y6 y7 y8 y9 y10 y11 n:Int):k23 ss es ds lo hi dq (XN y0 y1 y2 y3 y4 y5 y6 y7 y8 y9 y10 y11 n):=Gw3.gr ss gs es ds zU yG hln yS lo hi y0 y1 n 0 0 0 0 0 0 0 0 0
theorem gr(y0 y1 y2 y3 y4 y5 y6 y7 y8 y9 y10 y11:Int):k23 ss es ds lo hi dp (XS y0 y1 y2 y3 y4 y5 y6 y7 y8 y9 y10 y11):=by exact kAS
end Gw2
theorem kXJ(y0 y1:Int):k23 ss es ds lo hi 11 [y0,y1]:=Gw2.gr ss gs es ds zU yG hln yS lo hi y0 y1 0 0 0 0 0 0 0 0 0 0
namespace Gw1
@[reducible] def XS(y0 y1 y2 y3 y4 y5 y6 y7 y8 y9 y10 y11:Int):List Int:=[y0]
@[reducible] def XN(y0 y1 y2 y3 y4 y5 y6 y7 y8 y9 y10 y11 n:Int):List Int:=[y0,n]
@[reducible] def XL(y0 y1 y2 y3 y4 y5 y6 y7 y8 y9 y10 y11:Int):Int:=y0
@[reducible] def RA(y0 y1 y2 y3 y4 y5 y6 y7 y8 y9 y10 y11:Int):List AV:=[jz 1,y0,jz 0,jz 0,jz 0,jz 0,jz 0,jz 0,jz 0,jz 0,jz 0,jz 0,jz 0]
@[reducible] def RB(y0 y1 y2 y3 y4 y5 y6 y7 y8 y9 y10 y11 n:Int):List AV:=[jz 2,y0,n,jz 0,jz 0,jz 0,jz 0,jz 0,jz 0,jz 0,jz 0,jz 0,jz 0]
@[reducible] def dp:Nat:=12
@[reducible] def dq:Nat:=11
@[reducible] def nP:Int:=0
@[reducible] def nA:Int:=1
@[reducible] def nB:Int:=2
theorem NX(y0 y1 y2 y3 y4 y5 y6 y7 y8 y9 y10 y11 n:Int):k23 ss es ds lo hi dq (XN y0 y1 y2 y3 y4 y5 y6 y7 y8 y9 y10 y11 n):=Gw2.gr ss gs es ds zU yG hln yS lo hi y0 n 0 0 0 0 0 0 0 0 0 0
theorem gr(y0 y1 y2 y3 y4 y5 y6 y7 y8 y9 y10 y11:Int):k23 ss es ds lo hi dp (XS y0 y1 y2 y3 y4 y5 y6 y7 y8 y9 y10 y11):=by exact kAS
end Gw1
theorem kXK(y0:Int):k23 ss es ds lo hi 12 [y0]:=Gw1.gr ss gs es ds zU yG hln yS lo hi y0 0 0 0 0 0 0 0 0 0 0 0
end
theorem kXB(ss:List Sg)(gs:List Gr)(es ds:List (List AV))(zU:es=ss.map k0Y)(yG:ds=gs.map k14)(hln:k2N ss)(yS:k4N ss)(lo hi:Int):∀l:List Int,l.length<=12/\1<=l.length->k23 ss es ds lo hi (13-l.length) l
 | [],h=>absurd h.2 Z.d
 | [x0],h=>kXK ss gs es ds zU yG hln yS lo hi x0
 | [x0,x1],h=>kXJ ss gs es ds zU yG hln yS lo hi x0 x1
 | [x0,x1,x2],h=>kXI ss gs es ds zU yG hln yS lo hi x0 x1 x2
 | [x0,x1,x2,x3],h=>kXH ss gs es ds zU yG hln yS lo hi x0 x1 x2 x3
 | [x0,x1,x2,x3,x4],h=>kXG ss gs es ds zU yG hln yS lo hi x0 x1 x2 x3 x4
 | [x0,x1,x2,x3,x4,x5],h=>kXF ss gs es ds zU yG hln yS lo hi x0 x1 x2 x3 x4 x5
 | [x0,x1,x2,x3,x4,x5,x6],h=>kXE ss gs es ds zU yG hln yS lo hi x0 x1 x2 x3 x4 x5 x6
 | [x0,x1,x2,x3,x4,x5,x6,x7],h=>kXD ss gs es ds zU yG hln yS lo hi x0 x1 x2 x3 x4 x5 x6 x7
 | [x0,x1,x2,x3,x4,x5,x6,x7,x8],h=>kXC ss gs es ds zU yG hln yS lo hi x0 x1 x2 x3 x4 x5 x6 x7 x8
 | [x0,x1,x2,x3,x4,x5,x6,x7,x8,x9],h=>kSD ss gs es ds zU yG hln yS lo hi x0 x1 x2 x3 x4 x5 x6 x7 x8 x9
 | [x0,x1,x2,x3,x4,x5,x6,x7,x8,x9,x10],h=>kSC ss gs es ds zU yG hln yS lo hi x0 x1 x2 x3 x4 x5 x6 x7 x8 x9 x10
 | [x0,x1,x2,x3,x4,x5,x6,x7,x8,x9,x10,x11],h=>kIL ss gs es ds zU yG hln yS lo hi x0 x1 x2 x3 x4 x5 x6 x7 x8 x9 x10 x11
 | _::_::_::_::_::_::_::_::_::_::_::_::_::_,h=>absurd h.1 (by simp)
instance ltL_dec:∀l m:List Int,Decidable (ltL l m)
 | a::l,b::m=>match ltL_dec l m with
   | .isTrue h=>if h1:a<b then .isTrue (.inl h1) else if h2:a=b then .isTrue (.inr ⟨h2,h⟩) else .isFalse λh3=>h3.elim h1 λh4=>h2 h4.1
   | .isFalse h=>if h1:a<b then .isTrue (.inl h1) else .isFalse λh3=>h3.elim h1 λh4=>h h4.2
 | [],_=>.isFalse λh=>h
 | _::_,[]=>.isFalse λh=>h
def ltR(l m:List Int):Prop:=ltL (toR l).key (toR m).key
instance (l m:List Int):Decidable (ltR l m):=ltL_dec _ _
def kYO(l:List Int):List (List Int)->List (List Int)
 | []=>[l]
 | k::m=>if ltR k l then k::kYO l m else l::k::m
def kG2:List (List Int)->List (List Int)
 | []=>[]
 | l::m=>kYO l (kG2 m)
theorem kAQ(l:List Int):∀m,(kYO l m).Perm (l::m)
 | []=>.refl _
 | k::m=>by
   unfold kYO;split
   ·exact((kAQ l m).cons k).trans (.swap l k m)
   ·exact .refl _
theorem k3Y:∀m,(kG2 m).Perm m
 | []=>.refl _
 | l::m=>(kAQ l _).trans ((k3Y m).cons l)
theorem kEX{a b c:List Int}:ltR a b->ltR b c->ltR a c:=k8G _ _ _
theorem kJZ(a:List Int):¬ltR a a:=k97 _
theorem kMV(a b:List Int):ltR a b\/toR a=toR b\/ltR b a:=(k8H (toR a).key (toR b).key rfl).imp id λh=>h.imp (λh=>R13.key_inj h) id
theorem kMY{a b c:List Int}(h1:¬ltR b a)(h2:¬ltR c b):¬ltR c a:=λh=>by
 rcases kMV a b with h3|h3|h3
 ·exact h2 (kEX h h3)
 ·unfold ltR at h h2;rw[h3] at h;exact h2 h
 ·exact h1 h3
theorem kAP(l:List Int):∀m,m.Pairwise (λx y=>¬ltR y x)->(kYO l m).Pairwise (λx y=>¬ltR y x)
 | [],_=>List.pairwise_singleton _ _
 | k::m,h=>by
   obtain⟨h1,h2⟩:=List.pairwise_cons.1 h;unfold kYO;split
   ·rename_i hk
    refine List.pairwise_cons.2 ⟨λx hx=>?_,kAP l m h2⟩;rcases List.mem_cons.1 ((kAQ l m).mem_iff.1 hx) with rfl|hx
    ·exact λh3=>kJZ _ (kEX hk h3)
    ·exact h1 x hx
   ·rename_i hk
    refine List.pairwise_cons.2 ⟨λx hx=>?_,h⟩;rcases List.mem_cons.1 hx with rfl|hx
    ·exact hk
    ·exact kMY hk (h1 x hx)
theorem k6G:∀m,(kG2 m).Pairwise (λx y=>¬ltR y x)
 | []=>List.Pairwise.nil
 | l::m=>kAP l _ (k6G m)
theorem k89:∀ {l m:List R13},l.Perm m->l.Pairwise (λx y=>¬ltL y.key x.key)->m.Pairwise (λx y=>¬ltL y.key x.key)->l=m
 | [],m,hp,_,_=>(List.nil_perm.1 hp).symm
 | a::l,[],hp,_,_=>absurd hp.length_eq (by simp)
 | a::l,b::m,hp,h1,h2=>by
   obtain⟨k1,k2⟩:=List.pairwise_cons.1 h1;obtain⟨k3,k4⟩:=List.pairwise_cons.1 h2
   have e:a=b:=by
    rcases List.mem_cons.1 (hp.mem_iff.1 (List.mem_cons_self (a:=a) (l:=l))) with e|ha
    ·exact e
    ·rcases List.mem_cons.1 (hp.mem_iff.2 (List.mem_cons_self (a:=b) (l:=m))) with e|hb
     ·exact e.symm
     ·have h3:=k3 a ha
      have h4:=k1 b hb;rcases k8H a.key b.key rfl with h|h|h
      ·exact absurd h h3
      ·exact R13.key_inj h
      ·exact absurd h h4
   subst e;rw[k89 (List.Perm.cons_inv hp) k2 k4]
theorem kED{m:List (List Int)}{rs:List R13}(hp:rs.Perm (m.map toR))(hs:rs.Pairwise (λx y=>¬ltL y.key x.key)):rs=(kG2 m).map toR:=
 k89 (hp.trans ((k3Y m).map toR).symm) hs (List.pairwise_map.2 (k6G m))
def k8L(ss:List Sg)(lo hi from_:Int)(ls:List (List Int)):Int×List (List Int):=ls.foldl (λs l=>k34 ss lo hi (13-l.length) l (k7V ss from_ l) s) (0,[])
def k99(ss:List Sg)(lo hi from_:Int)(ls:List (List Int)):(Int×List (List Int))×Int:=
 if hi<lo\/lo < -from_ then ((0,[]),40)
 else if (k8L ss lo hi from_ ls).1≠0 then ((0,[]),(k8L ss lo hi from_ ls).1)
 else if (k8L ss lo hi from_ ls).2=[] then ((0,[]),40)
 else ((from_,kG2 (k8L ss lo hi from_ ls).2),0)
structure k5X(ss:List Sg)(l:List Int):Prop where
 len:l.length<=12/\1<=l.length
 seg:∀n,n∈l->0<=n/\n.toNat<ss.length
theorem kL5(sn:List Nat)(j:Nat):Up0 (sn.map (λk:Nat=>[AV.int .i64 (k:Int)])++[[AV.int .i64 (j:Int)]]):=by
 have:=k1D (f:=λk:Nat=>[AV.int .i64 (k:Int)]) (λd=>rfl) (sn++[j])
 rwa [List.map_append] at this
theorem kA1:∀(n:Nat) (l:List Nat),l.Nodup->(∀i,i∈l->i<n)->l.length<=n
 | 0,l,_,h2=>by
   cases l with
   | nil=>simp
   | cons a l=>exact absurd (h2 a (by simp)) Z.o
 | n+1,l,h,h2=>by
   have:=kA1 n (l.erase n) (h.erase n) λi hi=>by
    have h3:=(h.mem_erase_iff.1 hi);have:=h2 i h3.2;omega
   rw[List.length_erase] at this;split at this<;>omega
theorem kH4{P:Program}(hP:Tryz.prog=P){h:k00}{K:AV->k00->Prop}(hK:K (.tuple []) h) :
 k06 P 210 [.nils,.func (.func 211) [] []] h K:=by
 subst hP;refine⟨⟨_,Tryz.func210,by kernel_rfl,by kernel_rfl⟩,λC vs hC RC hv=>?_⟩;subst hC;obtain⟨hvl,hv0⟩:=hv
 have hvs:vs = #[vs.getD 0 undef,vs.getD 1 undef]:=by
  have hn:vs.size=2:=(by simpa using hvl);obtain⟨l⟩:=vs
  match l,hn with
  | [x,y],_=>rfl
 have e0:=(hv0 0 _ rfl).nils';rw[hvs,e0];have hcall:=AnyF.slices_SortFunc_none (P:=Tryz.prog) Tryz.sortFL none 0 (vs.getD 1 undef) C.w;refine hcall.mono ?_;rintro e w' ⟨rfl,rfl⟩;exact⟨_,_,_,rfl,hK,rfl,RC,.tuple [] #[] rfl (λi x hx=>by simp at hx),Ext.refl _ _,Nat.le_refl _⟩
theorem kRS(a b:Int)(o:Bool)(h:o=decide (a<=b)):k02 Tryz.prog 73 [.agg [a,b]] (· = .bool o):=by
 (refine k02.ofX Tryz.func73 (by kernel_rfl) (by kernel_rfl) λw hw R hR=>?_);(conv=>arg 2;cbv);(generalize hP:Tryz.prog=P);cbv;subst hw;exact⟨_,Vw.same rfl,hR _ (by rw[h];rfl)⟩
theorem kXA(ss:List Sg)(gs:List Gr)(es ds:List (List AV))(zU:es=ss.map k0Y)(yG:ds=gs.map k14)(hln:k2N ss)(yS:k4N ss)(lo hi from_:Int)(hf:0<=from_/\from_<=1099511627776)(ls:List (List Int))(hls:∀l,l∈ls->k5X ss l)(hsz1:ls.length<=1000)(rs:List (List AV))(yL:rs=ls.map rtC)(v:(Int×List (List Int))×Int)(hv:v=k99 ss lo hi from_ ls) :
 k02 Tryz.prog 153 [.agg [from_,.list 13 rs],.agg [.list 3 es,.list 5 ds],.agg [lo,hi]] (· = .tuple [.agg [v.1.1,.list 13 (v.1.2.map rtC)],v.2]):=by
 have hu:Up0 es:=by rw[zU];exact k42 ss
 have hud:Up0 ds:=by rw[yG];exact k43 gs
 have hur:Up0 rs:=by rw[yL];exact k1D (f:=rtC) (λd=>rfl) ls
 obtain⟨⟨v1,v2⟩,v3⟩:=v;obtain⟨vs,evs⟩:=Z.e (v2.map rtC);show k02 Tryz.prog 153 [.agg [from_,.list 13 rs],.agg [.list 3 es,.list 5 ds],.agg [lo,hi]] (· = .tuple [.agg [v1,.list 13 (v2.map rtC)],v3]);rw[<- evs];obtain⟨o,eo⟩:=Z.e (decide (lo<=hi));(refine k02.ofY Tryz.func153 (by kernel_rfl) (by kernel_rfl) (Z.w λzA zG yT _ zF _ _ _ _ _ _ _ _ _ zK _ _ _ _ _ hw zC zB yM _ zI _ _ _ _ _ _ _ zE _ zR _ _ _ _ _ hz R hR=>?_));(conv=>arg 2;cbv);(generalize hP:Tryz.prog=P);cbv;refine Call.stepE (by rw[<- hP];exact kRS lo hi o eo) rfl ?_;cbv;obtain⟨a0,ea0⟩:∃a0,a0 = -from_:=⟨_,rfl⟩;have c0:yT .neg .i64 from_=a0:=by rw[yM,ea0];simp only[k08];rw[IntKind.wrap_i64];omega
 by_cases hr:lo<=hi
 rotate_left 1
 ·have n1:zF o=true:=by rw[zI,eo];simp[hr]
  simp only[n1];cbv
  have hva:(v1,v2,v3)=(0,[],40):=by
   unfold k99 at hv;rw[if_pos (.inl Z.o)] at hv;simp only[Prod.mk.injEq] at hv ⊢;exact⟨hv.1.1,hv.1.2,hv.2⟩
  simp only[Prod.mk.injEq] at hva;obtain⟨rfl,rfl,rfl⟩:=hva;subst evs;exact⟨_,Vw.tuple (rs:=[.agg [jz 0,.list 13 []],.int .i64 40]) ⟨Vw.agg (rs:=[.int .i64 0,.list 13 []]) ⟨Vw.same rfl,Vw.nil 13,trivial⟩,Vw.same rfl,trivial⟩,hR _ rfl⟩
 have n1:zF o=false:=by rw[zI,eo];simp[hr]
 simp only[n1];cbv;simp only[c0];(split<;>rename_i h1<;>(try (simp only[hz,Z.a,k05,k04,k08,k03,k0M,reduceCtorEq] at h1))<;>(try cbv))
 ·have hva:(v1,v2,v3)=(0,[],40):=by
   unfold k99 at hv;rw[if_pos (.inr Z.o)] at hv;simp only[Prod.mk.injEq] at hv ⊢;exact⟨hv.1.1,hv.1.2,hv.2⟩
  simp only[Prod.mk.injEq] at hva;obtain⟨rfl,rfl,rfl⟩:=hva;subst evs;exact⟨_,Vw.tuple (rs:=[.agg [jz 0,.list 13 []],.int .i64 40]) ⟨Vw.agg (rs:=[.int .i64 0,.list 13 []]) ⟨Vw.same rfl,Vw.nil 13,trivial⟩,Vw.same rfl,trivial⟩,hR _ rfl⟩
 obtain⟨L,eL,L0,Ln⟩:=Z.l zE rs;simp only[eL];have hemp:Up0 ([]:List (List AV)):=⟨rfl⟩;have hrl:rs.length=ls.length:=by rw[yL];simp
 unfold k99 at hv;rw[if_neg (show ¬(hi<lo\/lo < -from_) by omega)] at hv
 refine k1Q.data hw (S:=Int×(Int×List (List Int))×List (List AV)) (λs=>fr 84 [(3,.ref 0 2 0 0),(4,.ref 1 2 0 0),(6,.ref 3 2 0 0),(8,.ref 5 6 0 0),(31,.list 13 rs),(32,L),(33,s.1)])
  (λs=>[.live 2 [[from_,.list 13 rs]],.live 2 [[.list 3 es,.list 5 ds]],.live 2 [[lo,hi]],.live 2 [[jz 0,.nils]],.live 0 s.2.2,.live 6 [[.list 3 es,.list 5 ds,lo,hi,.mapr 4,s.2.1.1]]])
  (λs=>0<=s.1/\s.1<=L/\s.2.1=k8L ss lo hi from_ (ls.take s.1.toNat)/\GOk s.2.1/\(s.2.1.1=0\/s.2.1.1=13)/\s.2.2=ents s.2.1.2/\Up0 s.2.2) (λs=>(L-s.1).toNat) (0,(0,[]),[]) Z.i ⟨Int.le_refl _,L0,rfl,⟨by simp,λ_=>by simp,λk hk=>by simp at hk,List.nodup_nil⟩,.inl rfl,rfl,hemp⟩ ?_
 rintro⟨i,⟨e,m⟩,em⟩ zJ Q' hN hE hR'
 have zJ:0<=i/\i<=L/\(e,m)=k8L ss lo hi from_ (ls.take i.toNat)/\GOk (e,m)/\(e=0\/e=13)/\em=ents m/\Up0 em:=zJ;cbv;obtain⟨yJ,yZ,hfold,hok,he,hem,hum⟩:=zJ;(split<;>rename_i hc<;>(try (simp only[hz,Z.a,k05,k04,k08,k03,k0M,reduceCtorEq] at hc))<;>(try cbv))
 ·have hit:i.toNat<ls.length:=by omega
  obtain⟨l,hl⟩:∃l,ls[i.toNat]?=some l:=⟨_,List.getElem?_eq_getElem hit⟩;have hlo:=hls l (List.mem_of_getElem? hl);obtain⟨i2,ei2⟩:=Z.e (i+1);have a4:zA .add .i64 i 1=i2:=by rw[zC,ei2];show IntKind.i64.wrap (i+1)=i+1;rw[IntKind.wrap_i64];omega
  have hri:rs[i.toNat]?=some (toR l).row:=(by rw[yL,List.getElem?_map,hl];rfl);obtain⟨y,ey⟩:=Z.e (k7V ss from_ l);have hend:=kXO ss gs es ds zU yG hln from_ hf rs hur l hlo.len.1 hlo.seg;have hend:k02 Tryz.prog 167 [.agg [from_,.list 13 rs],.agg [.list 3 es,.list 5 ds],.agg (toR l).row] (· = .int .i64 y):=(by rw[ey];exact hend);obtain⟨⟨e3,m3⟩,es3⟩:∃s',s'=k34 ss lo hi (13-l.length) l y (e,m):=⟨_,rfl⟩
  have hs2:(e3,m3)=k8L ss lo hi from_ (ls.take i2.toNat):=by
   rw[es3,ei2,k24 yJ hl];unfold k8L at hfold ⊢;rw[List.foldl_append,<- hfold,List.foldl_cons,List.foldl_nil,ey]
  have hok2:=kA4 ss lo hi (13-l.length) l y (e,m) hok hlo.len;have he2:=kDB ss lo hi (13-l.length) l y (e,m) he;rw[<- es3] at hok2 he2;obtain⟨em3,eem3⟩:=Z.e (ents m3);have hum3:Up0 em3:=(by rw[eem3];exact k92 m3);have hyb:=kNK hln hf l;rw[<- ey] at hyb
  have hgr:∀ {H:k00} {K:AV->k00->Prop},H[5]?=some (.live 6 [[.list 3 es,.list 5 ds,lo,hi,.mapr 4,e]])->H[4]?=some (.live 0 em)->K (.tuple []) ((H.set 5 (.live 6 [[.list 3 es,.list 5 ds,lo,hi,.mapr 4,e3]])).set 4 (.live 0 em3))->k06 P 209 [.ref 5 6 0 0,.agg (toR l).row,y] H K:=λh1 h2 hK =>
   k23.call hu hud (kXB ss gs es ds zU yG hln yS lo hi l hlo.len) hP Z.d h1 (by rw[<- hem];exact h2) hok he hyb hlo.seg (by rw[<- es3,<- eem3];exact hK)
  obtain⟨row,erow⟩:=Z.e (toR l);rw[<- erow] at hri hend hgr;obtain⟨n,s0,s1,s2,s3,s4,s5,s6,s7,s8,s9,s10,s11⟩:=row;refine Idx.mk _ yJ hri ?_;cbv;have hup:∀n s0 s1 s2 s3 s4 s5 s6 s7 s8 s9 s10 s11:Int,k0Q 0 [AV.agg [from_,.list 13 rs],.agg [.list 3 es,.list 5 ds],.agg [n,s0,s1,s2,s3,s4,s5,s6,s7,s8,s9,s10,s11]]=true:=λn s0 s1 s2 s3 s4 s5 s6 s7 s8 s9 s10 s11=>(by simp only[k0Q,AV.upto,hu.get,hud.get,hur.get];rfl);refine k1R.stepE (by rw[<- hP];exact hend) (hup _ _ _ _ _ _ _ _ _ _ _ _ _) ?_;cbv;refine Call.of (hgr rfl rfl ?_);cbv;simp only[a4];refine hN (i2,(e3,m3),em3) _ _ ?hx ?hi ?ht
  case hx=>exact Z.i
  case hi=>exact⟨by simp only;omega,by simp only;omega,hs2,hok2,he2,eem3,hum3⟩
  case ht=>simp only;omega
 refine hE _ _ _ ?_;cbv;have hsv:(e,m)=k8L ss lo hi from_ ls:=by rw[hfold,List.take_of_length_le Z.o]
 rw[<- hsv] at hv;clear hfold;have htwo:∀x,x∈em->x.length=2:=by rw[hem];exact k8O m
 obtain⟨nE,enE⟩:∃n:Int,n=em.length:=⟨_,rfl⟩;refine Xo.range (kt:=239) (et:=3) (by rw[<- hP];kernel_rfl) rfl htwo nE enE ?_;cbv
 refine k1Q.data hw (S:=List Nat×List (List AV)×Option (Nat×List (List AV))) (λs=>fr 84 [(6,.ref 3 2 0 0),(8,.ref 5 6 0 0),(11,.ref 6 2 0 0),(52,.ref 7 0 0 0)])
  (λs=>match s.2.2 with
    | none=>[.live 2 [[from_,.list 13 rs]],.live 2 [[.list 3 es,.list 5 ds]],.live 2 [[lo,hi]],.live 2 [[jz 0,.nils]],.live 0 em,.live 6 [[.list 3 es,.list 5 ds,lo,hi,.mapr 4,e]],.live 2 [[from_,.nils]],.live 0 ([.mapr 4,.int .i64 nE,.int .i64 nE]::s.2.1)]
    | some (k,w)=>[.live 2 [[from_,.list 13 rs]],.live 2 [[.list 3 es,.list 5 ds]],.live 2 [[lo,hi]],.live 2 [[jz 0,.nils]],.live 0 em,.live 6 [[.list 3 es,.list 5 ds,lo,hi,.mapr 4,e]],.live 2 [[from_,.sl 8 13 0 k]],.live 0 ([.mapr 4,.int .i64 nE,.int .i64 nE]::s.2.1),.live 13 w])
  (λs=>s.1.Nodup/\(∀i,i∈s.1->i<m.length)/\s.2.1=s.1.map (λk:Nat=>[AV.int .i64 (k:Int)])/\Up0 s.2.1/\(match s.2.2 with|none=>s.1=[]|some (k,w)=>s.1≠[]/\k=s.1.length/\k=w.length/\Up0 w/\w=s.1.map (λi=>rtC (m.getD i [])))) (λs=>m.length-s.1.length) ([],[],none) Z.i ⟨List.nodup_nil,(λi hi=>by simp at hi),rfl,hemp,rfl⟩ ?_
 rintro⟨sn,sr,acc⟩ zJ Q' hN hE hR'
 cases acc with
 | none =>
   have zJ:sn.Nodup/\(∀i,i∈sn->i<m.length)/\sr=sn.map (λk:Nat=>[AV.int .i64 (k:Int)])/\Up0 sr/\sn=[]:=zJ;obtain⟨hnd,yH,hsr,husr,hs0⟩:=zJ;cbv;refine Xo.next (es:=em) (sr:=sr) (sn:=sn) rfl rfl htwo enE hsr ?_ ?_
   ·intro hall
    cbv;refine hE _ _ _ ?_;cbv
    have hm0:m=[]:=by
     have:em.length=0:=by
      by_cases h0:em.length=0
      ·exact h0
      ·have:=hall 0 Z.o;rw[hs0] at this;simp at this
     rw[hem,k6W] at this;exact List.length_eq_zero_iff.1 this
    rw[hm0] at hv;refine Call.of (kH4 hP ?_);cbv;(split<;>rename_i he0<;>(try (simp only[hz,Z.a,k05,k04,k08,k03,k0M,reduceCtorEq] at he0))<;>(try cbv))
    ·rw[if_pos (show ¬(e,([]:List (List Int))).1=0 from he0)] at hv
     simp only[Prod.mk.injEq] at hv;obtain⟨⟨rfl,rfl⟩,rfl⟩:=hv;subst evs;repeat' (refine And.intro ?_ ?_)
     all_goals exact⟨_,Vw.tuple (rs:=[.agg [jz 0,.list 13 []],.int .i64 v3]) ⟨Vw.agg (rs:=[.int .i64 0,.list 13 []]) ⟨Vw.same rfl,Vw.nil 13,trivial⟩,Vw.same rfl,trivial⟩,hR _ rfl⟩
    ·have c2:zK 0=0:=by rw[zR];rfl
     have c3:zG .eql 0 0=true:=(by rw[zB];rfl);simp only[c2,c3];cbv;rw[if_neg (show ¬¬(e,([]:List (List Int))).1=0 from λh=>h he0),if_pos rfl] at hv;simp only[Prod.mk.injEq] at hv;obtain⟨⟨rfl,rfl⟩,rfl⟩:=hv;subst evs;repeat' (refine And.intro ?_ ?_)
     all_goals exact⟨_,Vw.tuple (rs:=[.agg [jz 0,.list 13 []],.int .i64 40]) ⟨Vw.agg (rs:=[.int .i64 0,.list 13 []]) ⟨Vw.same rfl,Vw.nil 13,trivial⟩,Vw.same rfl,trivial⟩,hR _ rfl⟩
   ·intro j kx vx hj hjs
    obtain⟨l,hl,rfl,rfl⟩:∃l,m[j]?=some l/\kx = .agg (toR l).row/\vx = .int .i64 (k8Z l):=by
     rw[hem] at hjs;unfold ents at hjs;rw[List.getElem?_map] at hjs
     cases hm:m[j]? with
     | none=>rw[hm] at hjs;cases hjs
     | some l =>
       rw[hm] at hjs;simp only[Option.map_some,Option.some.injEq,enR,List.cons.injEq,and_true] at hjs;exact⟨l,rfl,hjs.1.symm,hjs.2.symm⟩
    have hjm:j<m.length:=(List.getElem?_eq_some_iff.1 hl).1;have hgl:m.getD j []=l:=(by rw[List.getD_eq_getElem?_getD,hl];rfl);obtain⟨sr2,esr2⟩:∃x,x=sr++[[AV.int .i64 (j:Int)]]:=⟨_,rfl⟩;have husr2:Up0 sr2:=(by rw[esr2,hsr];exact kL5 sn j);obtain⟨row,erow⟩:=Z.e (toR l);obtain⟨q,eq⟩:=Z.e (k8Z l);rw[<- erow,<- eq] at hjs;rw[<- erow,<- eq,<- esr2];have hsr2:sr2=(sn++[j]).map λk:Nat=>[AV.int .i64 (k:Int)]:=(by rw[esr2,hsr];simp);have hnd2:(sn++[j]).Nodup:=List.nodup_append.2 ⟨hnd,by simp,λa ha b hb=>by simp at hb;subst hb;exact λe=>hj (e▸ha)⟩
    have hin2:∀i,i∈sn++[j]->i<m.length:=λi hi=>by
     rcases List.mem_append.1 hi with hi|hi
     ·exact yH i hi
     ·simp at hi;omega
    have hlt:sn.length<m.length:=by
     have:=kA1 (m.length) (sn++[j]) hnd2 hin2;simp at this;omega
    have erow2:row.row=rtC l:=(by rw[erow];rfl);obtain⟨n,s0,s1,s2,s3,s4,s5,s6,s7,s8,s9,s10,s11⟩:=row;cbv;refine Xo.entry (es:=em) (sr:=sr2) (sr0:=sr) (sn:=sn) rfl rfl htwo enE hsr esr2 hjs ?_;cbv;refine Ob.mk Z.d ?_;refine hN (sn++[j],sr2,some (1,[[.int .i64 n,.int .i64 s0,.int .i64 s1,.int .i64 s2,.int .i64 s3,.int .i64 s4,.int .i64 s5,.int .i64 s6,.int .i64 s7,.int .i64 s8,.int .i64 s9,.int .i64 s10,.int .i64 s11]])) _ _ ?hx ?hi ?ht
    case hx=>(refine Z.k (λj=>[0,1,2,3,4,5,6,7,9].getD j 0) ?_;cbv;(repeat' (first|exact trivial|rfl|assumption|(refine k26.hd (es0:=sr2) Z.m rfl rfl ?_;cbv)|apply And.intro|(simp only[hz,Z.a,k05,k04,k08,k03,k0M,reduceCtorEq];first|done|assumption)|exact k26.same Z.m (by first|assumption|rfl)|exact FzL.mk rfl rfl rfl Z.m (by first|assumption|rfl) Z.d|(refine k26.one ?_;cbv))))
    case hi=>exact⟨hnd2,hin2,hsr2,husr2,by simp,by rw[hs0];rfl,rfl,⟨rfl⟩,by rw[hs0];show [R13.row ⟨n,s0,s1,s2,s3,s4,s5,s6,s7,s8,s9,s10,s11⟩]=[rtC (m.getD j [])];rw[hgl,<- erow2]⟩
    case ht=>simp only[List.length_append,List.length_cons,List.length_nil];omega
 | some acc =>
   obtain⟨k,w⟩:=acc;have zJ:sn.Nodup/\(∀i,i∈sn->i<m.length)/\sr=sn.map (λk:Nat=>[AV.int .i64 (k:Int)])/\Up0 sr/\(sn≠[]/\k=sn.length/\k=w.length/\Up0 w/\w=sn.map (λi=>rtC (m.getD i []))):=zJ;obtain⟨hnd,yH,hsr,husr,hs0,hk,hkw,huw,hw2⟩:=zJ;cbv;refine Xo.next (es:=em) (sr:=sr) (sn:=sn) rfl rfl htwo enE hsr ?_ ?_
   ·intro hall
    cbv;refine hE _ _ _ ?_;cbv;have hsp:sn.Perm (List.range m.length):=(List.perm_ext_iff_of_nodup hnd List.nodup_range).2 λi=>⟨λh=>List.mem_range.2 (yH i h),λh=>hall i (by rw[hem,k6W];exact List.mem_range.1 h)⟩
    have hperm:(sn.map λi=>toR (m.getD i [])).Perm (m.map toR):=by
     have e1:(List.range m.length).map (λi=>toR (m.getD i []))=m.map toR:=by
      apply List.ext_getElem
      ·simp
      ·intro i h1 h2
       simp at h1 h2;simp[List.getD_eq_getElem?_getD,h2]
     rw[<- e1];exact hsp.map _
    have hmn:m≠[]:=λh=>by
     rw[h] at yH
     cases sn with
     | nil=>exact hs0 rfl
     | cons a l=>exact absurd (yH a (by simp)) (by simp)
    refine Call.of (kKF hP (s:=8) (n:=k) (rs:=sn.map λi=>toR (m.getD i [])) rfl (by rw[hw2,List.map_map];rfl) (by rw[hk,List.length_map]) (by rw[List.length_map];have:=kA1 _ _ hnd yH;have:m.length<=17:=hok.len;omega) ?_);intro rs' hp1 hp2;have hrs':=kED (hp1.trans hperm) hp2;have hrl':rs'.length=k:=(by rw[hp1.length_eq,hk,List.length_map]);obtain⟨ws,ews⟩:=Z.e (rs'.map R13.row);have hws:ws=(kG2 m).map rtC:=(by rw[ews,hrs',List.map_map];rfl);have huws:Up0 ws:=(by rw[hws];exact k1D (f:=rtC) (λd=>rfl) _);have hwl:ws.length=k:=(by rw[ews,List.length_map,hrl']);rw[<- ews];clear hw2;cbv;(split<;>rename_i he0<;>(try (simp only[hz,Z.a,k05,k04,k08,k03,k0M,reduceCtorEq] at he0))<;>(try cbv))
    ·rw[if_pos (show ¬(e,m).1=0 from he0)] at hv
     simp only[Prod.mk.injEq] at hv;obtain⟨⟨rfl,rfl⟩,rfl⟩:=hv;subst evs;repeat' (refine And.intro ?_ ?_)
     all_goals exact⟨_,Vw.tuple (rs:=[.agg [jz 0,.list 13 []],.int .i64 v3]) ⟨Vw.agg (rs:=[.int .i64 0,.list 13 []]) ⟨Vw.same rfl,Vw.nil 13,trivial⟩,Vw.same rfl,trivial⟩,hR _ rfl⟩
    ·have c2:zG .eql (zK k) 0=false:=by rw[zB,zR];simp only[k04];rw[beq_eq_false_iff_ne];have h9:sn.length≠0:=(λh=>hs0 (List.length_eq_zero_iff.1 h));show (k:Int)≠0;omega
     simp only[c2];cbv;rw[if_neg (show ¬¬(e,m).1=0 from λh=>h he0),if_neg hmn] at hv;simp only[Prod.mk.injEq] at hv;obtain⟨⟨rfl,rfl⟩,rfl⟩:=hv;have e1:(ws.drop 0).take k=ws:=by rw[List.drop_zero,List.take_of_length_le Z.o]
     have hvw:∀h:k00,h[8]?=some (.live 13 ws)->Vw h (.sl 8 13 0 k) (.list 13 ws):=λh hh=>by
      have:=Vw.sl hh huws.get (i:=0) (n:=k) Z.o
      rwa [e1] at this
     exact⟨_,Vw.tuple (rs:=[.agg [v1,.list 13 ws],.int .i64 0]) ⟨Vw.agg (rs:=[.int .i64 v1,.list 13 ws]) ⟨Vw.same rfl,hvw _ rfl,trivial⟩,Vw.same rfl,trivial⟩,hR _ (by rw[evs,hws])⟩
   ·intro j kx vx hj hjs
    obtain⟨l,hl,rfl,rfl⟩:∃l,m[j]?=some l/\kx = .agg (toR l).row/\vx = .int .i64 (k8Z l):=by
     rw[hem] at hjs;unfold ents at hjs;rw[List.getElem?_map] at hjs
     cases hm:m[j]? with
     | none=>rw[hm] at hjs;cases hjs
     | some l =>
       rw[hm] at hjs;simp only[Option.map_some,Option.some.injEq,enR,List.cons.injEq,and_true] at hjs;exact⟨l,rfl,hjs.1.symm,hjs.2.symm⟩
    have hjm:j<m.length:=(List.getElem?_eq_some_iff.1 hl).1;have hgl:m.getD j []=l:=(by rw[List.getD_eq_getElem?_getD,hl];rfl);obtain⟨sr2,esr2⟩:∃x,x=sr++[[AV.int .i64 (j:Int)]]:=⟨_,rfl⟩;have husr2:Up0 sr2:=(by rw[esr2,hsr];exact kL5 sn j);obtain⟨row,erow⟩:=Z.e (toR l);obtain⟨q,eq⟩:=Z.e (k8Z l);rw[<- erow,<- eq] at hjs;rw[<- erow,<- eq,<- esr2];have hsr2:sr2=(sn++[j]).map λk:Nat=>[AV.int .i64 (k:Int)]:=(by rw[esr2,hsr];simp);have hnd2:(sn++[j]).Nodup:=List.nodup_append.2 ⟨hnd,by simp,λa ha b hb=>by simp at hb;subst hb;exact λe=>hj (e▸ha)⟩
    have hin2:∀i,i∈sn++[j]->i<m.length:=λi hi=>by
     rcases List.mem_append.1 hi with hi|hi
     ·exact yH i hi
     ·simp at hi;omega
    have hlt:sn.length<m.length:=by
     have:=kA1 (m.length) (sn++[j]) hnd2 hin2;simp at this;omega
    have erow2:row.row=rtC l:=(by rw[erow];rfl);obtain⟨n,s0,s1,s2,s3,s4,s5,s6,s7,s8,s9,s10,s11⟩:=row;cbv;refine Xo.entry (es:=em) (sr:=sr2) (sr0:=sr) (sn:=sn) rfl rfl htwo enE hsr esr2 hjs ?_;cbv;obtain⟨w2,ew2⟩:=Z.e (w++[[.int .i64 n,.int .i64 s0,.int .i64 s1,.int .i64 s2,.int .i64 s3,.int .i64 s4,.int .i64 s5,.int .i64 s6,.int .i64 s7,.int .i64 s8,.int .i64 s9,.int .i64 s10,.int .i64 s11]]);obtain⟨k2,ek2⟩:=Z.e (k+1);have hw3:w2=(sn++[j]).map (λi=>rtC (m.getD i [])):=by rw[ew2,hw2,List.map_append];show _++[R13.row ⟨n,s0,s1,s2,s3,s4,s5,s6,s7,s8,s9,s10,s11⟩]=_++[rtC (m.getD j [])];rw[hgl,<- erow2]
    have huw2:Up0 w2:=(by rw[hw3];exact k1D (f:=λi=>rtC (m.getD i [])) (λd=>rfl) (sn++[j]));have hm17:m.length<=17:=hok.len;refine App.mk w2 k2 ew2 hkw ek2 Z.o Z.o ?_;cbv;refine hN (sn++[j],sr2,some (k2,w2)) _ _ ?hx ?hi ?ht
    case hx=>(refine Z.k (λj=>[0,1,2,3,4,5,6,7,10].getD j 0) ?_;cbv;(repeat' (first|exact trivial|rfl|assumption|(refine k26.hd (es0:=sr2) Z.m rfl rfl ?_;cbv)|apply And.intro|(simp only[hz,Z.a,k05,k04,k08,k03,k0M,reduceCtorEq];first|done|assumption)|exact k26.same Z.m (by first|assumption|rfl)|exact FzL.mk rfl rfl rfl Z.m (by first|assumption|rfl) Z.d|(refine k26.one ?_;cbv))))
    case hi=>exact⟨hnd2,hin2,hsr2,husr2,by simp,by simp;omega,by rw[ew2,ek2];simp;omega,huw2,hw3⟩
    case ht=>simp only[List.length_append,List.length_cons,List.length_nil];omega
def kDA(ss:List Sg)(lo hi from_:Int)(l:List Int):Prop:=lo<=k7V ss from_ l/\(hi<=k7V ss from_ l\/nxAt ss (k3L l)=[])
theorem kNJ(ss:List Sg)(from_:Int)(l:List Int)(n:Int):k7V ss from_ (l++[n])=k7V ss from_ l+k1O ss n:=by unfold k7V;rw[List.foldl_append];rfl
theorem k5X.snoc{ss:List Sg}(yS:k4N ss){l:List Int}(h:k5X ss l)(h12:l.length≠12){n q:Int}(hn:n∈nxAt ss q):k5X ss (l++[n]):=by
 have h1:=h.len;refine⟨by simp;omega,λx hx=>?_⟩;rcases List.mem_append.1 hx with hx|hx
 ·exact h.seg x hx
 ·simp at hx;subst hx;exact kGH yS hn
theorem kF4{ss:List Sg}(yS:k4N ss){lo hi from_:Int}:∀(f:Nat) (l:List Int) (s:Int×List (List Int)),k5X ss l->(∀k,k∈s.2->k5X ss k/\kDA ss lo hi from_ k)->∀k,k∈(k34 ss lo hi f l (k7V ss from_ l) s).2->k5X ss k/\kDA ss lo hi from_ k
 | 0,l,s,hl,hs=>hs
 | f+1,l,s,hl,hs=>by
   unfold k34;split
   ·exact hs
   ·split
    ·rename_i hc
     intro k hk;by_cases hlo:lo<=k7V ss from_ l
     ·simp only[if_pos hlo] at hk
      rcases kHV.1 hk with hk|rfl
      ·exact hs k hk
      ·exact⟨hl,hlo,hc⟩
     ·simp only[if_neg hlo] at hk
      exact hs k hk
    ·split
     ·exact hs
     ·rename_i h12
      have step:∀(ns:List Int) (s:Int×List (List Int)),(∀n,n∈ns->n∈nxAt ss (k3L l))->(∀k,k∈s.2->k5X ss k/\kDA ss lo hi from_ k)->∀k,k∈(ns.foldl (λs n=>k34 ss lo hi f (l++[n]) (k7V ss from_ l+k1O ss n) s) s).2->k5X ss k/\kDA ss lo hi from_ k:=by
       intro ns
       induction ns with
       | nil=>intro s _ h;exact h
       | cons n ns ih =>
         intro s hns h;refine ih _ (λx hx=>hns x (List.mem_cons_of_mem _ hx)) ?_;have:=kF4 yS f (l++[n]) s (hl.snoc yS h12 (hns n List.mem_cons_self)) h;rw[kNJ] at this;exact this
      exact step _ s (λn hn=>hn) hs
theorem kA5{α β: Type}{f: β -> α -> β}{P: β -> Prop}:∀(l:List α) (s: β),P s->(∀s a,a∈l->P s->P (f s a))->P (l.foldl f s)
 | [],s,h,_=>h
 | a::l,s,h,hf=>kA5 l (f s a) (hf s a List.mem_cons_self h) λs b hb=>hf s b (List.mem_cons_of_mem _ hb)
theorem kN9{ss:List Sg}(yS:k4N ss){lo hi from_:Int}(ls:List (List Int))(hl:∀l,l∈ls->k5X ss l):∀k,k∈(k8L ss lo hi from_ ls).2->k5X ss k/\kDA ss lo hi from_ k:=
 kA5 (P:=λs:Int×List (List Int)=>∀k,k∈s.2->k5X ss k/\kDA ss lo hi from_ k) ls _ (λk hk=>by simp at hk) λs l h hs=>kF4 yS _ l s (hl l h) hs
theorem kRC{ss:List Sg}{lo hi from_:Int}(ls:List (List Int))(hl:∀l,l∈ls->k5X ss l):GOk (k8L ss lo hi from_ ls):=
 kA5 (P:=GOk) ls _ ⟨by simp,λ_=>by simp,λk hk=>by simp at hk,List.nodup_nil⟩ λs l h hs=>kA4 ss lo hi _ l _ s hs (hl l h).len
theorem kWA{ss:List Sg}{lo hi from_:Int}(ls:List (List Int)):(k8L ss lo hi from_ ls).1=0\/(k8L ss lo hi from_ ls).1=13:=
 kA5 (P:=λs:Int×List (List Int)=>s.1=0\/s.1=13) ls _ (.inl rfl) λs l h hs=>kDB ss lo hi _ l _ s hs
theorem kLP{m:List (List Int)}{l:List Int}:l∈kG2 m↔l∈m:=(k3Y m).mem_iff
structure q2U(ss:List Sg)(lo hi from_:Int)(m:List (List Int)):Prop where
 le:lo<=hi /\ -from_<=lo
 ways:∀l,l∈m->k5X ss l/\kDA ss lo hi from_ l
 nd:m.Nodup
 few:m.length<=16
 some:m≠[]
 sort:m.Pairwise (λx y=>¬ltR y x)
theorem kDC{ss:List Sg}(yS:k4N ss){lo hi from_:Int}(ls:List (List Int))(hl:∀l,l∈ls->k5X ss l){v:(Int×List (List Int))×Int}(hv:v=k99 ss lo hi from_ ls):(v.2≠0/\v.1.2=[])\/(v.2=0/\v.1.1=from_/\q2U ss lo hi from_ v.1.2):=by
 unfold k99 at hv;split at hv
 ·rw[hv];exact .inl ⟨by decide,rfl⟩
 ·rename_i h1
  split at hv
  ·rename_i h2;rw[hv];exact .inl ⟨h2,rfl⟩
  ·rename_i h2
   have h2:(k8L ss lo hi from_ ls).1=0:=Classical.not_not.1 h2;split at hv
   ·rw[hv];exact .inl ⟨by decide,rfl⟩
   ·rename_i h3
    rw[hv];have hok:=kRC (lo:=lo) (hi:=hi) (from_:=from_) ls hl
    exact .inr ⟨rfl,rfl,by omega,λl h=>kN9 yS ls hl l (kLP.1 h),(k3Y _).nodup_iff.2 hok.nd,by rw[(k3Y _).length_eq];exact hok.few h2,
     λh=>h3 (List.length_eq_zero_iff.1 (by rw[<- (k3Y _).length_eq];simp only at h;rw[h];rfl)),k6G _⟩
section
variable (ss:List Sg) (lo hi from_:Int)
def q3B(l:List Int):Prop:=hi<=k7V ss from_ l\/nxAt ss (k3L l)=[]
instance (l:List Int):Decidable (q3B ss hi from_ l):=inferInstanceAs (Decidable (_\/_))
def kZN(l:List Int):Prop:=¬q3B ss hi from_ l/\l.length=12
structure FP(R:List Int->Prop)(s s':Int×List (List Int)):Prop where
 stay:s.1≠0->s'.1≠0
 good:s'.1=0->(∀k,k∈s'.2↔k∈s.2\/(R k/\kDA ss lo hi from_ k))/\(∀k,R k->¬kZN ss hi from_ k)
 bad:s.1=0->s'.1≠0->(∃k,R k/\kZN ss hi from_ k)\/(∃L:List (List Int),L.Nodup/\17<=L.length/\∀k,k∈L->k∈s.2\/(R k/\kDA ss lo hi from_ k))
end
variable {ss:List Sg} {lo hi from_:Int}
theorem FP.nil(s:Int×List (List Int)):FP ss lo hi from_ (λ_=>False) s s:=
 ⟨id,λ_=>⟨λk=>by simp,λk h=>h.elim⟩,λh h'=>absurd h h'⟩
end Go.Proofs.YtlchlddijclhjaaGreat
namespace Go.Proofs.YtlchlddijclhjaaGreat
open Go Go.RowKit Go.Eng
set_option maxRecDepth 100000
theorem kNA{ss:List Sg}{lo hi from_:Int}{ls:List (List Int)}{v1 v3:Int}{v2:List (List Int)}(h:((v1,v2),v3)=k99 ss lo hi from_ ls):v3=0\/v3=13\/v3=40:=by
 have he:=kWA (ss:=ss) (lo:=lo) (hi:=hi) (from_:=from_) ls;unfold k99 at h;split at h
 ·simp only[Prod.mk.injEq] at h;exact .inr (.inr h.2)
 ·split at h
  ·simp only[Prod.mk.injEq] at h;rw[h.2];exact he.imp id .inl
  ·split at h
   ·simp only[Prod.mk.injEq] at h;exact .inr (.inr h.2)
   ·simp only[Prod.mk.injEq] at h;exact .inl h.2
theorem kXU(a b v:Int)(hv:v=a):k02 Tryz.prog 161 [a,b] (· = .agg [b,.list 13 [[jz 1,v,jz 0,jz 0,jz 0,jz 0,jz 0,jz 0,jz 0,jz 0,jz 0,jz 0,jz 0]]]):=by
 subst hv;refine Z.y Tryz.func161 λ_ _ _ _ _ _ _ _ _ _ _ _ _ _ R hR P hP=>?_;cbv;refine InN.mk Z.d Z.d ?_;exact Z.r hR
theorem kWU(es ds:List (List AV))(hu:Up0 es)(hud:Up0 ds)(g:Int)(hg:0<=g)(G:Gr)(hG:ds[g.toNat]?=some (k14 G))(c0 c1 c2 c3 c4 c5 c6 c7 c8 c9 c10 c11 c12 c13:Int)(hc:0<=c8/\c8<=1048576)(hacc:0<=G.acc/\G.acc<=1048576)(a b lo hi est:Int)(ha:I62 a)(hb: -4611686018427387904<=b/\b<=4611686018423193599)(hlo: -(G.acc+c8)+min 0 a=lo)(hhi:G.acc+c8+max 0 b=hi)(hest:(lo+hi)/2=est)(r0:List (List AV))(er0:r0=[rtC [G.seg]]) :
 k02 Tryz.prog 101 [.agg [c0,c1,c2,c3,c4,c5,c6,c7,c8,c9,c10,c11,c12,c13],.agg [.list 3 es,.list 5 ds],g,.agg [a,b]] (· = .agg [.bool true,g,lo,hi,est,G.off,.list 13 r0]):=by
 obtain⟨gid,gseg,goff,gacc,gsl⟩:=G;have hbeg:=kXU gseg goff gseg rfl;have hbeg:k02 Tryz.prog 161 [gseg,goff] (· = .agg [goff,.list 13 r0]):=by rw[er0];exact hbeg
 have hG:ds[g.toNat]?=some [jz gid,jz gseg,jz goff,jz gacc,jz gsl]:=hG;have er0':=er0;clear er0;unfold I62 at ha;simp only at hacc hlo hhi;have hmid:=kCH hest ⟨by omega,by omega⟩ ⟨by omega,by omega⟩;(refine k02.ofY Tryz.func101 (by kernel_rfl) (by kernel_rfl) (Z.w λzA _ yT _ _ _ yR _ _ _ _ _ _ _ _ _ _ _ _ _ _ zC _ yM _ _ _ yU _ _ _ _ _ _ _ _ _ _ _ _ _ _ R hR=>?_));(conv=>arg 2;cbv);(generalize hP:Tryz.prog=P);cbv;refine Idx.mk _ hg hG ?_;cbv;obtain⟨fa,efa⟩:=Z.f (gacc+c8);obtain⟨nf,enf⟩:∃z,-fa=z:=⟨_,rfl⟩;obtain⟨x,ex⟩:=Z.f (min 0 a);obtain⟨y,ey⟩:=Z.f (max 0 b);have b1:zA .add .i64 gacc c8=fa:=by rw[zC,k0S Z.o Z.o];exact efa
 have b2:yT .neg .i64 fa=nf:=by rw[yM,kF3 Z.o Z.o];exact enf
 have b3:yR false 0 a=x:=by rw[yU,kP6,ex]
 have b4:yR true 0 b=y:=by rw[yU,kTI,ey]
 have b5:zA .add .i64 nf x=lo:=by rw[zC,k0S Z.o Z.o];omega
 have b6:zA .add .i64 fa y=hi:=by rw[zC,k0S Z.o Z.o];omega
 simp only[b1,b2,b3,b4,b5,b6]
 repeat' (first
  | (refine k1R.stepE (by rw[<- hP];exact hmid) rfl ?_;cbv)
  | (refine Call.stepE (by rw[<- hP];exact hmid) rfl ?_;cbv)
  | (refine k1R.stepE (by rw[<- hP];exact hbeg) rfl ?_;cbv)
  | (refine Call.stepE (by rw[<- hP];exact hbeg) rfl ?_;cbv)
  | (refine And.intro ?_ ?_))
 all_goals
  have hur0:Up0 r0:=(by rw[er0'];exact⟨rfl⟩);exact⟨_,Vw.same (by simp only[k2Q,AV.upto,k0Q,hur0.get];rfl),hR _ rfl⟩
structure PlT where
 lo:Int
 hi:Int
 est:Int
 m:List (List Int)
structure q19(ss:List Sg)(p:PlT):Prop where
 lo: -17592186044416<=p.lo
 hi:p.hi<=17592186044416
 le:p.lo<=p.est/\p.est<=p.hi
 way:∀l,l∈p.m->k5X ss l
 few:p.m.length<=16
def k7N(ss:List Sg)(from_:Int)(p:PlT)(a b:Int):PlT×Int:=
 if p.lo+a < -17592186044416\/17592186044416<p.hi+b then (p,20)
 else (⟨p.lo+a,p.hi+b,max (p.lo+a) (min (p.est+(a+b)/2) (p.hi+b)),(k99 ss (p.lo+a) (p.hi+b) from_ p.m).1.2⟩,(k99 ss (p.lo+a) (p.hi+b) from_ p.m).2)
theorem kI0{ss:List Sg}(yS:k4N ss){from_:Int}{p:PlT}(hp:q19 ss p){a b:Int}(hab:a<=b){q:PlT}{e:Int}(hv:(q,e)=k7N ss from_ p a b):(e=0/\q19 ss q)\/e=13\/e=20\/e=40:=by
 have h1:=hp.lo;have h2:=hp.hi;have h3:=hp.le;unfold k7N at hv;split at hv
 ·simp only[Prod.mk.injEq] at hv;exact .inr (.inr (.inl hv.2))
 ·rename_i hn
  simp only[Prod.mk.injEq] at hv;have hc:=kDC (lo:=p.lo+a) (hi:=p.hi+b) (from_:=from_) yS p.m hp.way rfl;have he:e=0\/e=13\/e=40:=kNA (ss:=ss) (lo:=p.lo+a) (hi:=p.hi+b) (from_:=from_) (ls:=p.m) (v1:=(k99 ss (p.lo+a) (p.hi+b) from_ p.m).1.1) (v2:=(k99 ss (p.lo+a) (p.hi+b) from_ p.m).1.2) (by rw[hv.2]);rcases he with he|he|he
  ·refine .inl ⟨he,?_⟩
   rcases hc with hc|hc
   ·exact absurd (hv.2.symm.trans he) hc.1
   ·rw[hv.1]
    exact⟨by simp only;omega,by simp only;omega,by simp only;omega,λl hl=>(hc.2.2.ways l hl).1,hc.2.2.few⟩
  ·exact .inr (.inl he)
  ·exact .inr (.inr (.inr he))
theorem q0N(ss:List Sg)(gs:List Gr)(es ds:List (List AV))(zU:es=ss.map k0Y)(yG:ds=gs.map k14)(hln:k2N ss)(yS:k4N ss)(g from_:Int)(hf:0<=from_/\from_<=1099511627776)(p:PlT)(hp:q19 ss p)(rs:List (List AV))(yL:rs=p.m.map rtC)(a b:Int)(hab:a<=b)(ha: -1099511627776<=a)(hb:b<=1099511627776)(q:PlT)(e:Int)(hv:(q,e)=k7N ss from_ p a b)(us:List (List AV))(hus:us=q.m.map rtC) :
 k02 Tryz.prog 97 [.agg [.bool true,g,p.lo,p.hi,p.est,from_,.list 13 rs],.agg [.list 3 es,.list 5 ds],.agg [a,b]] (λr=>(e=0/\r = .tuple [.agg [.bool true,g,q.lo,q.hi,q.est,from_,.list 13 us],jz 0])\/(e≠0/\r = .tuple [.agg [.bool false,jz 0,jz 0,jz 0,jz 0,jz 0,.nils],e])):=by
 have hu:Up0 es:=by rw[zU];exact k42 ss
 have hud:Up0 ds:=by rw[yG];exact k43 gs
 have hur:Up0 rs:=by rw[yL];exact k1D (f:=rtC) (λd=>rfl) p.m
 have huu:Up0 us:=by rw[hus];exact k1D (f:=rtC) (λd=>rfl) q.m
 have hlo:=hp.lo;have hhi:=hp.hi;have hle:=hp.le;have hfew:=hp.few;obtain⟨v,ev⟩:=Z.e (k99 ss (p.lo+a) (p.hi+b) from_ p.m);have hA:=kXA ss gs es ds zU yG hln yS (p.lo+a) (p.hi+b) from_ hf p.m hp.way Z.o rs yL v ev;have hok:=kDC yS p.m hp.way ev;unfold k7N at hv;rw[<- ev] at hv;have hem:=kNA (show ((v.1.1,v.1.2),v.2)=_ from ev);obtain⟨⟨v1,v2⟩,v3⟩:=v;obtain⟨lo,hi,est,m⟩:=p;simp only at hlo hhi hle hA hv yL hfew hem hok;obtain⟨l',el'⟩:=Z.f (lo+a);obtain⟨h',eh'⟩:=Z.f (hi+b);obtain⟨md,emd⟩:∃x,(a+b)/2=x:=⟨_,rfl⟩;obtain⟨s',es'⟩:=Z.f (est+md);obtain⟨t',et'⟩:=Z.f (max l' (min s' h'));obtain⟨u',eu'⟩:=Z.f (v2.map rtC);rw[el',eh',emd,es',et'] at hv;rw[el',eh'] at hA;have hA:k02 Tryz.prog 153 [.agg [from_,.list 13 rs],.agg [.list 3 es,.list 5 ds],.agg [l',h']] (· = .tuple [.agg [v1,.list 13 u'],v3]):=by rw[<- eu'];exact hA
 have hugA:k0Q 0 [AV.agg [from_,.list 13 rs],.agg [.list 3 es,.list 5 ds],.agg [l',h']]=true:=by simp only[k0Q,AV.upto,hu.get,hud.get,hur.get];rfl
 have s1:=kDH Z.o hab el' eh' ⟨by omega,by omega⟩ ⟨by omega,by omega⟩ ⟨by omega,by omega⟩ ⟨by omega,by omega⟩;have s3:=kCH emd ⟨by omega,by omega⟩ ⟨by omega,by omega⟩;have s4:=kFC es' ⟨by omega,by omega⟩ ⟨by omega,by omega⟩;have s5:=kRK et';obtain⟨o,eo⟩:=Z.f (decide (l'<=h' -> -17592186044416<=l'/\h'<=17592186044416));have s2:=q08 o eo;show k02 Tryz.prog 97 [.agg [.bool true,g,lo,hi,est,from_,.list 13 rs],.agg [.list 3 es,.list 5 ds],.agg [a,b]] _;refine Z.y Tryz.func97 λ_ _ _ _ zF _ _ _ _ _ _ zI _ hz R hR P hP=>?_;cbv;have n1:zF true=false:=by rw[zI];rfl
 have n2:zF false=true:=by rw[zI];rfl
 simp only[n1];cbv;refine Call.stepE (by rw[<- hP];exact s1) rfl ?_;cbv;simp only[n1];cbv;refine Call.stepE (by rw[<- hP];exact s2) rfl ?_;have hRR:∀r,((e=0/\r = .tuple [.agg [.bool true,g,q.lo,q.hi,q.est,from_,.list 13 us],jz 0])\/(e≠0/\r = .tuple [.agg [.bool false,jz 0,jz 0,jz 0,jz 0,jz 0,.nils],e]))->R r:=hR;have hZ2:∀(x:Int) (h:k00),e≠0->x=e->Ret [.agg [.bool false,jz 0,jz 0,jz 0,jz 0,jz 0,.nils],jz x] h R:=λx h h0 hx=>⟨_,Vw.same rfl,hR _ (.inr ⟨h0,by rw[<- hx];rfl⟩)⟩
 have hY:∀h:k00,e=0->q=⟨l',h',t',v2⟩->Ret [.agg [.bool true,g,l',h',t',from_,.list 13 u'],jz 0] h R:=λh h0 hq=>by
  have huu':Up0 u':=(by rw[<- eu'];exact k1D (f:=rtC) (λd=>rfl) v2);refine⟨_,Vw.same (by simp only[k2Q,AV.upto,k0Q,huu'.get];rfl),hR _ (.inl ⟨h0,?_⟩)⟩;rw[hq] at hus ⊢;rw[hus,<- eu'];rfl
 by_cases hov:l' < -17592186044416\/17592186044416<h'
 ·rw[if_pos hov] at hv
  simp only[Prod.mk.injEq] at hv;have ho:o=false:=(by rw[<- eo];simp;omega);rw[ho];cbv;simp only[n2];cbv;exact hZ2 20 _ Z.o hv.2.symm
 ·rw[if_neg hov] at hv
  simp only[Prod.mk.injEq] at hv;have ho:o=true:=(by rw[<- eo];simp;omega);rw[ho];cbv;simp only[n1];cbv;refine Call.stepE (by rw[<- hP];exact hA) (by exact hugA) ?_;cbv;(split<;>rename_i h5<;>(try (simp only[hz,Z.a,k05,k04,k08,k03,k0M,reduceCtorEq] at h5))<;>(try cbv))
  ·exact hZ2 v3 _ Z.o hv.2.symm
  have hv1:v1=from_:=by
   rcases hok with h|h
   ·exact absurd h5 h.1
   ·exact h.2.1
  subst hv1
  repeat' (first
   | (refine Call.stepE (by rw[<- hP];exact s3) rfl ?_;cbv)
   | (refine k1R.stepE (by rw[<- hP];exact s3) rfl ?_;cbv)
   | (refine Call.stepE (by rw[<- hP];exact s4) rfl ?_;cbv)
   | (refine k1R.stepE (by rw[<- hP];exact s4) rfl ?_;cbv)
   | (refine Call.stepE (by rw[<- hP];exact s5) rfl ?_;cbv)
   | (refine k1R.stepE (by rw[<- hP];exact s5) rfl ?_;cbv)
   | (refine And.intro ?_ ?_))
  all_goals exact hY _ Z.o hv.1
end Go.Proofs.YtlchlddijclhjaaGreat
