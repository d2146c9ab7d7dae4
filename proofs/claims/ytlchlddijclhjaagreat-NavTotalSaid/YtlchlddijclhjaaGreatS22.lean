/- Parts of the proofs. -/
import Derived.KernelRfl
import Derived.Test.YtlchlddijclhjaaGreatS16
import Derived.Test.YtlchlddijclhjaaGreatS9
import Derived.Test.YtlchlddijclhjaaGreatS13
import Derived.Test.YtlchlddijclhjaaGreatS17
import Derived.Test.YtlchlddijclhjaaGreatS11
import Derived.Test.YtlchlddijclhjaaGreatS12
import Derived.Test.YtlchlddijclhjaaGreatSZ
set_option linter.unusedVariables false
set_option linter.unusedSimpArgs false
set_option maxHeartbeats 4000000
namespace Go.Proofs.YtlchlddijclhjaaGreat
open Go Go.RowKit Go.Eng
set_option maxRecDepth 100000
def nxF(ss:List Sg)(i:Nat):List Int:=match ss[i]? with|some s=>s.nx|none=>[]
def k8J(ss:List Sg)(i:Nat):Int:=match ss[i]? with|some s=>s.len|none=>1
theorem kVW{ss:List Sg}{gs:List Gr}(h:k1I ss gs):∀i,i<ss.length->∀j,j∈nxF ss i->j.toNat<ss.length:=by
 intro i hi j hj;unfold nxF at hj;rw[List.getElem?_eq_getElem hi] at hj;obtain⟨k,hk⟩:=List.mem_iff_getElem?.1 hj;have:=(h.seg i hi ss[i] (List.getElem?_eq_getElem hi)).nx k (List.getElem?_eq_some_iff.1 hk).1 j hk;omega
theorem kGL{ss:List Sg}{gs:List Gr}(h:k1I ss gs):∀i,i<ss.length->1<=k8J ss i:=by
 intro i hi;unfold k8J;rw[List.getElem?_eq_getElem hi];exact(h.seg i hi ss[i] (List.getElem?_eq_getElem hi)).pos
structure Own(n:Nat)(os:List (List AV))(f:Nat->Int):Prop where
 len:os.length=n
 at_:∀x,x<n->os[x]?=some [jz (f x)]
theorem Own.set{n:Nat}{os:List (List AV)}{f:Nat->Int}(h:Own n os f){i:Nat}(v:Int):Own n (os.set i [jz v]) (upd f i v):=by
 refine⟨by rw[List.length_set];exact h.len,λx hx=>?_⟩;unfold upd;by_cases hxi:x=i
 ·subst hxi
  rw[if_pos rfl,List.getElem?_set_self (by rw[h.len];exact hx)]
 ·rw[if_neg hxi,List.getElem?_set_ne (Ne.symm hxi)]
  exact h.at_ x hx
theorem Own.up{n:Nat}{os:List (List AV)}{f:Nat->Int}(h:Own n os f):Up0 os:=by
 have e:os=(List.range n).map λx=>[jz (f x)]:=by
  apply List.ext_getElem?;intro x;by_cases hx:x<n
  ·rw[h.at_ x hx,List.getElem?_map,List.getElem?_range hx];rfl
  ·rw[List.getElem?_eq_none (by rw[h.len];omega),List.getElem?_eq_none (by rw[List.length_map,List.length_range];omega)]
 rw[e];exact k1D (f:=λx=>[jz (f x)]) (λd=>rfl) _
theorem Own.rep(n:Nat):Own n (List.replicate n [jz 0]) (λ_=>0):=⟨by simp,λx hx=>by simp[hx]⟩
theorem q0T(ss:List Sg)(gs:List Gr)(es ds:List (List AV))(zU:es=ss.map k0Y)(yG:ds=gs.map k14)(hok:k1I ss gs):k02 Tryz.prog 36 [.agg [.list 3 es,.list 5 ds]] (λr=>∃os,r = .list 1 os/\Own ss.length os (J (nxF ss) (k8J ss) ss.length)):=by
 have hu:Up0 es:=by rw[zU];exact k42 ss
 have hud:Up0 ds:=by rw[yG];exact k43 gs
 have hel:es.length=ss.length:=by rw[zU];simp
 have yH:=kVW hok;have hL:=kGL hok;refine Z.y Tryz.func36 λzA _ _ _ _ _ hw zC _ yM _ _ zE hz R hR P hP=>?_;cbv;obtain⟨L,eL,L0,Ln⟩:=Z.l zE es;simp only[eL];refine Mk.mk (List.replicate L.toNat [jz 0]) L.toNat L0 (Int.le_refl _) (by have:=hok.le;omega) (by have:=hok.le;omega) rfl rfl ?_;obtain⟨n,en⟩:=Z.f L.toNat;obtain⟨os,eos⟩:=Z.f (List.replicate L.toNat [jz 0]);have hos:Own n os (λ_=>0):=by rw[<- eos,en];exact Own.rep n
 rw[eos,en];clear eos;cbv;have nL:n=ss.length:=by omega
 have huo:=hos.up;refine k1Q.data hw (S:=Int×List (List AV)) (λs=>fr 90 [(1,.ref 0 2 0 0),(3,.sl 1 1 0 n),(16,.list 3 es),(17,L),(18,s.1)]) (λs=>[.live 2 [[.list 3 es,.list 5 ds]],.live 1 s.2]) (λs=>0<=s.1/\s.1<=L/\Own n s.2 (λx=>if x<s.1.toNat then J (nxF ss) (k8J ss) 0 x else 0)) (λs=>(L-s.1).toNat) (0,os) Z.i ⟨Int.le_refl _,L0,by simpa using hos⟩ ?_
 rintro⟨i,os⟩ zJ Q' hN hE hR'
 have zJ:0<=i/\i<=L/\Own n os (λx=>if x<i.toNat then J (nxF ss) (k8J ss) 0 x else 0):=zJ;cbv;obtain⟨yJ,yZ,hos⟩:=zJ;have huo:=hos.up;(split<;>rename_i hc<;>(try (simp only[eL] at hc))<;>(try (simp only[hz,Z.a,k05,k04,k08,k03,k0M,reduceCtorEq] at hc))<;>(try cbv))
 ·obtain⟨⟨len,ps,nx⟩,hd,zL⟩:=k0V (f:=k0Y) (ds:=ss) (i:=i) yJ Z.o
  obtain⟨q1,eq1⟩:=Z.f (ps.map k1E);obtain⟨n1,en1⟩:=Z.f (nx.map k0K);have zL:es[i.toNat]?=some [jz len,.list 2 q1,.list 1 n1]:=(by rw[zU,<- eq1,<- en1];exact zL);have hnl:n1.length=nx.length:=(by rw[<- en1];simp);obtain⟨K,eK,K0,Kn⟩:=Z.l zE n1;obtain⟨i',ei'⟩:=Z.f (i+1);have ei:zA .add .i64 i 1=i':=(by rw[zC,k0S (by have:=hok.le;omega) (by have:=hok.le;omega)];exact ei');have hT:(L-i').toNat<(L-i).toNat:=(by omega);refine Idx.mk [jz len,.list 2 q1,.list 1 n1] yJ zL ?_;cbv;obtain⟨k,ek⟩:=Z.f i.toNat;have hk:k<n:=(by omega);have ek':i'.toNat=k+1:=by omega
  have eJ:J (nxF ss) (k8J ss) 0 k=if nx.isEmpty then 0 else -1:=by
   unfold J nxF;rw[<- ek,hd]
  rw[ek] at hos;(split<;>rename_i h1<;>(try (simp only[eK] at h1))<;>(try (simp only[hz,Z.a,k05,k04,k08,k03,k0M,reduceCtorEq] at h1))<;>(try cbv))
  ·refine At.mk k yJ Z.o (by rw[Nat.zero_add];exact ek) ?_
   cbv;obtain⟨os',eos'⟩:=Z.f (os.set k [jz (-1)]);refine kBF.mk [jz 0] os' (by rw[hos.at_ k hk,if_neg (Nat.lt_irrefl _)]) eos'.symm ?_
   have hos':Own n os' (λx=>if x<i'.toNat then J (nxF ss) (k8J ss) 0 x else 0):=by
    rw[<- eos'];have:=hos.set (i:=k) (-1);refine⟨this.len,λx hx=>?_⟩;rw[this.at_ x hx,ek'];show some [jz (if x=k then -1 else if x<k then J (nxF ss) (k8J ss) 0 x else 0)]=_;by_cases hxk:x=k
    ·subst hxk
     have k0:0<n1.length:=(by rw[<- Kn];exact Int.pos_iff_toNat_pos.1 h1);have hne:nx.isEmpty=false:=(by cases nx with|nil=>exfalso;rw[hnl] at k0;exact absurd k0 Z.d|cons a b=>rfl);rw[if_pos rfl,if_pos Z.o,eJ,hne];rfl
    ·rw[if_neg hxk]
     by_cases hlt:x<k
     ·rw[if_pos hlt,if_pos Z.o]
     ·rw[if_neg hlt,if_neg Z.o]
   have huo':=hos'.up;cbv;simp only[ei];refine hN (i',os') _ _ ?hx ?hi hT
   case hx=>exact Z.i
   case hi=>exact⟨by omega,by omega,hos'⟩
  ·simp only[ei]
   refine hN (i',os) _ _ ?hx ?hi hT
   case hx=>exact Z.i
   case hi =>
    refine⟨by omega,by omega,hos.len,λx hx=>?_⟩;rw[hos.at_ x hx,ek'];show some [jz (if x<k then J (nxF ss) (k8J ss) 0 x else 0)]=_;by_cases hxk:x=k
    ·subst hxk
     have k0:n1.length=0:=(by rw[<- Kn];exact Int.toNat_eq_zero.2 h1);have hne:nx.isEmpty=true:=(by cases nx with|nil=>rfl|cons a b=>exfalso;rw[k0] at hnl;cases hnl);rw[if_neg (Nat.lt_irrefl _),if_pos Z.o,eJ,hne];rfl
    ·by_cases hlt:x<k
     ·rw[if_pos hlt,if_pos Z.o]
     ·rw[if_neg hlt,if_neg Z.o]
 refine hE _ _ _ ?_;cbv;have hos:Own n os (J (nxF ss) (k8J ss) 0):=⟨hos.len,λx hx=>by rw[hos.at_ x hx,if_pos Z.o]⟩;have huo:=hos.up;clear hN hE hR' hc yJ yZ;simp only[eL];obtain⟨f,ef⟩:=Z.f (J (nxF ss) (k8J ss) 0);have hG:=kRA yH hL (f:=f) (B:=0) (Int.le_refl _) (λx _=>by rw[ef]);rw[ef] at hos;rw[<- nL] at yH hL hG;have hn2:n<=200:=by have:=hok.le;omega
 have hll:∀j:Nat,j<n->k8J ss j<=1099511627776:=λj hj=>by
  have hj:j<ss.length:=(by omega);unfold k8J;rw[List.getElem?_eq_getElem hj];exact(hok.seg j hj ss[j] (List.getElem?_eq_getElem hj)).le
 refine k1Q.data hw (S:=Int×List (List AV)) (λs=>fr 90 [(1,.ref 0 2 0 0),(3,.sl 1 1 0 n),(33,L),(34,s.1)]) (λs=>[.live 2 [[.list 3 es,.list 5 ds]],.live 1 s.2]) (λs=>0<=s.1/\s.1<=L/\∃f,Own n s.2 f/\Gr0 n (nxF ss) (k8J ss) s.1.toNat (s.1*439804651110400) f) (λs=>(L-s.1).toNat) (0,os) Z.i ⟨Int.le_refl _,L0,f,hos,by simpa using hG⟩ ?_;clear hG hos ef f
 rintro⟨r,os⟩ zJ Q' hN hE hR'
 have zJ:0<=r/\r<=L/\∃f,Own n os f/\Gr0 n (nxF ss) (k8J ss) r.toNat (r*439804651110400) f:=zJ;cbv;obtain⟨hr0,hr1,f,hos,hG⟩:=zJ;have huo:=hos.up;(split<;>rename_i hc<;>(try (simp only[eL] at hc))<;>(try (simp only[hz,Z.a,k05,k04,k08,k03,k0M,reduceCtorEq] at hc))<;>(try cbv))
 ·simp only[eL]
  obtain⟨r',er'⟩:=Z.f (r+1);have er:zA .add .i64 r 1=r':=(by rw[zC,k0S Z.o Z.o];exact er');have hT:(L-r').toNat<(L-r).toNat:=(by omega);obtain⟨rn,ern⟩:=Z.f r.toNat;rw[ern] at hG;refine k1Q.data hw (S:=Int×List (List AV)) (λs=>fr 90 [(1,.ref 0 2 0 0),(3,.sl 1 1 0 n),(33,L),(34,r),(37,.list 3 es),(38,L),(39,s.1)]) (λs=>[.live 2 [[.list 3 es,.list 5 ds]],.live 1 s.2]) (λs=>0<=s.1/\s.1<=L/\∃f,Own n s.2 f/\Gs n (nxF ss) (k8J ss) rn s.1.toNat 0 (r*439804651110400+s.1*2199023255552) f) (λs=>(L-s.1).toNat) (0,os) Z.i ⟨Int.le_refl _,L0,f,hos,by have:=kR8 yH hL hG;simpa using this⟩ ?_;clear hG hos huo
  rintro⟨i,os⟩ zJ Q2 hN2 hE2 hR2
  have zJ:0<=i/\i<=L/\∃f,Own n os f/\Gs n (nxF ss) (k8J ss) rn i.toNat 0 (r*439804651110400+i*2199023255552) f:=zJ;cbv;obtain⟨yJ,yZ,f,hos,hG⟩:=zJ;have huo:=hos.up;(split<;>rename_i hc2<;>(try (simp only[hz,Z.a,k05,k04,k08,k03,k0M,reduceCtorEq] at hc2))<;>(try cbv))
  ·obtain⟨⟨len,ps,nx⟩,hd,zL⟩:=k0V (f:=k0Y) (ds:=ss) (i:=i) yJ Z.o
   obtain⟨q1,eq1⟩:=Z.f (ps.map k1E);obtain⟨n1,en1⟩:=Z.f (nx.map k0K);have zL:es[i.toNat]?=some [jz len,.list 2 q1,.list 1 n1]:=(by rw[zU,<- eq1,<- en1];exact zL);have yM:Up0 n1:=(by rw[<- en1];exact k3K nx);have hnl:n1.length=nx.length:=(by rw[<- en1];simp);obtain⟨K,eK,K0,Kn⟩:=Z.l zE n1;obtain⟨i',ei'⟩:=Z.f (i+1);have ei:zA .add .i64 i 1=i':=(by rw[zC,k0S Z.o Z.o];exact ei');have hT2:(L-i').toNat<(L-i).toNat:=(by omega);obtain⟨m,em⟩:=Z.f i.toNat;have hm:m<n:=(by omega);have em':i'.toNat=m+1:=(by omega);have enx:nxF ss m=nx:=(by unfold nxF;rw[<- em,hd]);rw[em] at hG;have hK2:nx.length<=2:=(by rw[em] at hd;exact(hok.seg m Z.o _ hd).two);refine Idx.mk [jz len,.list 2 q1,.list 1 n1] yJ zL ?_;cbv;simp only[eK];refine k1Q.data hw (S:=Int×List (List AV)) (λs=>fr 90 [(1,.ref 0 2 0 0),(3,.sl 1 1 0 n),(6,i),(33,L),(34,r),(37,.list 3 es),(38,L),(39,i),(45,.list 1 n1),(46,K),(47,s.1)]) (λs=>[.live 2 [[.list 3 es,.list 5 ds]],.live 1 s.2]) (λs=>0<=s.1/\s.1<=K/\∃f,Own n s.2 f/\Gs n (nxF ss) (k8J ss) rn m s.1.toNat (r*439804651110400+i*2199023255552+s.1*1099511627776) f) (λs=>(K-s.1).toNat) (0,os) Z.i ⟨Int.le_refl _,K0,f,hos,by simpa using hG⟩ ?_;clear hG hos huo
   rintro⟨k,os⟩ zJ Q3 hN3 hE3 hR3
   have zJ:0<=k/\k<=K/\∃f,Own n os f/\Gs n (nxF ss) (k8J ss) rn m k.toNat (r*439804651110400+i*2199023255552+k*1099511627776) f:=zJ;cbv;obtain⟨hk0,hk1,f,hos,hG⟩:=zJ;have huo:=hos.up;(split<;>rename_i hc3<;>(try (simp only[hz,Z.a,k05,k04,k08,k03,k0M,reduceCtorEq] at hc3))<;>(try cbv))
   ·obtain⟨j,hj,hjr⟩:=k0V (f:=k0K) (ds:=nx) (i:=k) hk0 Z.o
    have hjr:n1[k.toNat]?=some [jz j]:=(by rw[<- en1];exact hjr);obtain⟨k',ek'⟩:=Z.f (k+1);have ekk:zA .add .i64 k 1=k':=(by rw[zC,k0S Z.o Z.o];exact ek');have hT3:(K-k').toNat<(K-k).toNat:=(by omega);refine Idx.mk [jz j] hk0 hjr ?_;cbv;have hjm:j∈nxF ss m:=by rw[enx];exact List.mem_of_getElem? hj
    have hjb:0<=j/\j<n:=by
     rw[em] at hd;have:=(hok.seg m Z.o _ hd).nx k.toNat (List.getElem?_eq_some_iff.1 hj).1 j hj;omega
    obtain⟨hj0,hjl⟩:=hjb;obtain⟨jn,ejn⟩:=Z.f j.toNat;have hjn:jn<n:=(by omega);have hjz:0+j.toNat=jn:=(by rw[Nat.zero_add];exact ejn);have hmz:0+i.toNat=m:=(by rw[Nat.zero_add];exact em);have hil:i<n:=(by omega);obtain⟨⟨len2,ps2,nx2⟩,hd2,zY⟩:=k0V (f:=k0Y) (ds:=ss) (i:=j) hj0 Z.o;obtain⟨q2,eq2⟩:=Z.f (ps2.map k1E);obtain⟨n2,en2⟩:=Z.f (nx2.map k0K);have zY:es[j.toNat]?=some [jz len2,.list 2 q2,.list 1 n2]:=(by rw[zU,<- eq2,<- en2];exact zY);have el2:k8J ss jn=len2:=(by unfold k8J;rw[<- ejn,hd2]);have hl1:=hL jn hjn;have hl2:=hll jn hjn;rw[el2] at hl1 hl2;have hrj:=hos.at_ jn hjn;have hri:=hos.at_ m hm;have hgj:=hG.ge jn hjn;have hgi:=hG.ge m hm;obtain⟨cj,ecj⟩:=Z.f (f jn);obtain⟨ci,eci⟩:=Z.f (f m);rw[ecj] at hrj hgj;rw[eci] at hri hgi;obtain⟨fa,efa⟩:=Z.f (cj+len2);have efw:zA .add .i64 cj len2=fa:=(by rw[zC,k0S Z.o Z.o];exact efa);obtain⟨os',eos'⟩:=Z.f (os.set m [jz fa]);have hos':Own n os' (upd f m fa):=(by rw[<- eos'];exact hos.set fa);have huo':=hos'.up;have ekn:k'.toNat=k.toNat+1:=by omega
    have hkey:∀g,(∀x,x<n->g x=if x=m then bst ci cj len2 else f x)->Gs n (nxF ss) (k8J ss) rn m k'.toNat (r*439804651110400+i*2199023255552+k'*1099511627776) g:=by
     intro g hg;rw[ekn];refine kW9 yH hL hm hG (j:=j) (by rw[enx];exact hj) (by rw[ejn,el2];omega) (by rw[ejn,el2];omega) λx hx=>?_;rw[hg x hx,ejn,el2,ecj,eci]
    repeat' (first
     | (simp only[efw,ekk];cbv)
     | (simp only[efw,ekk])
     | (refine At.mk jn hj0 hjl hjz ?_;cbv)
     | (refine At.mk m yJ hil hmz ?_;cbv)
     | (refine kHB.mk [jz cj] hrj ?_;cbv)
     | (refine kHB.mk [jz ci] hri ?_;cbv)
     | (refine Idx.mk [jz len2,.list 2 q2,.list 1 n2] hj0 zY ?_;cbv)
     | (refine kBF.mk [jz ci] os' hri eos'.symm ?_;cbv)
     | (split<;>rename_i h<;>(try (simp only[efw,ekk] at h))<;>(try (simp only[hz,Z.a,k05,k04,k08,k03,k0M,reduceCtorEq] at h))<;>(try cbv)))
    all_goals first
     | (refine hN3 (k',os') _ _ ?hx ?hi hT3
        case hx=>exact Z.i
        case hi =>
         refine⟨by omega,by omega,upd f m fa,hos',hkey _ λx hx=>?_⟩;unfold upd bst;split
         ·split<;>omega
         ·rfl)
     | (refine hN3 (k',os) _ _ ?hx ?hi hT3
        case hx=>exact Z.i
        case hi =>
         refine⟨by omega,by omega,f,hos,hkey _ λx hx=>?_⟩;unfold bst;split
         ·rename_i e
          rw[e,eci];split<;>omega
         ·rfl)
   ·refine hE3 _ _ _ ?_
    cbv;simp only[ei]
    have hG':Gs n (nxF ss) (k8J ss) rn i'.toNat 0 (r*439804651110400+i'*2199023255552) f:=by
     have e1:k.toNat=(nxF ss m).length:=(by rw[enx];omega);rw[e1] at hG;rw[em'];have:=kW8 yH hL hm hG;exact⟨this.lo,λx hx=>by have:=this.ge x hx;omega,this.old,this.new,this.at_⟩
    refine hN2 (i',os) _ _ ?hx ?hi hT2
    case hx=>exact Z.i
    case hi=>exact⟨by omega,by omega,f,hos,hG'⟩
  ·refine hE2 _ _ _ ?_
   cbv;simp only[er];have eb:r*439804651110400+L*2199023255552<=r'*439804651110400:=by omega
   have hG':Gr0 n (nxF ss) (k8J ss) r'.toNat (r'*439804651110400) f:=by
    have e1:i.toNat=n:=(by omega);have e2:r'.toNat=rn+1:=(by omega);rw[e1] at hG;rw[e2];have:=kR9 yH hL hG;exact⟨this.lo,λx hx=>by have:=this.ge x hx;omega,this.up⟩
   refine hN (r',os) _ _ ?hx ?hi hT
   case hx=>exact Z.i
   case hi=>exact⟨by omega,by omega,f,hos,hG'⟩
 ·refine hE _ _ _ ?_
  cbv;refine⟨_,Vw.sl (es:=os) rfl huo.get (by rw[hos.len];omega),hR _ ⟨os,?_,?_⟩⟩
  ·rw[List.drop_zero,List.take_of_length_le (by rw[hos.len];exact Nat.le_refl _)]
  ·have e1:r.toNat=n:=by omega
   rw[e1] at hG;rw[<- nL];exact⟨hos.len,λx hx=>by rw[hos.at_ x hx,q02 yH hL hG hx]⟩
theorem kYL{n:Nat}{nx:Nat->List Int}{L:Nat->Int}(yH:∀i,i<n->∀j,j∈nx i->j.toNat<n)(hL:∀i,i<n->1<=L i){M:Int}(hM:0<=M)(hl:∀j,j<n->L j<=M):∀(r:Nat) {i:Nat},i<n->J nx L r i<=r*M
 | 0,i,hi=>by unfold J;split<;>omega
 | r+1,i,hi=>by
   have e:((r+1:Nat):Int)*M=r*M+M:=(by rw[Int.natCast_add,Int.add_mul];simp);rw[e];rcases kNE (L:=L) (cur:=J nx L r) (l:=nx i) (b:=J nx L r i) with h|⟨j,h1,h2,h3⟩
   ·have:=kYL yH hL hM hl r hi
    have h:J nx L (r+1) i=J nx L r i:=h;omega
   ·have hj:=yH i hi j h1
    have:=kYL yH hL hM hl r hj;have h3:J nx L (r+1) i=J nx L r j.toNat+L j.toNat:=h3;have:=hl _ hj;omega
theorem kIA{ss:List Sg}{gs:List Gr}(h:k1I ss gs)(x:Nat)(hx:x<ss.length): -1<=J (nxF ss) (k8J ss) ss.length x/\J (nxF ss) (k8J ss) ss.length x<=1125899906842624:=by
 refine⟨kYU (kVW h) (kGL h) _ hx,?_⟩
 have h1:=kYL (kVW h) (kGL h) (M:=1099511627776) Z.d (λj hj=>by
  unfold k8J;rw[List.getElem?_eq_getElem hj];exact(h.seg j hj ss[j] (List.getElem?_eq_getElem hj)).le) ss.length hx
 have h2:=h.le;have h3:(ss.length:Int)*1099511627776<=200*1099511627776:=Int.mul_le_mul_of_nonneg_right Z.o Z.d;omega
def kKQ(x y:Int):Int:=if x<y then -1 else if y<x then 1 else 0
theorem q0U(x y:Int):k02 Tryz.prog 158 [x,y] (· = jz (kKQ x y)):=by
 have n1:∀a:Int,k02 Tryz.prog 213 [a] (· = .bool false):=by
  intro a;refine Z.y Tryz.func213 λ_ _ _ _ _ _ _ _ zB _ _ _ _ hz R hR P hP=>?_;cbv;refine⟨_,Vw.same rfl,hR _ ?_⟩;show AV.bool _=AV.bool false;rw[zB];simp[k04]
 refine Z.y Tryz.func158 λ_ _ _ _ _ _ _ _ _ _ _ _ _ hz R hR P hP=>?_;cbv;refine Call.stepE (by rw[<- hP];exact n1 x) rfl ?_;cbv;refine Call.stepE (by rw[<- hP];exact n1 y) rfl ?_;cbv;repeat' (split<;>rename_i h<;>(try (simp only[hz,Z.a,k05,k04,k08,k03,k0M,reduceCtorEq] at h))<;>(try cbv))
 all_goals
  refine⟨_,Vw.same rfl,hR _ ?_⟩;show jz _=jz _;unfold kKQ
  first
   | rw[if_pos Z.m]
   | rw[if_neg Z.o,if_pos Z.o]
   | rw[if_neg Z.o,if_neg Z.o]
theorem half(s:Int)(h0:0<=s)(h1:s<9223372036854775808):IntKind.i64.wrap (k05 .shr .u64 (IntKind.u64.wrap s) 1)=s/2:=by
 have e1:IntKind.u64.wrap s=s:=by
  simp only[IntKind.wrap,IntKind.bits,IntKind.signed];simp;omega
 rw[e1]
 have e2:k05 .shr .u64 s 1=s/2:=by
  show s.fdiv (2 ^ (min (1:Int).toNat 64))=_;rw[Int.fdiv_eq_ediv_of_nonneg _ Z.d];rfl
 rw[e2,IntKind.wrap_i64];omega
structure kHD{D:Type}(ds:List D)(key:D->Int)(t:Int)(i:Int)(f:Bool):Prop where
 i0:0<=i
 i1:i.toNat<=ds.length
 yes:f=true->∃d,ds[i.toNat]?=some d/\key d=t
 no:f=false->∀d,d∈ds->key d≠t
theorem kH0{D:Type}(row:D->List AV)(key:D->Int)(zL:∀d,(row d).length=5/\k0Q 0 (row d)=true)(F:Nat)(ds:List D)(t:Int)(hF:∀d,d∈ds->∀rw,row d=rw->k02 Tryz.prog F [.agg rw,t] (· = jz (kKQ (key d) t)))
 (hs:∀(i j:Nat) (a b:D),i<j->ds[i]?=some a->ds[j]?=some b->key a<key b) (hn:ds.length<=1000000) (ps:List (List AV)) (hps:ps=ds.map row) :
 k02 Tryz.prog 156 [.list 5 ps,t,.func (.func F) [] []] (λr=>∃i f,r = .tuple [jz i,.bool f]/\kHD ds key t i f):=by
 have hu:Up0 ps:=by rw[hps];exact k1D (f:=row) (λd=>(zL d).2) ds
 have hpl:ps.length=ds.length:=by rw[hps];simp
 have five:∀d,∃a b c x0 x1,row d=[a,b,c,x0,x1]:=by
  intro d;have h:=(zL d).1
  match row d,h with
  | [a,b,c,x0,x1],_=>exact⟨a,b,c,x0,x1,rfl⟩
 refine Z.y Tryz.func156 λzA _ _ zD _ _ hw zC zB _ zH _ zE hz R hR P hP=>?_;cbv;obtain⟨L,eL,L0,Ln⟩:=Z.l zE ps;simp only[eL]
 refine k1Q.data hw (S:=Int×Int) (λs=>fr 49 [(0,.list 5 ps),(1,t),(2,.func (.func F) [] []),(8,L),(9,s.1),(10,s.2)]) (λs=>[])
  (λs=>0<=s.1/\s.1<=s.2/\s.2<=L/\(∀k d,k<s.1.toNat->ds[k]?=some d->key d<t)/\(∀k d,s.2.toNat<=k->ds[k]?=some d->t<=key d)) (λs=>(s.2-s.1).toNat) (0,L) Z.i
  ⟨Int.le_refl _,L0,Int.le_refl _,λk d hk=>(by simp at hk),λk d hk hd=>(by have h1:=(List.getElem?_eq_some_iff.1 hd).1;have h2:L.toNat<=k:=hk;omega)⟩ ?_
 rintro⟨i,j⟩ zJ Q' hN hE hR'
 have zJ:0<=i/\i<=j/\j<=L/\(∀k d,k<i.toNat->ds[k]?=some d->key d<t)/\(∀k d,j.toNat<=k->ds[k]?=some d->t<=key d):=zJ;cbv;obtain⟨yJ,hij,hjL,hlow,hup⟩:=zJ;(split<;>rename_i hc<;>(try (simp only[hz,Z.a,k05,k04,k08,k03,k0M,reduceCtorEq] at hc))<;>(try cbv))
 ·obtain⟨h,eh⟩:∃x,(i+j)/2=x:=⟨_,rfl⟩
  have eij:zA .add .i64 i j=i+j:=by rw[zC,k0S Z.o Z.o]
  have e1:zD .i64 (zA .shr .u64 (zD .u64 (zA .add .i64 i j)) 1)=h:=by
   rw[eij,zH,zC];exact(half (i+j) Z.o Z.o).trans eh
  refine Nn.mk Z.d ?_;cbv;simp only[e1];obtain⟨d,hd,hr⟩:=k0V (f:=row) (ds:=ds) (i:=h) Z.o Z.o;rw[<- hps] at hr;obtain⟨a,b,c,x0,x1,erow⟩:=five d;have hcall:=hF d (List.mem_of_getElem? hd) _ erow;have hup0:=(zL d).2;rw[erow] at hr hup0;refine Idx.mk _ Z.o hr ?_;cbv;refine Call.stepE (by rw[<- hP];exact hcall) (by exact Bool.and_eq_true_iff.mpr ⟨hup0,rfl⟩) ?_;obtain⟨cv,ecv⟩:=Z.f (kKQ (key d) t);rw[ecv];cbv;obtain⟨h',eh'⟩:=Z.f (h+1);have ehh:zA .add .i64 h 1=h':=(by rw[zC,k0S Z.o Z.o];exact eh');(split<;>rename_i hc2<;>(try (simp only[hz,Z.a,k05,k04,k08,k03,k0M,reduceCtorEq] at hc2))<;>(try cbv))
  ·have hlt:key d<t:=by unfold kKQ at ecv;split at ecv<;>(try split at ecv)<;>omega
   refine hN (h',j) _ _ ?hx ?hI (show (j-h').toNat<(j-i).toNat by omega)
   case hx=>exact Z.i
   case hI =>
    refine⟨(show 0<=h' by omega),(show h'<=j by omega),hjL,λk d' hk hd'=>?_,hup⟩;have hk:k<h'.toNat:=hk;by_cases hkh:k=h.toNat
    ·subst hkh;rw[hd] at hd';cases hd';exact hlt
    ·have:=hs k h.toNat d' d Z.o hd' hd;omega
  ·have hge:t<=key d:=by unfold kKQ at ecv;split at ecv<;>(try split at ecv)<;>omega
   refine hN (i,h) _ _ ?hx ?hI (show (h-i).toNat<(j-i).toNat by omega)
   case hx=>exact Z.i
   case hI =>
    refine⟨yJ,(show i<=h by omega),(show h<=L by omega),hlow,λk d' hk hd'=>?_⟩;have hk:h.toNat<=k:=hk;by_cases hkh:k=h.toNat
    ·subst hkh;rw[hd] at hd';cases hd';exact hge
    ·have:=hs h.toNat k d d' Z.o hd hd';omega
 ·refine hE _ _ _ ?_
  cbv;obtain rfl:i=j:=(by omega);(split<;>rename_i hc2<;>(try (simp only[hz,Z.a,k05,k04,k08,k03,k0M,reduceCtorEq] at hc2))<;>(try cbv))
  ·obtain⟨d,hd,hr⟩:=k0V (f:=row) (ds:=ds) (i:=i) Z.o Z.o
   rw[<- hps] at hr;obtain⟨a,b,c,x0,x1,erow⟩:=five d;have hcall:=hF d (List.mem_of_getElem? hd) _ erow;have hup0:=(zL d).2;rw[erow] at hr hup0;refine Idx.mk _ Z.o hr ?_;cbv;refine Call.stepE (by rw[<- hP];exact hcall) (by exact Bool.and_eq_true_iff.mpr ⟨hup0,rfl⟩) ?_;obtain⟨cv,ecv⟩:=Z.f (kKQ (key d) t);rw[ecv];cbv;refine⟨_,Vw.same rfl,hR _ ⟨i,_,rfl,yJ,by omega,λhf=>⟨d,hd,?_⟩,λhf d' hd'=>?_⟩⟩
   ·rw[zB] at hf
    have hf:cv=0:=(by simpa[k04] using hf);unfold kKQ at ecv;split at ecv<;>(try split at ecv)<;>omega
   ·rw[zB] at hf
    have hf:cv≠0:=(by simpa[k04] using hf);have hne:key d≠t:=(by unfold kKQ at ecv;split at ecv<;>(try split at ecv)<;>omega);obtain⟨k,hk⟩:=List.mem_iff_getElem?.1 hd';by_cases hki:k<i.toNat
    ·have:=hlow k d' hki hk;omega
    ·by_cases hkh:k=i.toNat
     ·subst hkh;rw[hd] at hk;cases hk;exact hne
     ·have h1:=hs i.toNat k d d' Z.o hd hk
      have h2:=hup i.toNat d (Nat.le_refl _) hd;omega
  ·refine⟨_,Vw.same rfl,hR _ ⟨i,false,rfl,yJ,by omega,λhf=>(by cases hf),λhf d' hd'=>?_⟩⟩
   obtain⟨k,hk⟩:=List.mem_iff_getElem?.1 hd';have h1:=(List.getElem?_eq_some_iff.1 hk).1;have:=hlow k d' Z.o hk;omega
theorem kRN(g:Gr)(t:Int):k02 Tryz.prog 157 [.agg (k14 g),t] (· = jz (kKQ g.id t)):=by
 obtain⟨n,a,b,c,d⟩:=g;have hc:=q0U n t;obtain⟨v,ev⟩:=Z.f (kKQ n t);show k02 Tryz.prog 157 [.agg [n,a,b,c,d],t] (· = jz (kKQ n t));rw[ev] at hc ⊢;refine Z.y Tryz.func157 λ_ _ _ _ _ _ _ _ _ _ _ _ _ hz R hR P hP=>?_;cbv;refine Call.stepE (by rw[<- hP];exact hc) rfl ?_;cbv;exact Z.r hR
theorem q03{ss:List Sg}{gs:List Gr}(h:k1I ss gs):∀(i j:Nat) (a b:Gr),i<j->gs[i]?=some a->gs[j]?=some b->a.id<b.id:=by
 intro i j
 induction j with
 | zero=>intro a b hij;omega
 | succ j ih =>
   intro a b hij ha hb;have hjl:=(List.getElem?_eq_some_iff.1 hb).1;obtain⟨_,_,_,_,_,_,_,_,_,_,hl⟩:=h.grp (j+1) hjl b hb;obtain⟨c,hc⟩:∃c,gs[j]?=some c:=⟨gs[j],List.getElem?_eq_getElem Z.o⟩;have h1:=hl Z.o c hc;by_cases hij':i=j
   ·subst hij';rw[ha] at hc;cases hc;exact h1
   ·have:=ih a c Z.o ha hc;omega
theorem kGW(ss:List Sg)(gs:List Gr)(es ds:List (List AV))(zU:es=ss.map k0Y)(yG:ds=gs.map k14)(h:k1I ss gs)(id:Int):k02 Tryz.prog 99 [.agg [.list 3 es,.list 5 ds],id] (λr=>∃i f,r = .tuple [jz i,.bool f]/\kHD gs (λg:Gr=>g.id) id i f):=by
 have hu:Up0 es:=by rw[zU];exact k42 ss
 have hud:Up0 ds:=by rw[yG];exact k43 gs
 have hb:=kH0 k14 (λg:Gr=>g.id) (λd=>⟨rfl,rfl⟩) 157 gs id (λd _ rw_ e=>by rw[<- e];exact kRN d id) (q03 h) (by have:=h.gle;omega) ds yG;refine Z.y Tryz.func99 λ_ _ _ _ _ _ _ _ _ _ _ _ _ _ R hR P hP=>?_;cbv;refine Call.step (by rw[<- hP];exact hb) (by exact Up0.one hud rfl) ?_;rintro r ⟨i,f,rfl,hF⟩;cbv;exact⟨_,Vw.same rfl,hR _ ⟨_,_,rfl,hF⟩⟩
def kG1(x:Int×Int)(s:Sg):Int×Int:=(min x.1 (k9F s.ps 0 s.len s.ps.length).1,max x.2 (k9F s.ps 0 s.len s.ps.length).2.1)
def kLG(ss:List Sg):Int×Int:=ss.foldl kG1 (match ss[0]? with|some s=>((s.ps.getD 0 (0,0)).2,(s.ps.getD 0 (0,0)).2)|none=>(0,0))
theorem kLF:∀(l:List Sg),(∀s,s∈l->k9Z s.ps)->∀x:Int×Int,x.1<=x.2 -> -1048576<=x.1->x.2<=1048576->(l.foldl kG1 x).1<=(l.foldl kG1 x).2 /\ -1048576<=(l.foldl kG1 x).1/\(l.foldl kG1 x).2<=1048576
 | [],_,x,h1,h2,h3=>⟨h1,h2,h3⟩
 | s::l,hp,x,h1,h2,h3=>by
   rw[List.foldl_cons];have hb:=kH7 (hp s List.mem_cons_self).gr 0 s.len _ (Nat.le_refl _);have hl:=k9E s.ps 0 s.len s.ps.length;exact kLF l (λs hs=>hp s (List.mem_cons_of_mem _ hs)) _ (by unfold kG1;simp only;omega) (by unfold kG1;simp only;omega) (by unfold kG1;simp only;omega)
theorem kUL{ss:List Sg}(hp:∀s,s∈ss->k9Z s.ps):(kLG ss).1<=(kLG ss).2 /\ -1048576<=(kLG ss).1/\(kLG ss).2<=1048576:=by
 unfold kLG
 cases hs:ss[0]? with
 | none=>exact kLF ss hp _ (Int.le_refl _) Z.d Z.d
 | some s =>
   have:=(hp s (List.mem_of_getElem? hs)).gr 0 (hp s (List.mem_of_getElem? hs)).ne;exact kLF ss hp _ (Int.le_refl _) this.1 this.2
theorem kNS(ss:List Sg)(gs:List Gr)(es ds:List (List AV))(zU:es=ss.map k0Y)(yG:ds=gs.map k14)(hn:1<=ss.length)(hsl:ss.length<=1000000)(hln:k2N ss)(hpc:∀s,s∈ss->k9Z s.ps)(a b:Int)(e:(a,b)=kLG ss) :
 k02 Tryz.prog 35 [.agg [.list 3 es,.list 5 ds]] (· = .agg [a,b]):=by
 have hu:Up0 es:=by rw[zU];exact k42 ss
 have hud:Up0 ds:=by rw[yG];exact k43 gs
 have hel:es.length=ss.length:=by rw[zU];simp
 obtain⟨s0,hs0⟩:∃s,ss[0]?=some s:=⟨_,List.getElem?_eq_getElem Z.o⟩;have hp0:=hpc s0 (List.mem_of_getElem? hs0);obtain⟨x0,ex0⟩:∃x,x=(s0.ps.getD 0 (0,0)).2:=⟨_,rfl⟩;unfold kLG at e;rw[hs0] at e;simp only at e;rw[<- ex0] at e;obtain⟨len0,ps0,nx0⟩:=s0;simp only at hp0 ex0;obtain⟨⟨f0,g0⟩,hg0⟩:∃p,ps0[0]?=some p:=⟨_,List.getElem?_eq_getElem hp0.ne⟩;have hx0:x0=g0:=by rw[ex0,List.getD_eq_getElem?_getD,hg0];rfl
 subst hx0;obtain⟨pq0,epq0⟩:=Z.e (ps0.map k1E);obtain⟨xn0,exn0⟩:=Z.e (nx0.map k0K);have hr0:es[(0:Int).toNat]?=some [jz len0,.list 2 pq0,.list 1 xn0]:=by rw[zU,List.getElem?_map,show (0:Int).toNat=0 from rfl,hs0,epq0,exn0];rfl
 have hr1:pq0[(0:Int).toNat]?=some [jz f0,jz x0]:=by rw[epq0,List.getElem?_map,show (0:Int).toNat=0 from rfl,hg0];rfl
 have q1:=kWD x0;clear ex0 hs0 hp0 hg0 epq0 exn0;refine Z.y Tryz.func35 λzA _ _ _ _ _ hw zC zB _ _ _ zE hz R hR P hP=>?_;cbv;have i00:(0:Int)<=0:=Int.le_refl _;repeat' (first|(refine Idx.mk _ i00 hr0 ?_;cbv)|(refine Idx.mk _ i00 hr1 ?_;cbv)|(refine Call.s hP q1 ?_;cbv)|fail)
 obtain⟨L,eL,L0,Ln⟩:=Z.l zE es;simp only[eL];have ez:kG1=kG1:=rfl
 refine k1Q.data hw (S:=Int×Int×Int) (λs=>fr 38 [(2,.ref 1 2 0 0),(3,.ref 2 2 0 0),(18,.list 3 es),(19,L),(20,s.1)]) (λs=>[.live 2 [[.list 3 es,.list 5 ds]],.live 2 [[jz 0,jz 0]],.live 2 [[s.2.1,s.2.2]]])
  (λs=>0<=s.1/\s.1<=L/\s.2.1<=s.2.2/\(s.2.1,s.2.2)=(ss.take s.1.toNat).foldl kG1 (x0,x0)) (λs=>(L-s.1).toNat) (0,x0,x0) Z.i ⟨Int.le_refl _,L0,Int.le_refl _,rfl⟩ ?_
 rintro⟨i,y1,y2⟩ zJ Q' hN hE hR'
 have zJ:0<=i/\i<=L/\y1<=y2/\(y1,y2)=(ss.take i.toNat).foldl kG1 (x0,x0):=zJ;obtain⟨yJ,yZ,hy,hyf⟩:=zJ;by_cases yH:i<L
 ·obtain⟨s,hs⟩:∃l,ss[i.toNat]?=some l:=⟨_,List.getElem?_eq_getElem (show i.toNat<ss.length by omega)⟩
  have hps:=hpc s (List.mem_of_getElem? hs);have hls:=hln.pos s (List.mem_of_getElem? hs);obtain⟨i2,ei2⟩:=Z.e (i+1);have htk:ss.take i2.toNat=ss.take i.toNat++[s]:=(by rw[ei2];exact k24 yJ hs);obtain⟨v,ev⟩:=Z.e (k9F s.ps 0 s.len s.ps.length);have hvl:=k9E s.ps 0 s.len s.ps.length;rw[<- ev] at hvl;obtain⟨z1,ez1⟩:=Z.f (min y1 v.1);obtain⟨z2,ez2⟩:=Z.f (max y2 v.2.1)
  have hz:(z1,z2)=(ss.take i2.toNat).foldl kG1 (x0,x0):=by
   rw[htk,List.foldl_append,<- hyf];show _=kG1 (y1,y2) s;unfold kG1;rw[<- ev,ez1,ez2]
  obtain⟨len,ps,nx⟩:=s;simp only at hps hls ev;obtain⟨pq,epq⟩:=Z.e (ps.map k1E);obtain⟨xn,exn⟩:=Z.e (nx.map k0K);have hupq:Up0 pq:=(by rw[epq];exact k7F ps);have zL:es[i.toNat]?=some [jz len,.list 2 pq,.list 1 xn]:=(by rw[zU,List.getElem?_map,hs,epq,exn];rfl);have q2:=kFG ps (by have:=hps.le;omega) pq epq 0 len Z.o v ev;have q3:=kB5 hy hvl ez1 ez2;have hT:(L-i2).toNat<(L-i).toNat:=(by omega);have ck:=W.lt zB yH;have a4:zA .add .i64 i 1=i2:=(by rw[zC,k0S Z.o Z.o,ei2]);have hz12:z1<=z2:=(by omega);obtain⟨v1,v2,v3⟩:=v;simp only at q2 q3;clear ev ez1 ez2 htk hs hps epq hyf ez hpc;cbv;repeat' (first|(simp only[ck,a4];cbv)|(refine Call.s hP q2 ?_;cbv)|(refine Call.s hP q3 ?_;cbv)|(refine Idx.mk _ yJ zL ?_;cbv)|fail)
  refine hN (i2,z1,z2) _ _ ?hx ?hi hT
  case hx=>exact Z.i
  case hi=>exact⟨by simp only;omega,by simp only;omega,by simp only;omega,hz⟩
 ·have ck:=W.nlt zB (show L<=i by omega)
  rw[List.take_of_length_le Z.o,<- e] at hyf;obtain⟨rfl,rfl⟩:=Prod.mk.inj hyf;clear hyf e ez hpc;cbv;simp only[ck];refine hE _ _ _ ?_;cbv;exact Z.r hR
theorem kSF(ps:List (Int×Int))(q:List (List AV))(hq:q=ps.map k1E)(len:Int):k02 Tryz.prog 183 [.list 2 q,len] (λr=>∃e:Int,r=jz e/\(e=0↔kSW ps len)):=by
 have hu:Up0 q:=by rw[hq];exact k7F ps
 have hql:q.length=ps.length:=by rw[hq];simp
 refine Z.y Tryz.func183 λzA _ _ _ _ _ hw zC _ yM _ _ zE hz R hR P hP=>?_;cbv;obtain⟨L,eL,L0,Ln⟩:=Z.l zE q;have hF:¬kSW ps len->R (jz 11):=λhn=>hR _ ⟨_,rfl,⟨λh=>absurd h Z.d,λh=>absurd h hn⟩⟩;(split<;>rename_i h1<;>(try (simp only[eL] at h1))<;>(try (simp only[hz,Z.a,k05,k04,k08,k03,k0M,reduceCtorEq] at h1))<;>(try cbv))
 ·exact⟨_,Vw.same rfl,hF λhM=>(by have:=hM.ne;omega)⟩
 (split<;>rename_i h2<;>(try (simp only[eL] at h2))<;>(try (simp only[hz,Z.a,k05,k04,k08,k03,k0M,reduceCtorEq] at h2))<;>(try cbv))
 ·exact⟨_,Vw.same rfl,hF λhM=>(by have:=hM.le;omega)⟩
 obtain⟨⟨x,y⟩,hd,zL⟩:=k0V (f:=k1E) (ds:=ps) (i:=0) (Int.le_refl 0) Z.o;have zL:q[(0:Int).toNat]?=some [jz x,jz y]:=by rw[hq];exact zL
 refine Idx.mk [jz x,jz y] Z.d zL ?_;cbv;(split<;>rename_i h3<;>(try (simp only[hz,Z.a,k05,k04,k08,k03,k0M,reduceCtorEq] at h3))<;>(try cbv))
 ·exact⟨_,Vw.same rfl,hF λhM=>h3 (hM.zero _ hd)⟩
 refine k1Q.data hw (S:=Int) (λi=>fr 59 [(0,.list 2 q),(1,len),(22,.list 2 q),(23,L),(24,i)]) (λi=>[]) (λi=>0<=i/\i<=L/\∀j,j<i.toNat->q1L ps len j) (λi=>(L-i).toNat) 0 Z.i ⟨Int.le_refl _,L0,λj hj=>(by simp at hj)⟩ ?_;rintro i zJ Q' hN hE hR';have zJ:0<=i/\i<=L/\∀j,j<i.toNat->q1L ps len j:=zJ;cbv;obtain⟨yJ,yZ,hl⟩:=zJ;(split<;>rename_i hc<;>(try (simp only[eL] at hc))<;>(try (simp only[hz,Z.a,k05,k04,k08,k03,k0M,reduceCtorEq] at hc))<;>(try cbv))
 ·obtain⟨⟨a,b⟩,hd2,zY⟩:=k0V (f:=k1E) (ds:=ps) (i:=i) yJ Z.o
  have zY:q[i.toNat]?=some [jz a,jz b]:=(by rw[hq];exact zY);obtain⟨i',ei'⟩:=Z.f (i+1);obtain⟨im,eim⟩:=Z.f (i-1);have ei:zA .add .i64 i 1=i':=(by rw[zC,k0S Z.o Z.o];exact ei');have em:zA .sub .i64 i 1=im:=(by rw[zC,k3I Z.o Z.o];exact eim);have hT:(L-i').toNat<(L-i).toNat:=by omega
  obtain⟨a',b',hp'⟩:∃a' b',0<i->0<=im/\ps[i.toNat-1]?=some (a',b')/\q[im.toNat]?=some [jz a',jz b']:=by
   by_cases h:0<i
   ·obtain⟨⟨a',b'⟩,k1,k2⟩:=k0V (f:=k1E) (ds:=ps) (i:=im) Z.o Z.o
    exact⟨a',b',λ_=>⟨by omega,by rw[<- k1];congr 1;omega,by rw[hq];exact k2⟩⟩
   ·exact⟨0,0,λh'=>absurd h' h⟩
  have fin:(-1048576<=b/\b<=1048576/\a<len/\(0<i->a'<a))->∀j,j<i'.toNat->q1L ps len j:=by
   intro hh;rw[<- ei'];refine k8U yJ hl λp hp=>?_;rw[hd2] at hp;obtain rfl:(a,b)=p:=(by simpa using hp);refine⟨hh.1,hh.2.1,hh.2.2.1,λhj o ho=>?_⟩;rw[(hp' Z.o).2.1] at ho;obtain rfl:(a',b')=o:=(by simpa using ho);exact hh.2.2.2 Z.o
  have bad:kSW ps len -> -1048576<=b/\b<=1048576/\a<len/\(0<i->a'<a):=by
   intro hM;obtain⟨m1,m2,m3,m4⟩:=hM.all i.toNat Z.o _ hd2;exact⟨m1,m2,m3,λh=>m4 Z.o _ (hp' h).2.1⟩
  repeat' (first
   | (refine hR' _ _ ⟨_,Vw.same rfl,hF λhM=>?_⟩;obtain⟨m1,m2,m3,m4⟩:=bad hM;clear hN hE hR' hR hF;omega)
   | (refine Idx.mk [jz a,jz b] yJ zY ?_;cbv)
   | (simp only[em];refine Idx.mk [jz a',jz b'] (hp' Z.m).1 (hp' Z.m).2.2 ?_;cbv)
   | (split<;>rename_i h<;>(try (simp only[hz,Z.a,k05,k04,k08,k03,k0M,reduceCtorEq] at h))<;>(try cbv)))
  all_goals
   refine hN i' _ _ ?hx ?hi hT
   case hx=>exact Z.i
   case hi=>exact⟨by omega,by omega,fin ⟨by omega,by omega,by omega,by omega⟩⟩
 ·refine hE _ _ _ ?_
  cbv;exact⟨_,Vw.same rfl,hR _ ⟨_,rfl,⟨λ_=>⟨by omega,by omega,λp hp=>(by rw[show ps[0]?=some (x,y) from hd] at hp;obtain rfl:(x,y)=p:=(by simpa using hp);exact h3),λj hj=>hl j Z.o⟩,λ_=>rfl⟩⟩⟩
def q2Q(nx:List Int)(many:Int)(j:Nat):Prop:=∀n,nx[j]?=some n->0<=n/\n<many/\(0<j->∀o,nx[j-1]?=some o->o<n)
theorem q0C(s:Sg)(q n1:List (List AV))(hq:q=s.ps.map k1E)(hn1:n1=s.nx.map k0K)(es ds:List (List AV))(hu:Up0 es)(hud:Up0 ds)(many:Int)(hmany:many.toNat=es.length)(hm0:0<=many):k02 Tryz.prog 126 [.agg [.list 3 es,.list 5 ds],.agg [s.len,.list 2 q,.list 1 n1]] (λr=>∃o:Bool,r = .bool o/\(o=true↔kDV s many)):=by
 obtain⟨len,ps,nx⟩:=s;have hq:q=ps.map k1E:=hq;have hn1:n1=nx.map k0K:=hn1;have huq:Up0 q:=by rw[hq];exact k7F ps
 have yM:Up0 n1:=by rw[hn1];exact k3K nx
 have hnl:n1.length=nx.length:=by rw[hn1];simp
 refine Z.y Tryz.func126 λzA _ _ _ _ _ hw zC _ _ _ _ zE hz R hR P hP=>?_;cbv;obtain⟨L,eL,L0,Ln⟩:=Z.l zE n1;obtain⟨M,eM,M0,Mn⟩:=Z.l zE es;obtain rfl:M=many:=by omega
 have hF:¬kDV ⟨len,ps,nx⟩ M->R (.bool false):=λhn=>hR _ ⟨_,rfl,⟨λh=>(by cases h),λh=>absurd h hn⟩⟩;(split<;>rename_i h1<;>(try (simp only[hz,Z.a,k05,k04,k08,k03,k0M,reduceCtorEq] at h1))<;>(try cbv))
 ·exact⟨_,Vw.same rfl,hF λhM=>(by have k:1<=len:=hM.pos;omega)⟩
 (split<;>rename_i h2<;>(try (simp only[hz,Z.a,k05,k04,k08,k03,k0M,reduceCtorEq] at h2))<;>(try cbv))
 ·exact⟨_,Vw.same rfl,hF λhM=>(by have k:len<=1099511627776:=hM.le;omega)⟩
 refine Call.step (by rw[<- hP];exact kSF ps q hq len) (by exact Up0.one huq rfl) ?_;rintro r ⟨o,rfl,hmay⟩;cbv;(split<;>rename_i h3<;>(try (simp only[hz,Z.a,k05,k04,k08,k03,k0M,reduceCtorEq] at h3))<;>(try cbv))
 ·exact⟨_,Vw.same rfl,hF λhM=>h3 (hmay.2 hM.may)⟩
 have hmay:=hmay.1 h3;(split<;>rename_i h4<;>(try (simp only[eL] at h4))<;>(try (simp only[hz,Z.a,k05,k04,k08,k03,k0M,reduceCtorEq] at h4))<;>(try cbv))
 ·exact⟨_,Vw.same rfl,hF λhM=>(by have k:nx.length<=2:=hM.two;omega)⟩
 simp only[eL];refine k1Q.data hw (S:=Int) (λi=>fr 61 [(2,.ref 0 2 0 0),(3,.ref 1 3 0 0),(30,.list 1 n1),(31,L),(32,i)]) (λi=>[.live 2 [[.list 3 es,.list 5 ds]],.live 3 [[len,.list 2 q,.list 1 n1]]]) (λi=>0<=i/\i<=L/\∀j,j<i.toNat->q2Q nx M j) (λi=>(L-i).toNat) 0 Z.i ⟨Int.le_refl _,L0,λj hj=>(by simp at hj)⟩ ?_;rintro i zJ Q' hN hE hR';have zJ:0<=i/\i<=L/\∀j,j<i.toNat->q2Q nx M j:=zJ;cbv;obtain⟨yJ,yZ,hl⟩:=zJ;(split<;>rename_i hc<;>(try (simp only[eL] at hc))<;>(try (simp only[hz,Z.a,k05,k04,k08,k03,k0M,reduceCtorEq] at hc))<;>(try cbv))
 ·obtain⟨n,hd2,zY⟩:=k0V (f:=k0K) (ds:=nx) (i:=i) yJ Z.o
  have zY:n1[i.toNat]?=some [jz n]:=(by rw[hn1];exact zY);obtain⟨i',ei'⟩:=Z.f (i+1);obtain⟨im,eim⟩:=Z.f (i-1);have ei:zA .add .i64 i 1=i':=(by rw[zC,k0S Z.o Z.o];exact ei');have em:zA .sub .i64 i 1=im:=(by rw[zC,k3I Z.o Z.o];exact eim);have hT:(L-i').toNat<(L-i).toNat:=by omega
  obtain⟨o',hp'⟩:∃o',0<i->0<=im/\nx[i.toNat-1]?=some o'/\n1[im.toNat]?=some [jz o']:=by
   by_cases h:0<i
   ·obtain⟨o',k1,k2⟩:=k0V (f:=k0K) (ds:=nx) (i:=im) Z.o Z.o
    exact⟨o',λ_=>⟨by omega,by rw[<- k1];congr 1;omega,by rw[hn1];exact k2⟩⟩
   ·exact⟨0,λh'=>absurd h' h⟩
  have bad:kDV ⟨len,ps,nx⟩ M->0<=n/\n<M/\(0<i->o'<n):=λhM=>by
   obtain⟨k1,k2⟩:=hM.nx i.toNat (show i.toNat<nx.length by omega) n hd2;refine⟨k1,k2,λh=>?_⟩;have h1:i.toNat=1:=(by omega);have p1:=(hp' h).2.1;rw[h1] at p1 hd2;exact hM.lt o' n p1 hd2
  have fin:(0<=n/\n<M/\(0<i->o'<n))->∀j,j<i'.toNat->q2Q nx M j:=by
   intro hh;rw[<- ei'];refine k8U yJ hl λm hm=>?_;rw[hd2] at hm;obtain rfl:n=m:=(by simpa using hm);refine⟨hh.1,hh.2.1,λhj o ho=>?_⟩;rw[(hp' Z.o).2.1] at ho;obtain rfl:o'=o:=(by simpa using ho);exact hh.2.2 Z.o
  repeat' (first
   | (refine hR' _ _ ⟨_,Vw.same rfl,hF λhM=>?_⟩;obtain⟨m1,m2,m3⟩:=bad hM;clear hN hE hR' hR hF;omega)
   | (refine Idx.mk [jz n] yJ zY ?_;cbv)
   | (simp only[em];refine Idx.mk [jz o'] (hp' Z.m).1 (hp' Z.m).2.2 ?_;cbv)
   | (split<;>rename_i h<;>(try (simp only[eL,eM] at h))<;>(try (simp only[hz,Z.a,k05,k04,k08,k03,k0M,reduceCtorEq] at h))<;>(try cbv)))
  all_goals
   refine hN i' _ _ ?hx ?hi hT
   case hx=>(refine Z.k (λj=>[0,1].getD j 0) ?_;cbv<;>exact Z.q)
   case hi=>exact⟨by omega,by omega,fin ⟨by omega,by omega,by omega⟩⟩
 ·refine hE _ _ _ ?_
  cbv;refine⟨_,Vw.same rfl,hR _ ⟨_,rfl,⟨λ_=>⟨h1,by omega,hmay,by simp only;omega,λj hj n hn=>?_,λa b ha hb=>?_⟩,λ_=>rfl⟩⟩⟩
  ·have:=hl j (by simp only at hj;omega) n hn
   exact⟨this.1,this.2.1⟩
  ·have hb1:=(List.getElem?_eq_some_iff.1 hb).1
   exact(hl 1 (by simp only at hb1;omega) b hb).2.2 Z.d a ha
theorem kRM(ss:List Sg)(gs:List Gr)(hsl:ss.length<=1000000)(hgl:gs.length<=1000000)(es ds:List (List AV))(zU:es=ss.map k0Y)(yG:ds=gs.map k14)(i g1 g2 g3 g4 g5:Int)(yJ:0<=i)(hd:gs[i.toNat]?=some ⟨g1,g2,g3,g4,g5⟩) :
 k02 Tryz.prog 127 [.agg [.list 3 es,.list 5 ds],i,.agg [g1,g2,g3,g4,g5]] (λr=>∃o:Bool,r = .bool o/\(o=true↔q1B ss gs i.toNat)):=by
 have hu:Up0 es:=by rw[zU];exact k42 ss
 have hud:Up0 ds:=by rw[yG];exact k43 gs
 have hel:es.length=ss.length:=by rw[zU];simp
 have hil:i.toNat<gs.length:=(List.getElem?_eq_some_iff.1 hd).1;obtain⟨im,eim⟩:=Z.f (i-1)
 obtain⟨p1,p2,p3,p4,p5,hp⟩:∃p1 p2 p3 p4 p5,0<i->0<=im/\gs[i.toNat-1]?=some ⟨p1,p2,p3,p4,p5⟩/\ds[im.toNat]?=some [jz p1,jz p2,jz p3,jz p4,jz p5]:=by
  by_cases h:0<i
  ·obtain⟨⟨p1,p2,p3,p4,p5⟩,k1,k2⟩:=k0V (f:=k14) (ds:=gs) (i:=im) Z.o Z.o
   exact⟨p1,p2,p3,p4,p5,λ_=>⟨by omega,by rw[<- k1];congr 1;omega,by rw[yG];exact k2⟩⟩
  ·exact⟨0,0,0,0,0,λh'=>absurd h' h⟩
 obtain⟨len,q1,n1,yL⟩:∃len q1 n1,0<=g2->g2.toNat<ss.length->es[g2.toNat]?=some [jz len,.list 2 q1,.list 1 n1]/\∀s,ss[g2.toNat]?=some s->s.len=len:=by
  by_cases h:0<=g2/\g2.toNat<ss.length
  ·obtain⟨⟨len,ps,nx⟩,k1,k2⟩:=k0V (f:=k0Y) (ds:=ss) (i:=g2) h.1 Z.o
   exact⟨len,_,_,λ_ _=>⟨by rw[zU];exact k2,λs hs=>by rw[k1] at hs;obtain rfl:(⟨len,ps,nx⟩:Sg)=s:=(by simpa using hs);rfl⟩⟩
  ·exact⟨0,[],[],λh' h''=>absurd ⟨h',h''⟩ h⟩
 have key:q1B ss gs i.toNat↔(1<=g1/\g1<=65535/\(0<i->p1<g1)/\0<=g2/\g2.toNat<ss.length/\0<=g3/\g3<=len/\0<=g4/\g4<=1048576/\0<=g5/\g5<=16777216):=by
  constructor
  ·intro h
   obtain⟨k1,k2,k3,k4,k5,k6,k7,k8,k9,k10,k11⟩:=h _ hd;simp only at k1 k2 k3 k4 k5 k6 k7 k8 k9 k10 k11;obtain⟨s,hs⟩:∃s,ss[g2.toNat]?=some s:=⟨_,List.getElem?_eq_getElem k4⟩;exact⟨by omega,k2,λhi=>k11 Z.o _ (hp hi).2.1,k3,k4,k5,by have:=k6 s hs;rw[(yL k3 k4).2 s hs] at this;exact this,k7,k8,k9,k10⟩
  ·rintro⟨k1,k2,k3,k4,k5,k6,k7,k8,k9,k10,k11⟩ g hg
   rw[hd] at hg;obtain rfl:(⟨g1,g2,g3,g4,g5⟩:Gr)=g:=(by simpa using hg);refine⟨by simp only;omega,k2,k4,k5,k6,λs hs=>by rw[(yL k4 k5).2 s hs];exact k7,k8,k9,k10,k11,λhj o ho=>?_⟩;rw[(hp Z.o).2.1] at ho;obtain rfl:(⟨p1,p2,p3,p4,p5⟩:Gr)=o:=(by simpa using ho);exact k3 Z.o
 rw[key];clear key;refine Z.y Tryz.func127 λzA _ _ _ _ _ _ zC zB _ _ _ zE hz R hR P hP=>?_;cbv;obtain⟨L,eL,L0,Ln⟩:=Z.l zE es;have em:0<i->zA .sub .i64 i 1=im:=λh=>by rw[zC,k3I Z.o Z.o];exact eim
 have hF:¬(1<=g1/\g1<=65535/\(0<i->p1<g1)/\0<=g2/\g2.toNat<ss.length/\0<=g3/\g3<=len/\0<=g4/\g4<=1048576/\0<=g5/\g5<=16777216)->R (.bool false):=λhn=>hR _ ⟨_,rfl,⟨λh=>(by cases h),λh=>absurd h hn⟩⟩
 repeat' (first
  | exact⟨_,Vw.same rfl,hF Z.o⟩
  | (simp only[em Z.m];refine Idx.mk [jz p1,jz p2,jz p3,jz p4,jz p5] (hp Z.m).1 (hp Z.m).2.2 ?_;cbv)
  | (refine Idx.mk [jz len,.list 2 q1,.list 1 n1] Z.o (yL Z.o Z.o).1 ?_;cbv)
  | (split<;>rename_i h<;>(try (simp only[eL] at h))<;>(try (simp only[hz,Z.a,k05,k04,k08,k03,k0M,reduceCtorEq] at h))<;>(try cbv)))
 all_goals
  refine⟨_,Vw.same rfl,hR _ ⟨_,rfl,?_⟩⟩;rw[zB];simp only[k04,decide_eq_true_eq];omega
theorem kDJ(ss:List Sg)(gs:List Gr)(hsl:ss.length<=1000000)(hgl:gs.length<=1000000)(es ds:List (List AV))(zU:es=ss.map k0Y)(yG:ds=gs.map k14):k02 Tryz.prog 67 [.agg [.list 3 es,.list 5 ds]] (λr=>∃e i,r = .tuple [jz e,jz i]/\(e=0↔k1I ss gs)):=by
 have hu:Up0 es:=by rw[zU];exact k42 ss
 have hud:Up0 ds:=by rw[yG];exact k43 gs
 have hel:es.length=ss.length:=by rw[zU];simp
 have hdl:ds.length=gs.length:=by rw[yG];simp
 refine Z.y Tryz.func67 λzA _ _ _ zF _ hw zC _ yM _ zI zE hz R hR P hP=>?_;cbv;obtain⟨L,eL,L0,Ln⟩:=Z.l zE es;obtain⟨J,eJ,J0,Jn⟩:=Z.l zE ds;have hF:∀e i:Int,e≠0->¬k1I ss gs->R (.tuple [e,i]):=λe i he hn=>hR _ ⟨_,_,rfl,λh=>absurd h he,λh=>absurd h hn⟩;(split<;>rename_i h1<;>(try (simp only[eL] at h1))<;>(try (simp only[hz,Z.a,k05,k04,k08,k03,k0M,reduceCtorEq] at h1))<;>(try cbv))
 ·exact⟨_,Vw.same rfl,hF _ _ Z.d λhM=>(by have:=hM.ne;omega)⟩
 (split<;>rename_i h2<;>(try (simp only[eL] at h2))<;>(try (simp only[hz,Z.a,k05,k04,k08,k03,k0M,reduceCtorEq] at h2))<;>(try cbv))
 ·exact⟨_,Vw.same rfl,hF _ _ Z.d λhM=>(by have:=hM.le;omega)⟩
 (split<;>rename_i h3<;>(try (simp only[eJ] at h3))<;>(try (simp only[hz,Z.a,k05,k04,k08,k03,k0M,reduceCtorEq] at h3))<;>(try cbv))
 ·exact⟨_,Vw.same rfl,hF _ _ Z.d λhM=>(by have:=hM.gle;omega)⟩
 simp only[eL];refine k1Q.data hw (S:=Int) (λi=>fr 53 [(1,.ref 0 2 0 0),(25,.list 3 es),(26,L),(27,i)]) (λi=>[.live 2 [[.list 3 es,.list 5 ds]]]) (λi=>0<=i/\i<=L/\∀j,j<i.toNat->∀s,ss[j]?=some s->kDV s L) (λi=>(L-i).toNat) 0 Z.i ⟨Int.le_refl _,L0,λj hj=>(by simp at hj)⟩ ?_;rintro i zJ Q' hN hE hR';have zJ:0<=i/\i<=L/\∀j,j<i.toNat->∀s,ss[j]?=some s->kDV s L:=zJ;cbv;obtain⟨yJ,yZ,hl⟩:=zJ;have eLL:L.toNat=ss.length:=by omega
 have hLL:∀s,kDV s (ss.length:Int)↔kDV s L:=λs=>by rw[show (ss.length:Int)=L by omega]
 have n1:zF true=false:=by rw[zI];rfl
 have n2:zF false=true:=by rw[zI];rfl
 (split<;>rename_i hc<;>(try (simp only[eL] at hc))<;>(try (simp only[hz,Z.a,k05,k04,k08,k03,k0M,reduceCtorEq] at hc))<;>(try cbv))
 ·obtain⟨⟨len,ps,nx⟩,hd,zL⟩:=k0V (f:=k0Y) (ds:=ss) (i:=i) yJ Z.o
  obtain⟨q1,eq1⟩:=Z.f (ps.map k1E);obtain⟨m1,en1⟩:=Z.f (nx.map k0K);have zL:es[i.toNat]?=some [jz len,.list 2 q1,.list 1 m1]:=(by rw[zU,<- eq1,<- en1];exact zL);have huq:Up0 q1:=(by rw[<- eq1];exact k7F ps);have yM:Up0 m1:=(by rw[<- en1];exact k3K nx);obtain⟨i',ei'⟩:=Z.f (i+1);have ei:zA .add .i64 i 1=i':=(by rw[zC,k0S Z.o Z.o];exact ei');have hT:(L-i').toNat<(L-i).toNat:=(by omega);refine Idx.mk [jz len,.list 2 q1,.list 1 m1] yJ zL ?_;cbv;refine Call.step (by rw[<- hP];exact q0C ⟨len,ps,nx⟩ q1 m1 eq1.symm en1.symm es ds hu hud L Z.o L0) Z.u ?_;rintro r ⟨o,rfl,ho⟩;cbv
  cases o with
  | false =>
    simp only[n2];cbv;refine hR' _ _ ⟨_,Vw.same rfl,hF _ _ Z.d λhM=>?_⟩;have:=ho.2 ((hLL _).1 (hM.seg i.toNat Z.o _ hd));cases this
  | true =>
    simp only[n1];cbv;simp only[ei];refine hN i' _ _ ?hx ?hi hT
    case hx=>exact Z.i
    case hi =>
     refine⟨by omega,by omega,?_⟩;rw[<- ei'];refine k8U yJ hl λm hm=>?_;rw[hd] at hm;obtain rfl:(⟨len,ps,nx⟩:Sg)=m:=(by simpa using hm);exact ho.1 rfl
 refine hE _ _ _ ?_;cbv;have hseg:∀j,j<ss.length->∀s,ss[j]?=some s->kDV s L:=λj hj=>hl j Z.o;clear hl hN hE hR';simp only[eJ];refine k1Q.data hw (S:=Int) (λi=>fr 53 [(1,.ref 0 2 0 0),(39,.list 5 ds),(40,J),(41,i)]) (λi=>[.live 2 [[.list 3 es,.list 5 ds]]]) (λi=>0<=i/\i<=J/\∀j,j<i.toNat->q1B ss gs j) (λi=>(J-i).toNat) 0 Z.i ⟨Int.le_refl _,J0,λj hj=>(by simp at hj)⟩ ?_;rintro i zJ Q' hN hE hR';have zJ:0<=i/\i<=J/\∀j,j<i.toNat->q1B ss gs j:=zJ;cbv;obtain⟨yJ,yZ,hl⟩:=zJ;(split<;>rename_i hc<;>(try (simp only[eJ] at hc))<;>(try (simp only[hz,Z.a,k05,k04,k08,k03,k0M,reduceCtorEq] at hc))<;>(try cbv))
 ·obtain⟨⟨g1,g2,g3,g4,g5⟩,hd,zL⟩:=k0V (f:=k14) (ds:=gs) (i:=i) yJ Z.o
  have zL:ds[i.toNat]?=some [jz g1,jz g2,jz g3,jz g4,jz g5]:=(by rw[yG];exact zL);obtain⟨i',ei'⟩:=Z.f (i+1);have ei:zA .add .i64 i 1=i':=(by rw[zC,k0S Z.o Z.o];exact ei');have hT:(J-i').toNat<(J-i).toNat:=(by omega);have hgi:∀P:Nat->Prop,(∀j,j<i.toNat->P j)->P i.toNat->∀j,j<i'.toNat->P j:=λP h1 h2=>(by rw[<- ei'];exact k8U yJ h1 h2);refine Idx.mk [jz g1,jz g2,jz g3,jz g4,jz g5] yJ zL ?_;cbv;refine Call.step (by rw[<- hP];exact kRM ss gs hsl hgl es ds zU yG i g1 g2 g3 g4 g5 yJ hd) Z.u ?_;rintro r ⟨o,rfl,ho⟩;cbv
  cases o with
  | false =>
    simp only[n2];cbv;refine hR' _ _ ⟨_,Vw.same rfl,hF _ _ Z.d λhM=>?_⟩;have:=ho.2 (hM.grp i.toNat Z.o);cases this
  | true =>
    simp only[n1];cbv;simp only[ei];refine hN i' _ _ ?hx ?hi hT
    case hx=>exact Z.i
    case hi=>exact⟨by omega,by omega,hgi _ hl (ho.1 rfl)⟩
 refine hE _ _ _ ?_;cbv;exact⟨_,Vw.same rfl,hR _ ⟨_,_,rfl,λ_=>⟨by omega,by omega,by omega,λj hj s hs=>(hLL s).2 (hseg j hj s hs),λj hj=>hl j Z.o⟩,λ_=>rfl⟩⟩
theorem Vw.rows{h:k00}{z:Nat}{es rs:List (List AV)}(hl:es.length=rs.length)(hz:∀r,r∈rs->r.length=z)(H:∀(i:Nat) (r:List AV),rs[i]?=some r->∃e,es[i]?=some e/\VwL h e r):Vw h (.list z es) (.list z rs):=by
 intro C hC RC u hu;rcases hu.lists with ⟨⟨a,cap,rfl⟩,he⟩|⟨a,cap,f,rfl,hcap,hsp,hz',hcell,hown,hvv⟩
 ·have:rs=[]:=by rw[he] at hl;exact List.length_eq_zero_iff.1 hl.symm
  subst this;exact .listNil z a cap
 ·refine .list z rs a es.length cap f hl.symm hcap hsp hz (λi j hi hj=>hcell i j hi hj) (λh1 h2 ho=>?_) λi r hr j x hx=>?_
  ·rcases ho with ho|⟨s,⟨z',es',hs⟩,_⟩
   ·exact hown h1 h2 (.inl ho)
   ·simp at hs
  ·obtain⟨e,he,hv⟩:=H i r hr
   obtain⟨k1,k2⟩:=hv.get;obtain⟨v,hv1,hv2⟩:=k2 j x hx;exact hv2 C hC RC _ (hvv i e he j v hv1)
theorem k2B(x a b:Int)(o:Bool)(ho:o=decide (a<=x/\x<=b)):k02 Tryz.prog 186 [x,a,b] (· = .bool o):=by
 refine Z.y Tryz.func186 λ_ zG _ _ _ _ _ _ zB _ _ _ _ hz R hR P hP=>?_;cbv;(split<;>rename_i h<;>(try (simp only[hz,Z.a,k05,k04,k08,k03,k0M,reduceCtorEq] at h))<;>(try cbv))
 ·have v:zG .leq x b=o:=by rw[zB,ho];simp[k04];omega
  simp only[v];exact Z.r hR
 ·have v:o=false:=by rw[ho];simp;omega
  subst v;exact Z.r hR
theorem kWX(c0 c1 c2 c3 c4 c5 c6 c7 c8 c9 c10 c11 c12 c13 p:Int)(h0:1<=c0)(h1:c0<=1024)(h2:0<=c2)(h3:c2<=8388608)(hp:p=(c2+c0-1)/c0):k02 Tryz.prog 196 [.agg [c0,c1,c2,c3,c4,c5,c6,c7,c8,c9,c10,c11,c12,c13]] (· = jz p):=by
 have hq:kP3 true c2 1 c0=(p,0):=by
  rw[kQC h2 Z.d Z.o,Int.mul_one];have hd:=Int.mul_ediv_add_emod c2 c0;have hm0:=Int.emod_nonneg c2 (show c0≠0 by omega);have hm1:=Int.emod_lt_of_pos c2 (show 0<c0 by omega);have hle:c2/c0<=c2:=Int.ediv_le_self _ h2;have hge:0<=c2/c0:=Int.ediv_nonneg h2 Z.o;obtain⟨q,eq⟩:=Z.e (c2/c0);rw[<- eq] at hd hle hge ⊢;by_cases hz:0<c2%c0
  ·have e1:p=q+1:=by
    rw[hp,show c2+c0-1=(c2%c0-1)+(q+1)*c0 by rw[Int.add_mul,Int.one_mul,Int.mul_comm q c0];omega,Int.add_mul_ediv_right _ _ Z.o,Int.ediv_eq_zero_of_lt Z.o Z.o];omega
   rw[if_pos ⟨hz,rfl⟩,e1];unfold kP2;simp only[Bool.false_eq_true,if_false];rw[if_pos Z.o]
  ·have e1:p=q:=by
    rw[hp,show c2+c0-1=(c0-1)+q*c0 by rw[Int.mul_comm q c0];omega,Int.add_mul_ediv_right _ _ Z.o,Int.ediv_eq_zero_of_lt Z.o Z.o];omega
   rw[if_neg (λh=>hz h.1),e1];unfold kP2;simp only[Bool.false_eq_true,if_false];rw[if_pos Z.o]
 have hc:=kTU c2 1 c0 p 0 Z.o Z.o Z.d Z.d Z.o Z.o Z.o hq;refine Z.y Tryz.func196 λ_ _ _ _ _ _ _ _ _ _ _ _ _ hz R hR P hP=>?_;cbv;refine Call.stepE (by rw[<- hP];exact hc) rfl ?_;cbv;exact Z.r hR
def cfL(c0 c1 c2 c3 c4 c5 c6 c7 c8 c9 c10 c11 c12 c13:Int):List AV:=[c0,c1,c2,c3,c4,c5,c6,c7,c8,c9,c10,c11,c12,c13]
def ruO(c0 c1 c2 c3 c4 c5 c6 c7 c8 c9 c10 c11 c12 c13:Int):List Bool:=[decide (¬(c0<1\/1024<c0)),decide (¬(c1<131072\/8388608<c1\/c2<c1\/8388608<c2)),decide (¬(c1<IntKind.i64.wrap (IntKind.i64.wrap (c2-c1)*16))),decide (¬(c3<0\/1048576<c3\/c4<0\/65536<c4)),decide (¬(c5<0\/1048576<c5)),decide (¬(c6<1\/16777216<c6\/c7<1\/1048576<c7)),decide (¬(IntKind.i64.wrap (32000*c1)<IntKind.i64.wrap (c6*c0))),decide (¬(c8<0\/1048576<c8)),decide (¬(c9<1\/1000<c9\/c12<1\/1000<c12)),decide (¬(c10<(c2+c0-1)/c0\/c10<IntKind.i64.wrap (3*c3)\/16777216<c10)),decide (¬(c11<0\/1073741824<c11)),decide (¬(c13<1\/1048576<c13))]
def ruI:List Nat:=[185,187,188,189,190,191,192,193,194,195,197,198]
def ruR(c:List AV):List (List AV):=ruI.map λg=>[.func (.func g) [] [.cref c]]
def kYP:List Bool->Int->Int
 | [],_=>0
 | b::l,k=>if b=true then kYP l (k+1) else k
section
variable (c0 c1 c2 c3 c4 c5 c6 c7 c8 c9 c10 c11 c12 c13:Int)
theorem kWQ(o:Bool)(ho:o=decide (¬(c0<1\/1024<c0))):k02 Tryz.prog 185 [.cref (cfL c0 c1 c2 c3 c4 c5 c6 c7 c8 c9 c10 c11 c12 c13)] (· = .bool o):=by
 have w0:=k2B c0 1 1024 o (by rw[ho];apply decide_eq_decide.2;omega);refine Z.y Tryz.func185 λ_ _ _ _ _ _ _ _ _ _ _ _ _ hz R hR P hP=>?_;cbv;repeat' (first|(refine Call.s hP w0 ?_;cbv)|fail)
 exact Z.r hR
theorem kWP(o:Bool)(ho:o=decide (¬(c1<131072\/8388608<c1\/c2<c1\/8388608<c2))):k02 Tryz.prog 187 [.cref (cfL c0 c1 c2 c3 c4 c5 c6 c7 c8 c9 c10 c11 c12 c13)] (· = .bool o):=by
 obtain⟨b0,e0⟩:=Z.e (decide (131072<=c1/\c1<=8388608));obtain⟨b1,e1⟩:=Z.e (decide (c1<=c2/\c2<=8388608));have w0:=k2B c1 131072 8388608 b0 e0;have w1:=k2B c2 c1 8388608 b1 e1;obtain rfl:o=(b0 && b1):=by rw[ho,e0,e1,<- Bool.decide_and];apply decide_eq_decide.2;omega
 clear ho e0 e1
 cases b0<;>(
  refine Z.y Tryz.func187 λ_ _ _ _ _ _ _ _ _ _ _ _ _ hz R hR P hP=>?_;cbv;repeat' (first|(refine Call.s hP w0 ?_;cbv)|(refine Call.s hP w1 ?_;cbv)|fail)
  exact Z.r hR)
theorem kWO(o:Bool)(ho:o=decide (¬(c1<IntKind.i64.wrap (IntKind.i64.wrap (c2-c1)*16)))):k02 Tryz.prog 188 [.cref (cfL c0 c1 c2 c3 c4 c5 c6 c7 c8 c9 c10 c11 c12 c13)] (· = .bool o):=by
 have f:decide (IntKind.i64.wrap (16*IntKind.i64.wrap (c2-c1))<=c1)=o:=by rw[ho,Int.mul_comm];apply decide_eq_decide.2;omega
 clear ho;refine Z.y Tryz.func188 λzA zG _ _ _ _ _ zC zB _ _ _ _ hz R hR P hP=>?_;cbv;have v:zG .leq (zA .mul .i64 16 (zA .sub .i64 c2 c1)) c1=o:=by rw[zB,zC];exact f
 simp only[v];exact Z.r hR
theorem kWN(o:Bool)(ho:o=decide (¬(c3<0\/1048576<c3\/c4<0\/65536<c4))):k02 Tryz.prog 189 [.cref (cfL c0 c1 c2 c3 c4 c5 c6 c7 c8 c9 c10 c11 c12 c13)] (· = .bool o):=by
 obtain⟨b0,e0⟩:=Z.e (decide (0<=c3/\c3<=1048576));obtain⟨b1,e1⟩:=Z.e (decide (0<=c4/\c4<=65536));have w0:=k2B c3 0 1048576 b0 e0;have w1:=k2B c4 0 65536 b1 e1;obtain rfl:o=(b0 && b1):=by rw[ho,e0,e1,<- Bool.decide_and];apply decide_eq_decide.2;omega
 clear ho e0 e1
 cases b0<;>(
  refine Z.y Tryz.func189 λ_ _ _ _ _ _ _ _ _ _ _ _ _ hz R hR P hP=>?_;cbv;repeat' (first|(refine Call.s hP w0 ?_;cbv)|(refine Call.s hP w1 ?_;cbv)|fail)
  exact Z.r hR)
theorem kWM(o:Bool)(ho:o=decide (¬(c5<0\/1048576<c5))):k02 Tryz.prog 190 [.cref (cfL c0 c1 c2 c3 c4 c5 c6 c7 c8 c9 c10 c11 c12 c13)] (· = .bool o):=by
 have w0:=k2B c5 0 1048576 o (by rw[ho];apply decide_eq_decide.2;omega);refine Z.y Tryz.func190 λ_ _ _ _ _ _ _ _ _ _ _ _ _ hz R hR P hP=>?_;cbv;repeat' (first|(refine Call.s hP w0 ?_;cbv)|fail)
 exact Z.r hR
theorem kWL(o:Bool)(ho:o=decide (¬(c6<1\/16777216<c6\/c7<1\/1048576<c7))):k02 Tryz.prog 191 [.cref (cfL c0 c1 c2 c3 c4 c5 c6 c7 c8 c9 c10 c11 c12 c13)] (· = .bool o):=by
 obtain⟨b0,e0⟩:=Z.e (decide (1<=c6/\c6<=16777216));obtain⟨b1,e1⟩:=Z.e (decide (1<=c7/\c7<=1048576));have w0:=k2B c6 1 16777216 b0 e0;have w1:=k2B c7 1 1048576 b1 e1;obtain rfl:o=(b0 && b1):=by rw[ho,e0,e1,<- Bool.decide_and];apply decide_eq_decide.2;omega
 clear ho e0 e1
 cases b0<;>(
  refine Z.y Tryz.func191 λ_ _ _ _ _ _ _ _ _ _ _ _ _ hz R hR P hP=>?_;cbv;repeat' (first|(refine Call.s hP w0 ?_;cbv)|(refine Call.s hP w1 ?_;cbv)|fail)
  exact Z.r hR)
theorem kWK(o:Bool)(ho:o=decide (¬(IntKind.i64.wrap (32000*c1)<IntKind.i64.wrap (c6*c0)))):k02 Tryz.prog 192 [.cref (cfL c0 c1 c2 c3 c4 c5 c6 c7 c8 c9 c10 c11 c12 c13)] (· = .bool o):=by
 have f:decide (IntKind.i64.wrap (c6*c0)<=IntKind.i64.wrap (32000*c1))=o:=by rw[ho];apply decide_eq_decide.2;omega
 clear ho;refine Z.y Tryz.func192 λzA zG _ _ _ _ _ zC zB _ _ _ _ hz R hR P hP=>?_;cbv;have v:zG .leq (zA .mul .i64 c6 c0) (zA .mul .i64 32000 c1)=o:=by rw[zB,zC];exact f
 simp only[v];exact Z.r hR
theorem kWJ(o:Bool)(ho:o=decide (¬(c8<0\/1048576<c8))):k02 Tryz.prog 193 [.cref (cfL c0 c1 c2 c3 c4 c5 c6 c7 c8 c9 c10 c11 c12 c13)] (· = .bool o):=by
 have w0:=k2B c8 0 1048576 o (by rw[ho];apply decide_eq_decide.2;omega);refine Z.y Tryz.func193 λ_ _ _ _ _ _ _ _ _ _ _ _ _ hz R hR P hP=>?_;cbv;repeat' (first|(refine Call.s hP w0 ?_;cbv)|fail)
 exact Z.r hR
theorem kWI(o:Bool)(ho:o=decide (¬(c9<1\/1000<c9\/c12<1\/1000<c12))):k02 Tryz.prog 194 [.cref (cfL c0 c1 c2 c3 c4 c5 c6 c7 c8 c9 c10 c11 c12 c13)] (· = .bool o):=by
 obtain⟨b0,e0⟩:=Z.e (decide (1<=c9/\c9<=1000));obtain⟨b1,e1⟩:=Z.e (decide (1<=c12/\c12<=1000));have w0:=k2B c9 1 1000 b0 e0;have w1:=k2B c12 1 1000 b1 e1;obtain rfl:o=(b0 && b1):=by rw[ho,e0,e1,<- Bool.decide_and];apply decide_eq_decide.2;omega
 clear ho e0 e1
 cases b0<;>(
  refine Z.y Tryz.func194 λ_ _ _ _ _ _ _ _ _ _ _ _ _ hz R hR P hP=>?_;cbv;repeat' (first|(refine Call.s hP w0 ?_;cbv)|(refine Call.s hP w1 ?_;cbv)|fail)
  exact Z.r hR)
theorem kRR(h0:1<=c0)(h1:c0<=1024)(h2:0<=c2)(h3:c2<=8388608)(o:Bool)(ho:o=decide (¬(c10<(c2+c0-1)/c0\/c10<IntKind.i64.wrap (3*c3)\/16777216<c10))):k02 Tryz.prog 195 [.cref (cfL c0 c1 c2 c3 c4 c5 c6 c7 c8 c9 c10 c11 c12 c13)] (· = .bool o):=by
 obtain⟨p,ep⟩:∃p,p=(c2+c0-1)/c0:=⟨_,rfl⟩;obtain⟨t,et⟩:=Z.e (IntKind.i64.wrap (3*c3));obtain⟨m,em⟩:=Z.e (k0M true p t);have q1:=kWX c0 c1 c2 c3 c4 c5 c6 c7 c8 c9 c10 c11 c12 c13 p h0 h1 h2 h3 ep;rw[<- ep,<- et] at ho;have hm:m=max p t:=by rw[em];unfold k0M;simp;omega
 have q2:=k2B c10 m 16777216 o (by rw[ho];apply decide_eq_decide.2;omega);clear ho ep hm;(refine k02.ofY Tryz.func195 (by kernel_rfl) (by kernel_rfl) (Z.w λzA _ _ _ _ _ yR _ _ _ _ _ _ _ _ _ _ _ _ _ _ zC _ _ _ _ _ yU _ _ _ _ _ _ _ _ _ _ _ _ _ hz R hR=>?_));(conv=>arg 2;cbv);(generalize hP:Tryz.prog=P);cbv;have v1:zA .mul .i64 3 c3=t:=by rw[zC];exact et.symm
 have v2:yR true p t=m:=by rw[yU];exact em.symm
 repeat' (first
  | (refine k1R.stepE (by rw[<- hP];exact q1) rfl ?_;cbv)
  | (simp only[v1];cbv)
  | (simp only[v1])
  | (simp only[v2])
  | (refine Call.stepE (by rw[<- hP];exact q2) rfl ?_;cbv)
  | (refine k1R.stepE (by rw[<- hP];exact q2) rfl ?_;cbv)
  | fail)
 exact Z.r hR
theorem kRQ(o:Bool)(ho:o=decide (¬(c11<0\/1073741824<c11))):k02 Tryz.prog 197 [.cref (cfL c0 c1 c2 c3 c4 c5 c6 c7 c8 c9 c10 c11 c12 c13)] (· = .bool o):=by
 have w0:=k2B c11 0 1073741824 o (by rw[ho];apply decide_eq_decide.2;omega);refine Z.y Tryz.func197 λ_ _ _ _ _ _ _ _ _ _ _ _ _ hz R hR P hP=>?_;cbv;repeat' (first|(refine Call.s hP w0 ?_;cbv)|fail)
 exact Z.r hR
theorem kRP(o:Bool)(ho:o=decide (¬(c13<1\/1048576<c13))):k02 Tryz.prog 198 [.cref (cfL c0 c1 c2 c3 c4 c5 c6 c7 c8 c9 c10 c11 c12 c13)] (· = .bool o):=by
 have w0:=k2B c13 1 1048576 o (by rw[ho];apply decide_eq_decide.2;omega);refine Z.y Tryz.func198 λ_ _ _ _ _ _ _ _ _ _ _ _ _ hz R hR P hP=>?_;cbv;repeat' (first|(refine Call.s hP w0 ?_;cbv)|fail)
 exact Z.r hR
theorem kWH:k02 Tryz.prog 135 [.agg (cfL c0 c1 c2 c3 c4 c5 c6 c7 c8 c9 c10 c11 c12 c13)] (· = .list 1 (ruR (cfL c0 c1 c2 c3 c4 c5 c6 c7 c8 c9 c10 c11 c12 c13))):=by
 refine Z.y Tryz.func135 λ_ _ _ _ _ _ _ _ _ _ _ _ _ hz R hR P hP=>?_;cbv;refine⟨_,Vw.rows (rs:=ruR (cfL c0 c1 c2 c3 c4 c5 c6 c7 c8 c9 c10 c11 c12 c13)) rfl (λr hr=>?_) λi r hi=>?_,hR _ rfl⟩
 ·obtain⟨g,_,rfl⟩:=List.mem_map.1 hr
  rfl
 ·have hir:=(List.getElem?_eq_some_iff.1 hi).1
  simp only[ruR,ruI,List.map_cons,List.map_nil,List.length_cons,List.length_nil] at hir;have hi':i=0\/i=1\/i=2\/i=3\/i=4\/i=5\/i=6\/i=7\/i=8\/i=9\/i=10\/i=11:=(by omega);rcases hi' with rfl|rfl|rfl|rfl|rfl|rfl|rfl|rfl|rfl|rfl|rfl|rfl
  all_goals
   simp only[ruR,ruI,List.map_cons,List.getElem?_cons_zero,List.getElem?_cons_succ,Option.some.injEq] at hi;subst hi;exact⟨_,rfl,⟨Vw.func trivial ⟨Vw.ref (es:=[cfL c0 c1 c2 c3 c4 c5 c6 c7 c8 c9 c10 c11 c12 c13]) (row:=cfL c0 c1 c2 c3 c4 c5 c6 c7 c8 c9 c10 c11 c12 c13) rfl rfl rfl (Nat.zero_le _) Z.d,trivial⟩,trivial⟩⟩
theorem ruAt(i:Nat)(g:Nat)(o:Bool)(hg:ruI[i]?=some g)(ho:(ruO c0 c1 c2 c3 c4 c5 c6 c7 c8 c9 c10 c11 c12 c13)[i]?=some o)(hp:∀j,j<i->(ruO c0 c1 c2 c3 c4 c5 c6 c7 c8 c9 c10 c11 c12 c13)[j]?=some true):k02 Tryz.prog g [.cref (cfL c0 c1 c2 c3 c4 c5 c6 c7 c8 c9 c10 c11 c12 c13)] (· = .bool o):=by
 have hi:i<12:=(List.getElem?_eq_some_iff.1 hg).1;have hi':i=0\/i=1\/i=2\/i=3\/i=4\/i=5\/i=6\/i=7\/i=8\/i=9\/i=10\/i=11:=by omega
 rcases hi' with rfl|rfl|rfl|rfl|rfl|rfl|rfl|rfl|rfl|rfl|rfl|rfl<;>obtain rfl:=Option.some.inj (show some _=some g from hg)<;>have ho:=(Option.some.inj (show some _=some o from ho)).symm
 ·exact kWQ c0 c1 c2 c3 c4 c5 c6 c7 c8 c9 c10 c11 c12 c13 o ho
 ·exact kWP c0 c1 c2 c3 c4 c5 c6 c7 c8 c9 c10 c11 c12 c13 o ho
 ·exact kWO c0 c1 c2 c3 c4 c5 c6 c7 c8 c9 c10 c11 c12 c13 o ho
 ·exact kWN c0 c1 c2 c3 c4 c5 c6 c7 c8 c9 c10 c11 c12 c13 o ho
 ·exact kWM c0 c1 c2 c3 c4 c5 c6 c7 c8 c9 c10 c11 c12 c13 o ho
 ·exact kWL c0 c1 c2 c3 c4 c5 c6 c7 c8 c9 c10 c11 c12 c13 o ho
 ·exact kWK c0 c1 c2 c3 c4 c5 c6 c7 c8 c9 c10 c11 c12 c13 o ho
 ·exact kWJ c0 c1 c2 c3 c4 c5 c6 c7 c8 c9 c10 c11 c12 c13 o ho
 ·exact kWI c0 c1 c2 c3 c4 c5 c6 c7 c8 c9 c10 c11 c12 c13 o ho
 ·have h1:=of_decide_eq_true (Option.some.inj (show some (decide _)=some true from hp 0 Z.d))
  have h2:=of_decide_eq_true (Option.some.inj (show some (decide _)=some true from hp 1 Z.d));exact kRR c0 c1 c2 c3 c4 c5 c6 c7 c8 c9 c10 c11 c12 c13 Z.o Z.o Z.o Z.o o ho
 ·exact kRQ c0 c1 c2 c3 c4 c5 c6 c7 c8 c9 c10 c11 c12 c13 o ho
 ·exact kRP c0 c1 c2 c3 c4 c5 c6 c7 c8 c9 c10 c11 c12 c13 o ho
theorem firW:k9I c0 c1 c2 c3 c4 c5 c6 c7 c8 c9 c10 c11 c12 c13=kYP (ruO c0 c1 c2 c3 c4 c5 c6 c7 c8 c9 c10 c11 c12 c13) 1:=by
 simp only[k9I,kYP,ruO,decide_eq_true_eq,ite_not];rfl
theorem kXQ(w:Int)(hw0:w=k9I c0 c1 c2 c3 c4 c5 c6 c7 c8 c9 c10 c11 c12 c13)(e:Int)(he:e=if w=0 then 0 else 50):k02 Tryz.prog 80 [.agg [c0,c1,c2,c3,c4,c5,c6,c7,c8,c9,c10,c11,c12,c13]] (· = .tuple [e,w]):=by
 have q0:=kWH c0 c1 c2 c3 c4 c5 c6 c7 c8 c9 c10 c11 c12 c13;have qa:=ruAt c0 c1 c2 c3 c4 c5 c6 c7 c8 c9 c10 c11 c12 c13;rw[firW] at hw0;obtain⟨O,eO⟩:=Z.e (ruO c0 c1 c2 c3 c4 c5 c6 c7 c8 c9 c10 c11 c12 c13);rw[<- eO] at hw0;simp only[<- eO] at qa;have hO:O.length=12:=by rw[eO];rfl
 obtain⟨RL,eRL⟩:=Z.e (ruR (cfL c0 c1 c2 c3 c4 c5 c6 c7 c8 c9 c10 c11 c12 c13));rw[<- eRL] at q0;clear eO;refine Z.y Tryz.func80 λzA _ _ _ zF zV hw zC zB _ _ zI zE hz R hR P hP=>?_;cbv;refine Call.stepE (by rw[<- hP];exact q0) rfl ?_;have l12:zV RL=12:=by rw[zE,eRL];rfl
 cbv;simp only[l12];have huR:Up0 RL:=by rw[eRL];exact⟨rfl⟩
 refine k1Q.data hw (S:=Int) (λi=>fr 20 [(2,jz 0),(3,jz 0),(7,.list 1 RL),(8,jz 12),(9,i)]) (λ_=>[]) (λi=>0<=i/\i<=12/\w=kYP (O.drop i.toNat) (i+1)/\∀j,j<i.toNat->O[j]?=some true) (λi=>(12-i).toNat) 0 Z.i ⟨Int.le_refl _,by decide,by simpa using hw0,λj hj=>by simp at hj⟩ ?_;rintro i zJ Q' hN hE hR';have zJ:0<=i/\i<=12/\w=kYP (O.drop i.toNat) (i+1)/\∀j,j<i.toNat->O[j]?=some true:=zJ;obtain⟨yJ,yZ,hwf,hpr⟩:=zJ;have nt:zF true=false:=by rw[zI];rfl
 have nf:zF false=true:=by rw[zI];rfl
 by_cases yH:i<12
 ·obtain⟨g,hg⟩:∃g,ruI[i.toNat]?=some g:=⟨_,List.getElem?_eq_getElem (show i.toNat<12 by omega)⟩
  obtain⟨o,ho⟩:∃o,O[i.toNat]?=some o:=⟨_,List.getElem?_eq_getElem (show i.toNat<O.length by omega)⟩;have q:=qa i.toNat g o hg ho hpr;have zL:RL[i.toNat]?=some [.func (.func g) [] [.cref (cfL c0 c1 c2 c3 c4 c5 c6 c7 c8 c9 c10 c11 c12 c13)]]:=(by rw[eRL];simp only[ruR,List.getElem?_map,hg,Option.map_some]);unfold cfL at q zL;obtain⟨i2,ei2⟩:=Z.e (i+1);have a4:zA .add .i64 i 1=i2:=(by rw[zC,k0S Z.o Z.o,ei2]);have ck:=W.lt zB yH;have hT:(12-i2).toNat<(12-i).toNat:=by omega
  have hdr:O.drop i.toNat=o::O.drop i2.toNat:=by
   have h1:=(List.getElem?_eq_some_iff.1 ho);rw[List.drop_eq_getElem_cons h1.1,h1.2,show i2.toNat=i.toNat+1 by omega]
  rw[hdr] at hwf;clear hg hdr eRL q0 qa
  cases o with
  | false =>
    have hwi:w=i2:=(by rw[hwf,ei2];rfl);have hR1:R (.tuple [jz 50,i2]):=hR _ (by rw[he,if_neg Z.o,hwi]);clear he hwi hwf ho hpr;cbv;repeat' (first|(simp only[ck,nf,a4];cbv)|(refine Call.s hP q ?_;cbv)|(refine Idx.mk _ yJ zL ?_;cbv)|fail)
    exact hR' _ _ ⟨_,Vw.same rfl,hR1⟩
  | true =>
    have hwi:w=kYP (O.drop i2.toNat) (i2+1):=by rw[hwf,<- ei2];rfl
    have hp2:∀j,j<i2.toNat->O[j]?=some true:=λj hj=>by
     by_cases hji:j=i.toNat
     ·rw[hji];exact ho
     ·exact hpr j Z.o
    clear hwf ho hpr;cbv;repeat' (first|(simp only[ck,nt,a4];cbv)|(refine Call.s hP q ?_;cbv)|(refine Idx.mk _ yJ zL ?_;cbv)|fail)
    refine hN i2 _ _ ?_ ⟨by omega,by omega,hwi,hp2⟩ hT;exact Z.i
 ·have ck:=W.nlt zB (show 12<=i by omega)
  rw[List.drop_eq_nil_of_le Z.o] at hwf;have hR1:R (.tuple [jz 0,jz 0]):=hR _ (by rw[he,if_pos (by rw[hwf];rfl),hwf];rfl);clear hwf hpr he;cbv;repeat' (first|(simp only[ck];cbv)|fail)
  refine hE _ _ _ ?_;cbv;exact⟨_,Vw.same rfl,hR1⟩
end
def kSY(ss:List Sg)(gs:List Gr)(c6 c8:Int)(j:Nat):Prop:=
 ∀g,gs[j]?=some g->g.acc+c8+c6<=g.off/\∀s,ss[g.seg.toNat]?=some s->g.acc+c8+c6<=s.len-g.off
structure q1C(w c6 c8:Int)(ss:List Sg)(gs:List Gr):Prop where
 wr:w=0
 tr:k1I ss gs
 fit:∀j,j<gs.length->kSY ss gs c6 c8 j
theorem kWV(c0 c1 c2 c3 c4 c5 c6 c7 c8 c9 c10 c11 c12 c13 g1 g2 g3 g4 g5 v:Int)(h4:0<=g4/\g4<=1048576)(h8:0<=c8/\c8<=1048576)(h6:0<=c6/\c6<=16777216)(hv:v=g4+c8+c6):k02 Tryz.prog 81 [.agg [c0,c1,c2,c3,c4,c5,c6,c7,c8,c9,c10,c11,c12,c13],.agg [g1,g2,g3,g4,g5]] (· = jz v):=by
 obtain⟨x,ex⟩:=Z.e (g4+c8);refine Z.y Tryz.func81 λzA _ _ _ _ _ _ zC _ _ _ _ _ hz R hR P hP=>?_;cbv;have a1:zA .add .i64 g4 c8=x:=by rw[zC,k0S Z.o Z.o,ex]
 have a2:zA .add .i64 x c6=v:=by rw[zC,k0S Z.o Z.o];omega
 simp only[a1,a2];exact Z.r hR
theorem kXR(c0 c1 c2 c3 c4 c5 c6 c7 c8 c9 c10 c11 c12 c13:Int)(ss:List Sg)(gs:List Gr)(hsl:ss.length<=1000000)(hgl:gs.length<=1000000)(es ds:List (List AV))(zU:es=ss.map k0Y)(yG:ds=gs.map k14):k02 Tryz.prog 34 [.agg [c0,c1,c2,c3,c4,c5,c6,c7,c8,c9,c10,c11,c12,c13],.agg [.list 3 es,.list 5 ds]] (λr=>∃e i,r = .tuple [jz e,jz i]/\(e=0↔q1C (k9I c0 c1 c2 c3 c4 c5 c6 c7 c8 c9 c10 c11 c12 c13) c6 c8 ss gs)):=by
 have hu:Up0 es:=by rw[zU];exact k42 ss
 have hud:Up0 ds:=by rw[yG];exact k43 gs
 have hel:es.length=ss.length:=by rw[zU];simp
 have hdl:ds.length=gs.length:=by rw[yG];simp
 obtain⟨w,ew⟩:=Z.e (k9I c0 c1 c2 c3 c4 c5 c6 c7 c8 c9 c10 c11 c12 c13);obtain⟨ew0,eew⟩:∃e:Int,e=if w=0 then 0 else 50:=⟨_,rfl⟩
 have q1:=kXQ c0 c1 c2 c3 c4 c5 c6 c7 c8 c9 c10 c11 c12 c13 w ew ew0 eew;have hcf:w=0->k6S c0 c1 c2 c3 c4 c5 c6 c7 c8 c9 c10 c11 c12 c13:=λh=>kA0 (by rw[<- ew,h]);rw[<- ew];clear ew;by_cases hw0:w=0
 rotate_left 1
 ·rw[if_neg hw0] at eew
  subst eew;refine Z.y Tryz.func34 λ_ _ _ _ _ _ _ _ zB _ _ _ _ hz R hR P hP=>?_;cbv;have d1:=W.ne zB (show (50:Int)≠0 by decide);repeat' (first|(simp only[d1];cbv)|(refine Call.s hP q1 ?_;cbv)|fail)
  exact⟨_,Vw.same rfl,hR _ ⟨_,_,rfl,λh=>absurd h Z.d,λh=>absurd h.wr hw0⟩⟩
 rw[if_pos hw0] at eew;subst eew;have hCC:=hcf hw0;unfold k6S at hCC;have h6:0<=c6/\c6<=16777216:=by omega
 have h8:0<=c8/\c8<=1048576:=by omega
 clear hCC hcf
 have hseg:∀j:Nat,k1I ss gs->∀g,gs[j]?=some g->0<=g.seg/\g.seg.toNat<ss.length/\0<=g.off/\g.off<=1099511627776/\0<=g.acc/\g.acc<=1048576/\∀s,ss[g.seg.toNat]?=some s->g.off<=s.len/\s.len<=1099511627776:=λj hT g hg=>by
  obtain⟨k1,k2,k3,k4,k5,k6,k7,k8,k9,k10,k11⟩:=hT.grp j (List.getElem?_eq_some_iff.1 hg).1 g hg;have hs:=λs hs=>(hT.seg g.seg.toNat k4 s hs).le;obtain⟨s,hss⟩:∃s,ss[g.seg.toNat]?=some s:=⟨_,List.getElem?_eq_getElem k4⟩;exact⟨k3,k4,k5,by have:=k6 s hss;have:=hs s hss;omega,k7,k8,λs h=>⟨k6 s h,hs s h⟩⟩
 refine Z.y Tryz.func34 λzA _ _ _ _ _ hw zC zB _ _ _ zE hz R hR P hP=>?_;cbv;obtain⟨J,eJ,J0,Jn⟩:=Z.l zE ds;have d1:=W.nne zB (a:=0) rfl;repeat' (first|(simp only[d1];cbv)|(refine Call.s hP q1 ?_;cbv)|fail)
 refine Call.step (by rw[<- hP];exact kDJ ss gs hsl hgl es ds zU yG) Z.u ?_;rintro r ⟨e,i0,rfl,he⟩;cbv;by_cases he0:e=0
 rotate_left 1
 ·have d2:=W.ne zB he0
  simp only[d2];cbv;exact⟨_,Vw.same rfl,hR _ ⟨_,_,rfl,λh=>absurd h Z.d,λh=>absurd (he.2 h.tr) he0⟩⟩
 have hT:=he.1 he0;have d2:=W.nne zB he0;simp only[d2];cbv;simp only[eJ];refine k1Q.data hw (S:=Int) (λi=>fr 61 [(2,.ref 0 14 0 0),(3,.ref 1 2 0 0),(30,.list 5 ds),(31,J),(32,i)]) (λi=>[.live 14 [[c0,c1,c2,c3,c4,c5,c6,c7,c8,c9,c10,c11,c12,c13]],.live 2 [[.list 3 es,.list 5 ds]]]) (λi=>0<=i/\i<=J/\∀j,j<i.toNat->kSY ss gs c6 c8 j) (λi=>(J-i).toNat) 0 Z.i ⟨Int.le_refl _,J0,λj hj=>(by simp at hj)⟩ ?_;rintro i zJ Q' hN hE hR';have zJ:0<=i/\i<=J/\∀j,j<i.toNat->kSY ss gs c6 c8 j:=zJ;cbv;obtain⟨yJ,yZ,hl⟩:=zJ;(split<;>rename_i hc<;>(try (simp only[eJ] at hc))<;>(try (simp only[hz,Z.a,k05,k04,k08,k03,k0M,reduceCtorEq] at hc))<;>(try cbv))
 ·obtain⟨⟨g1,g2,g3,g4,g5⟩,hd,zL⟩:=k0V (f:=k14) (ds:=gs) (i:=i) yJ Z.o
  have zL:ds[i.toNat]?=some [jz g1,jz g2,jz g3,jz g4,jz g5]:=(by rw[yG];exact zL);obtain⟨k1,k2,k3,k4,k5,k6,k7⟩:=hseg i.toNat hT _ hd;simp only at k1 k2 k3 k4 k5 k6 k7;obtain⟨⟨len,ps,nx⟩,hs1,hs2⟩:=k0V (f:=k0Y) (ds:=ss) (i:=g2) k1 k2;obtain⟨q1,eq1⟩:=Z.f (ps.map k1E);obtain⟨m1,en1⟩:=Z.f (nx.map k0K);have hs2:es[g2.toNat]?=some [jz len,.list 2 q1,.list 1 m1]:=(by rw[zU,<- eq1,<- en1];exact hs2);obtain⟨k8,k9⟩:=k7 _ hs1;simp only at k8 k9;obtain⟨i',ei'⟩:=Z.f (i+1);have ei:zA .add .i64 i 1=i':=(by rw[zC,k0S Z.o Z.o];exact ei');have hT2:(J-i').toNat<(J-i).toNat:=(by omega);obtain⟨left,eleft⟩:=Z.e (len-g3);obtain⟨far,efar⟩:=Z.e (g4+c8+c6);have a1:zA .sub .i64 len g3=left:=(by rw[zC,k3I Z.o Z.o,eleft]);have q2:=kWV c0 c1 c2 c3 c4 c5 c6 c7 c8 c9 c10 c11 c12 c13 g1 g2 g3 g4 g5 far ⟨k5,k6⟩ h8 h6 efar
  have key:kSY ss gs c6 c8 i.toNat↔far<=g3/\far<=left:=by
   constructor
   ·intro h
    obtain⟨h1,h2⟩:=h _ hd;have:=h2 _ hs1;simp only at h1 this;omega
   ·rintro⟨h1,h2⟩ g hg
    rw[hd] at hg;obtain rfl:(⟨g1,g2,g3,g4,g5⟩:Gr)=g:=(by simpa using hg);refine⟨by simp only;omega,λs hs=>?_⟩;simp only at hs;rw[hs1] at hs;obtain rfl:(⟨len,ps,nx⟩:Sg)=s:=(by simpa using hs);simp only;omega
  have hgi:∀P:Nat->Prop,(∀j,j<i.toNat->P j)->P i.toNat->∀j,j<i'.toNat->P j:=λP h1 h2=>(by rw[<- ei'];exact k8U yJ h1 h2);have bad:¬(far<=g3/\far<=left)->R (.tuple [jz 11,i]):=λh=>hR _ ⟨_,_,rfl,λh0=>absurd h0 Z.d,λhM=>absurd (key.1 (hM.fit i.toNat Z.o)) h⟩;refine Idx.mk [jz g1,jz g2,jz g3,jz g4,jz g5] yJ zL ?_;cbv;refine Idx.mk _ k1 hs2 ?_;cbv;simp only[a1];repeat' (first|(refine Call.s hP q2 ?_;cbv)|fail)
  (split<;>rename_i h1<;>(try (simp only[hz,Z.a,k05,k04,k08,k03,k0M,reduceCtorEq] at h1))<;>(try cbv))
  ·exact hR' _ _ ⟨_,Vw.same rfl,bad Z.o⟩
  (split<;>rename_i h2<;>(try (simp only[hz,Z.a,k05,k04,k08,k03,k0M,reduceCtorEq] at h2))<;>(try cbv))
  ·exact hR' _ _ ⟨_,Vw.same rfl,bad Z.o⟩
  simp only[ei];refine hN i' _ _ ?hx ?hi hT2
  case hx=>exact Z.i
  case hi=>exact⟨by omega,by omega,hgi _ hl (key.2 ⟨by omega,by omega⟩)⟩
 ·refine hE _ _ _ ?_
  cbv;exact⟨_,Vw.same rfl,hR _ ⟨_,_,rfl,λ_=>⟨hw0,hT,λj hj=>hl j Z.o⟩,λ_=>rfl⟩⟩
end Go.Proofs.YtlchlddijclhjaaGreat
