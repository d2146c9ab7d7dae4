/- Parts of the proofs. -/
import Derived.KernelRfl
import Derived.Test.YtlchlddijclhjaaGreatR16
import Derived.Test.YtlchlddijclhjaaGreatR9
import Derived.Test.YtlchlddijclhjaaGreatR13
import Derived.Test.YtlchlddijclhjaaGreatR17
import Derived.Test.YtlchlddijclhjaaGreatR11
import Derived.Test.YtlchlddijclhjaaGreatRZ
set_option linter.unusedVariables false
set_option linter.unusedSimpArgs false
set_option maxHeartbeats 4000000
namespace Go.Proofs.YtlchlddijclhjaaGreat
open Go Go.RowKit Go.Eng
set_option maxRecDepth 100000
def nxF(ss:List Sg)(i:Nat):List Int:=match ss[i]? with|some s=>s.nx|none=>[]
def Bc(ss:List Sg)(i:Nat):Int:=match ss[i]? with|some s=>s.len|none=>1
theorem Oj{ss:List Sg}{gs:List Gr}(h:BN ss gs):∀i,i<ss.length->∀j,j∈nxF ss i->j.toNat<ss.length:=by
 intro i hi j hj;unfold nxF at hj;rw[List.getElem?_eq_getElem hi] at hj;obtain⟨k,hk⟩:=List.mem_iff_getElem?.1 hj;have:=(h.seg i hi ss[i] (List.getElem?_eq_getElem hi)).nx k (List.getElem?_eq_some_iff.1 hk).1 j hk;omega
theorem Ol{ss:List Sg}{gs:List Gr}(h:BN ss gs):∀i,i<ss.length->1<=Bc ss i:=by
 intro i hi;unfold Bc;rw[List.getElem?_eq_getElem hi];exact(h.seg i hi ss[i] (List.getElem?_eq_getElem hi)).pos
structure Own(n:Nat)(os:List (List AV))(f:Nat->Int):Prop where
 len:os.length=n
 at_:∀x,x<n->os[x]?=some [jz (f x)]
theorem Own.set{n:Nat}{os:List (List AV)}{f:Nat->Int}(h:Own n os f){i:Nat}(v:Int):Own n (os.set i [jz v]) (upd f i v):=by
 refine⟨by rw[List.length_set];exact h.len,λx hx=>?_⟩;unfold upd;by_cases wJ:x=i
 ·subst wJ
  rw[if_pos rfl,List.getElem?_set_self (by rw[h.len];exact hx)]
 ·rw[if_neg wJ,List.getElem?_set_ne (Ne.symm wJ)]
  exact h.at_ x hx
theorem Own.up{n:Nat}{os:List (List AV)}{f:Nat->Int}(h:Own n os f):Up0 os:=by
 have e:os=(List.range n).map λx=>[jz (f x)]:=by
  apply List.ext_getElem?;intro x;by_cases hx:x<n
  ·rw[h.at_ x hx,List.getElem?_map,List.getElem?_range hx];rfl
  ·rw[List.getElem?_eq_none (by rw[h.len];omega),List.getElem?_eq_none (by rw[List.length_map,List.length_range];omega)]
 rw[e];exact BM (f:=λx=>[jz (f x)]) (λd=>rfl) _
theorem Own.rep(n:Nat):Own n (List.replicate n [jz 0]) (λ_=>0):=⟨by simp,λx hx=>by simp[hx]⟩
theorem WI(ss:List Sg)(gs:List Gr)(es ds:List (List AV))(zQ:es=ss.map Ah)(zY:ds=gs.map Ak)(kU:BN ss gs):A9 Tryz.prog 36 [.agg [.list 3 es,.list 5 ds]] (λr=>∃os,r = .list 1 os/\Own ss.length os (J (nxF ss) (Bc ss) ss.length)):=by
 have hu:Up0 es:=by rw[zQ];exact Bu ss
 have lH:Up0 ds:=by rw[zY];exact Bv gs
 have uG:es.length=ss.length:=by rw[zQ];simp
 have yC:=Oj kU;have hL:=Ol kU;refine Z.y Tryz.func36 λzB _ _ _ _ _ hw zC _ yJ _ _ zH hz R hR P hP=>?_;cbv;obtain⟨L,eL,L0,Ln⟩:=Z.l zH es;simp only[eL];refine Mk.mk (List.replicate L.toNat [jz 0]) L.toNat L0 (Int.le_refl _) (by have:=kU.le;omega) (by have:=kU.le;omega) rfl rfl ?_;obtain⟨n,en⟩:=Z.f L.toNat;obtain⟨os,eos⟩:=Z.f (List.replicate L.toNat [jz 0]);have kV:Own n os (λ_=>0):=by rw[<- eos,en];exact Own.rep n
 rw[eos,en];clear eos;cbv;have nL:n=ss.length:=by omega
 have lY:=kV.up;refine Ae.data hw (S:=Int×List (List AV)) (λs=>fr 90 [(1,.ref 0 2 0 0),(3,.sl 1 1 0 n),(16,.list 3 es),(17,L),(18,s.1)]) (λs=>[.live 2 [[.list 3 es,.list 5 ds]],.live 1 s.2]) (λs=>0<=s.1/\s.1<=L/\Own n s.2 (λx=>if x<s.1.toNat then J (nxF ss) (Bc ss) 0 x else 0)) (λs=>(L-s.1).toNat) (0,os) Z.i ⟨Int.le_refl _,L0,by simpa using kV⟩ ?_
 rintro⟨i,os⟩ zJ Q' hN hE hR'
 have zJ:0<=i/\i<=L/\Own n os (λx=>if x<i.toNat then J (nxF ss) (Bc ss) 0 x else 0):=zJ;cbv;obtain⟨zW,yZ,kV⟩:=zJ;have lY:=kV.up;(split<;>rename_i hc<;>(try (simp only[eL] at hc))<;>(try (simp only[hz,Z.a,AF,AC,AO,AP,AL,reduceCtorEq] at hc))<;>(try cbv))
 ·obtain⟨⟨len,ps,nx⟩,hd,zL⟩:=BI (f:=Ah) (ds:=ss) (i:=i) zW Z.o
  obtain⟨q1,oW⟩:=Z.f (ps.map Ap);obtain⟨n1,lK⟩:=Z.f (nx.map Ac);have zL:es[i.toNat]?=some [jz len,.list 2 q1,.list 1 n1]:=(by rw[zQ,<- oW,<- lK];exact zL);have qW:n1.length=nx.length:=(by rw[<- lK];simp);obtain⟨K,eK,K0,Kn⟩:=Z.l zH n1;obtain⟨i',mq⟩:=Z.f (i+1);have ei:zB .add .i64 i 1=i':=(by rw[zC,Ag (by have:=kU.le;omega) (by have:=kU.le;omega)];exact mq);have hT:(L-i').toNat<(L-i).toNat:=(by omega);refine Idx.mk [jz len,.list 2 q1,.list 1 n1] zW zL ?_;cbv;obtain⟨k,ek⟩:=Z.f i.toNat;have hk:k<n:=(by omega);have ek':i'.toNat=k+1:=by omega
  have eJ:J (nxF ss) (Bc ss) 0 k=if nx.isEmpty then 0 else -1:=by
   unfold J nxF;rw[<- ek,hd]
  rw[ek] at kV;(split<;>rename_i h1<;>(try (simp only[eK] at h1))<;>(try (simp only[hz,Z.a,AF,AC,AO,AP,AL,reduceCtorEq] at h1))<;>(try cbv))
  ·refine At.mk k zW Z.o (by rw[Nat.zero_add];exact ek) ?_
   cbv;obtain⟨os',eos'⟩:=Z.f (os.set k [jz (-1)]);refine Ie.mk [jz 0] os' (by rw[kV.at_ k hk,if_neg (Nat.lt_irrefl _)]) eos'.symm ?_
   have vK:Own n os' (λx=>if x<i'.toNat then J (nxF ss) (Bc ss) 0 x else 0):=by
    rw[<- eos'];have:=kV.set (i:=k) (-1);refine⟨this.len,λx hx=>?_⟩;rw[this.at_ x hx,ek'];show some [jz (if x=k then -1 else if x<k then J (nxF ss) (Bc ss) 0 x else 0)]=_;by_cases hxk:x=k
    ·subst hxk
     have k0:0<n1.length:=(by rw[<- Kn];exact Int.pos_iff_toNat_pos.1 h1);have kv:nx.isEmpty=false:=(by cases nx with|nil=>exfalso;rw[qW] at k0;exact absurd k0 Z.d|cons a b=>rfl);rw[if_pos rfl,if_pos Z.o,eJ,kv];rfl
    ·rw[if_neg hxk]
     by_cases kS:x<k
     ·rw[if_pos kS,if_pos Z.o]
     ·rw[if_neg kS,if_neg Z.o]
   have huo':=vK.up;cbv;simp only[ei];refine hN (i',os') _ _ ?hx ?hi hT
   case hx=>exact Z.i
   case hi=>exact⟨by omega,by omega,vK⟩
  ·simp only[ei]
   refine hN (i',os) _ _ ?hx ?hi hT
   case hx=>exact Z.i
   case hi =>
    refine⟨by omega,by omega,kV.len,λx hx=>?_⟩;rw[kV.at_ x hx,ek'];show some [jz (if x<k then J (nxF ss) (Bc ss) 0 x else 0)]=_;by_cases hxk:x=k
    ·subst hxk
     have k0:n1.length=0:=(by rw[<- Kn];exact Int.toNat_eq_zero.2 h1);have kv:nx.isEmpty=true:=(by cases nx with|nil=>rfl|cons a b=>exfalso;rw[k0] at qW;cases qW);rw[if_neg (Nat.lt_irrefl _),if_pos Z.o,eJ,kv];rfl
    ·by_cases kS:x<k
     ·rw[if_pos kS,if_pos Z.o]
     ·rw[if_neg kS,if_neg Z.o]
 refine hE _ _ _ ?_;cbv;have kV:Own n os (J (nxF ss) (Bc ss) 0):=⟨kV.len,λx hx=>by rw[kV.at_ x hx,if_pos Z.o]⟩;have lY:=kV.up;clear hN hE hR' hc zW yZ;simp only[eL];obtain⟨f,ef⟩:=Z.f (J (nxF ss) (Bc ss) 0);have hG:=ZU yC hL (f:=f) (B:=0) (Int.le_refl _) (λx _=>by rw[ef]);rw[ef] at kV;rw[<- nL] at yC hL hG;have hn2:n<=200:=by have:=kU.le;omega
 have qi:∀j:Nat,j<n->Bc ss j<=1099511627776:=λj hj=>by
  have hj:j<ss.length:=(by omega);unfold Bc;rw[List.getElem?_eq_getElem hj];exact(kU.seg j hj ss[j] (List.getElem?_eq_getElem hj)).le
 refine Ae.data hw (S:=Int×List (List AV)) (λs=>fr 90 [(1,.ref 0 2 0 0),(3,.sl 1 1 0 n),(33,L),(34,s.1)]) (λs=>[.live 2 [[.list 3 es,.list 5 ds]],.live 1 s.2]) (λs=>0<=s.1/\s.1<=L/\∃f,Own n s.2 f/\Gr0 n (nxF ss) (Bc ss) s.1.toNat (s.1*439804651110400) f) (λs=>(L-s.1).toNat) (0,os) Z.i ⟨Int.le_refl _,L0,f,kV,by simpa using hG⟩ ?_;clear hG kV ef f
 rintro⟨r,os⟩ zJ Q' hN hE hR'
 have zJ:0<=r/\r<=L/\∃f,Own n os f/\Gr0 n (nxF ss) (Bc ss) r.toNat (r*439804651110400) f:=zJ;cbv;obtain⟨tu,xO,f,kV,hG⟩:=zJ;have lY:=kV.up;(split<;>rename_i hc<;>(try (simp only[eL] at hc))<;>(try (simp only[hz,Z.a,AF,AC,AO,AP,AL,reduceCtorEq] at hc))<;>(try cbv))
 ·simp only[eL]
  obtain⟨r',er'⟩:=Z.f (r+1);have er:zB .add .i64 r 1=r':=(by rw[zC,Ag Z.o Z.o];exact er');have hT:(L-r').toNat<(L-r).toNat:=(by omega);obtain⟨rn,ern⟩:=Z.f r.toNat;rw[ern] at hG;refine Ae.data hw (S:=Int×List (List AV)) (λs=>fr 90 [(1,.ref 0 2 0 0),(3,.sl 1 1 0 n),(33,L),(34,r),(37,.list 3 es),(38,L),(39,s.1)]) (λs=>[.live 2 [[.list 3 es,.list 5 ds]],.live 1 s.2]) (λs=>0<=s.1/\s.1<=L/\∃f,Own n s.2 f/\Gs n (nxF ss) (Bc ss) rn s.1.toNat 0 (r*439804651110400+s.1*2199023255552) f) (λs=>(L-s.1).toNat) (0,os) Z.i ⟨Int.le_refl _,L0,f,kV,by have:=ZV yC hL hG;simpa using this⟩ ?_;clear hG kV lY
  rintro⟨i,os⟩ zJ Q2 nS sO hR2
  have zJ:0<=i/\i<=L/\∃f,Own n os f/\Gs n (nxF ss) (Bc ss) rn i.toNat 0 (r*439804651110400+i*2199023255552) f:=zJ;cbv;obtain⟨zW,yZ,f,kV,hG⟩:=zJ;have lY:=kV.up;(split<;>rename_i lT<;>(try (simp only[hz,Z.a,AF,AC,AO,AP,AL,reduceCtorEq] at lT))<;>(try cbv))
  ·obtain⟨⟨len,ps,nx⟩,hd,zL⟩:=BI (f:=Ah) (ds:=ss) (i:=i) zW Z.o
   obtain⟨q1,oW⟩:=Z.f (ps.map Ap);obtain⟨n1,lK⟩:=Z.f (nx.map Ac);have zL:es[i.toNat]?=some [jz len,.list 2 q1,.list 1 n1]:=(by rw[zQ,<- oW,<- lK];exact zL);have yJ:Up0 n1:=(by rw[<- lK];exact CG nx);have qW:n1.length=nx.length:=(by rw[<- lK];simp);obtain⟨K,eK,K0,Kn⟩:=Z.l zH n1;obtain⟨i',mq⟩:=Z.f (i+1);have ei:zB .add .i64 i 1=i':=(by rw[zC,Ag Z.o Z.o];exact mq);have n_:(L-i').toNat<(L-i).toNat:=(by omega);obtain⟨m,em⟩:=Z.f i.toNat;have hm:m<n:=(by omega);have em':i'.toNat=m+1:=(by omega);have enx:nxF ss m=nx:=(by unfold nxF;rw[<- em,hd]);rw[em] at hG;have hK2:nx.length<=2:=(by rw[em] at hd;exact(kU.seg m Z.o _ hd).two);refine Idx.mk [jz len,.list 2 q1,.list 1 n1] zW zL ?_;cbv;simp only[eK];refine Ae.data hw (S:=Int×List (List AV)) (λs=>fr 90 [(1,.ref 0 2 0 0),(3,.sl 1 1 0 n),(6,i),(33,L),(34,r),(37,.list 3 es),(38,L),(39,i),(45,.list 1 n1),(46,K),(47,s.1)]) (λs=>[.live 2 [[.list 3 es,.list 5 ds]],.live 1 s.2]) (λs=>0<=s.1/\s.1<=K/\∃f,Own n s.2 f/\Gs n (nxF ss) (Bc ss) rn m s.1.toNat (r*439804651110400+i*2199023255552+s.1*1099511627776) f) (λs=>(K-s.1).toNat) (0,os) Z.i ⟨Int.le_refl _,K0,f,kV,by simpa using hG⟩ ?_;clear hG kV lY
   rintro⟨k,os⟩ zJ Q3 hN3 hE3 hR3
   have zJ:0<=k/\k<=K/\∃f,Own n os f/\Gs n (nxF ss) (Bc ss) rn m k.toNat (r*439804651110400+i*2199023255552+k*1099511627776) f:=zJ;cbv;obtain⟨oH,oU,f,kV,hG⟩:=zJ;have lY:=kV.up;(split<;>rename_i oI<;>(try (simp only[hz,Z.a,AF,AC,AO,AP,AL,reduceCtorEq] at oI))<;>(try cbv))
   ·obtain⟨j,hj,hjr⟩:=BI (f:=Ac) (ds:=nx) (i:=k) oH Z.o
    have hjr:n1[k.toNat]?=some [jz j]:=(by rw[<- lK];exact hjr);obtain⟨k',ek'⟩:=Z.f (k+1);have ekk:zB .add .i64 k 1=k':=(by rw[zC,Ag Z.o Z.o];exact ek');have pY:(K-k').toNat<(K-k).toNat:=(by omega);refine Idx.mk [jz j] oH hjr ?_;cbv;have wC:j∈nxF ss m:=by rw[enx];exact List.mem_of_getElem? hj
    have hjb:0<=j/\j<n:=by
     rw[em] at hd;have:=(kU.seg m Z.o _ hd).nx k.toNat (List.getElem?_eq_some_iff.1 hj).1 j hj;omega
    obtain⟨qI,wX⟩:=hjb;obtain⟨jn,ejn⟩:=Z.f j.toNat;have mr:jn<n:=(by omega);have hjz:0+j.toNat=jn:=(by rw[Nat.zero_add];exact ejn);have hmz:0+i.toNat=m:=(by rw[Nat.zero_add];exact em);have mD:i<n:=(by omega);obtain⟨⟨len2,ps2,nx2⟩,qD,yW⟩:=BI (f:=Ah) (ds:=ss) (i:=j) qI Z.o;obtain⟨q2,eq2⟩:=Z.f (ps2.map Ap);obtain⟨n2,pg⟩:=Z.f (nx2.map Ac);have yW:es[j.toNat]?=some [jz len2,.list 2 q2,.list 1 n2]:=(by rw[zQ,<- eq2,<- pg];exact yW);have el2:Bc ss jn=len2:=(by unfold Bc;rw[<- ejn,qD]);have wW:=hL jn mr;have hl2:=qi jn mr;rw[el2] at wW hl2;have hrj:=kV.at_ jn mr;have oG:=kV.at_ m hm;have hgj:=hG.ge jn mr;have zu:=hG.ge m hm;obtain⟨cj,ecj⟩:=Z.f (f jn);obtain⟨ci,eci⟩:=Z.f (f m);rw[ecj] at hrj hgj;rw[eci] at oG zu;obtain⟨fa,efa⟩:=Z.f (cj+len2);have efw:zB .add .i64 cj len2=fa:=(by rw[zC,Ag Z.o Z.o];exact efa);obtain⟨os',eos'⟩:=Z.f (os.set m [jz fa]);have vK:Own n os' (upd f m fa):=(by rw[<- eos'];exact kV.set fa);have huo':=vK.up;have ekn:k'.toNat=k.toNat+1:=by omega
    have hkey:∀g,(∀x,x<n->g x=if x=m then bst ci cj len2 else f x)->Gs n (nxF ss) (Bc ss) rn m k'.toNat (r*439804651110400+i*2199023255552+k'*1099511627776) g:=by
     intro g hg;rw[ekn];refine ZZ yC hL hm hG (j:=j) (by rw[enx];exact hj) (by rw[ejn,el2];omega) (by rw[ejn,el2];omega) λx hx=>?_;rw[hg x hx,ejn,el2,ecj,eci]
    repeat' (first
     | (simp only[efw,ekk];cbv)
     | (simp only[efw,ekk])
     | (refine At.mk jn qI wX hjz ?_;cbv)
     | (refine At.mk m zW mD hmz ?_;cbv)
     | (refine Ik.mk [jz cj] hrj ?_;cbv)
     | (refine Ik.mk [jz ci] oG ?_;cbv)
     | (refine Idx.mk [jz len2,.list 2 q2,.list 1 n2] qI yW ?_;cbv)
     | (refine Ie.mk [jz ci] os' oG eos'.symm ?_;cbv)
     | (split<;>rename_i h<;>(try (simp only[efw,ekk] at h))<;>(try (simp only[hz,Z.a,AF,AC,AO,AP,AL,reduceCtorEq] at h))<;>(try cbv)))
    all_goals first
     | (refine hN3 (k',os') _ _ ?hx ?hi pY
        case hx=>exact Z.i
        case hi =>
         refine⟨by omega,by omega,upd f m fa,vK,hkey _ λx hx=>?_⟩;unfold upd bst;split
         ·split<;>omega
         ·rfl)
     | (refine hN3 (k',os) _ _ ?hx ?hi pY
        case hx=>exact Z.i
        case hi =>
         refine⟨by omega,by omega,f,kV,hkey _ λx hx=>?_⟩;unfold bst;split
         ·rename_i e
          rw[e,eci];split<;>omega
         ·rfl)
   ·refine hE3 _ _ _ ?_
    cbv;simp only[ei]
    have hG':Gs n (nxF ss) (Bc ss) rn i'.toNat 0 (r*439804651110400+i'*2199023255552) f:=by
     have e1:k.toNat=(nxF ss m).length:=(by rw[enx];omega);rw[e1] at hG;rw[em'];have:=ZX yC hL hm hG;exact⟨this.lo,λx hx=>by have:=this.ge x hx;omega,this.old,this.new,this.at_⟩
    refine nS (i',os) _ _ ?hx ?hi n_
    case hx=>exact Z.i
    case hi=>exact⟨by omega,by omega,f,kV,hG'⟩
  ·refine sO _ _ _ ?_
   cbv;simp only[er];have eb:r*439804651110400+L*2199023255552<=r'*439804651110400:=by omega
   have hG':Gr0 n (nxF ss) (Bc ss) r'.toNat (r'*439804651110400) f:=by
    have e1:i.toNat=n:=(by omega);have e2:r'.toNat=rn+1:=(by omega);rw[e1] at hG;rw[e2];have:=ZW yC hL hG;exact⟨this.lo,λx hx=>by have:=this.ge x hx;omega,this.up⟩
   refine hN (r',os) _ _ ?hx ?hi hT
   case hx=>exact Z.i
   case hi=>exact⟨by omega,by omega,f,kV,hG'⟩
 ·refine hE _ _ _ ?_
  cbv;refine⟨_,Vw.sl (es:=os) rfl lY.get (by rw[kV.len];omega),hR _ ⟨os,?_,?_⟩⟩
  ·rw[List.drop_zero,List.take_of_length_le (by rw[kV.len];exact Nat.le_refl _)]
  ·have e1:r.toNat=n:=by omega
   rw[e1] at hG;rw[<- nL];exact⟨kV.len,λx hx=>by rw[kV.at_ x hx,Za yC hL hG hx]⟩
theorem Om{n:Nat}{nx:Nat->List Int}{L:Nat->Int}(yC:∀i,i<n->∀j,j∈nx i->j.toNat<n)(hL:∀i,i<n->1<=L i){M:Int}(hM:0<=M)(hl:∀j,j<n->L j<=M):∀(r:Nat) {i:Nat},i<n->J nx L r i<=r*M
 | 0,i,hi=>by unfold J;split<;>omega
 | r+1,i,hi=>by
   have e:((r+1:Nat):Int)*M=r*M+M:=(by rw[Int.natCast_add,Int.add_mul];simp);rw[e];rcases OQ (L:=L) (cur:=J nx L r) (l:=nx i) (b:=J nx L r i) with h|⟨j,h1,h2,h3⟩
   ·have:=Om yC hL hM hl r hi
    have h:J nx L (r+1) i=J nx L r i:=h;omega
   ·have hj:=yC i hi j h1
    have:=Om yC hL hM hl r hj;have h3:J nx L (r+1) i=J nx L r j.toNat+L j.toNat:=h3;have:=hl _ hj;omega
theorem Sa{ss:List Sg}{gs:List Gr}(h:BN ss gs)(x:Nat)(hx:x<ss.length): -1<=J (nxF ss) (Bc ss) ss.length x/\J (nxF ss) (Bc ss) ss.length x<=1125899906842624:=by
 refine⟨JX (Oj h) (Ol h) _ hx,?_⟩
 have h1:=Om (Oj h) (Ol h) (M:=1099511627776) Z.d (λj hj=>by
  unfold Bc;rw[List.getElem?_eq_getElem hj];exact(h.seg j hj ss[j] (List.getElem?_eq_getElem hj)).le) ss.length hx
 have h2:=h.le;have h3:(ss.length:Int)*1099511627776<=200*1099511627776:=Int.mul_le_mul_of_nonneg_right Z.o Z.d;omega
def F8(x y:Int):Int:=if x<y then -1 else if y<x then 1 else 0
theorem iO(x y:Int):A9 Tryz.prog 158 [x,y] (· = jz (F8 x y)):=by
 have n1:∀a:Int,A9 Tryz.prog 213 [a] (· = .bool false):=by
  intro a;refine Z.y Tryz.func213 λ_ _ _ _ _ _ _ _ zA _ _ _ _ hz R hR P hP=>?_;cbv;refine⟨_,Vw.same rfl,hR _ ?_⟩;show AV.bool _=AV.bool false;rw[zA];simp[AC]
 refine Z.y Tryz.func158 λ_ _ _ _ _ _ _ _ _ _ _ _ _ hz R hR P hP=>?_;cbv;refine Call.stepE (by rw[<- hP];exact n1 x) rfl ?_;cbv;refine Call.stepE (by rw[<- hP];exact n1 y) rfl ?_;cbv;repeat' (split<;>rename_i h<;>(try (simp only[hz,Z.a,AF,AC,AO,AP,AL,reduceCtorEq] at h))<;>(try cbv))
 all_goals
  refine⟨_,Vw.same rfl,hR _ ?_⟩;show jz _=jz _;unfold F8
  first
   | rw[if_pos Z.m]
   | rw[if_neg Z.o,if_pos Z.o]
   | rw[if_neg Z.o,if_neg Z.o]
theorem half(s:Int)(h0:0<=s)(h1:s<9223372036854775808):IntKind.i64.wrap (AF .shr .u64 (IntKind.u64.wrap s) 1)=s/2:=by
 have e1:IntKind.u64.wrap s=s:=by
  simp only[IntKind.wrap,IntKind.bits,IntKind.signed];simp;omega
 rw[e1]
 have e2:AF .shr .u64 s 1=s/2:=by
  show s.fdiv (2 ^ (min (1:Int).toNat 64))=_;rw[Int.fdiv_eq_ediv_of_nonneg _ Z.d];rfl
 rw[e2,IntKind.wrap_i64];omega
structure J3{D:Type}(ds:List D)(key:D->Int)(t:Int)(i:Int)(f:Bool):Prop where
 i0:0<=i
 i1:i.toNat<=ds.length
 yes:f=true->∃d,ds[i.toNat]?=some d/\key d=t
 no:f=false->∀d,d∈ds->key d≠t
theorem iP{D:Type}(row:D->List AV)(key:D->Int)(zL:∀d,(row d).length=5/\Af 0 (row d)=true)(F:Nat)(ds:List D)(t:Int)(hF:∀d,d∈ds->∀rw,row d=rw->A9 Tryz.prog F [.agg rw,t] (· = jz (F8 (key d) t)))
 (hs:∀(i j:Nat) (a b:D),i<j->ds[i]?=some a->ds[j]?=some b->key a<key b) (hn:ds.length<=1000000) (ps:List (List AV)) (rq:ps=ds.map row) :
 A9 Tryz.prog 156 [.list 5 ps,t,.func (.func F) [] []] (λr=>∃i f,r = .tuple [jz i,.bool f]/\J3 ds key t i f):=by
 have hu:Up0 ps:=by rw[rq];exact BM (f:=row) (λd=>(zL d).2) ds
 have oQ:ps.length=ds.length:=by rw[rq];simp
 have five:∀d,∃a b c x0 x1,row d=[a,b,c,x0,x1]:=by
  intro d;have h:=(zL d).1
  match row d,h with
  | [a,b,c,x0,x1],_=>exact⟨a,b,c,x0,x1,rfl⟩
 refine Z.y Tryz.func156 λzB _ _ zD _ _ hw zC zA _ zG _ zH hz R hR P hP=>?_;cbv;obtain⟨L,eL,L0,Ln⟩:=Z.l zH ps;simp only[eL]
 refine Ae.data hw (S:=Int×Int) (λs=>fr 49 [(0,.list 5 ps),(1,t),(2,.func (.func F) [] []),(8,L),(9,s.1),(10,s.2)]) (λs=>[])
  (λs=>0<=s.1/\s.1<=s.2/\s.2<=L/\(∀k d,k<s.1.toNat->ds[k]?=some d->key d<t)/\(∀k d,s.2.toNat<=k->ds[k]?=some d->t<=key d)) (λs=>(s.2-s.1).toNat) (0,L) Z.i
  ⟨Int.le_refl _,L0,Int.le_refl _,λk d hk=>(by simp at hk),λk d hk hd=>(by have h1:=(List.getElem?_eq_some_iff.1 hd).1;have h2:L.toNat<=k:=hk;omega)⟩ ?_
 rintro⟨i,j⟩ zJ Q' hN hE hR'
 have zJ:0<=i/\i<=j/\j<=L/\(∀k d,k<i.toNat->ds[k]?=some d->key d<t)/\(∀k d,j.toNat<=k->ds[k]?=some d->t<=key d):=zJ;cbv;obtain⟨zW,mI,hjL,zn,nJ⟩:=zJ;(split<;>rename_i hc<;>(try (simp only[hz,Z.a,AF,AC,AO,AP,AL,reduceCtorEq] at hc))<;>(try cbv))
 ·obtain⟨h,eh⟩:∃x,(i+j)/2=x:=⟨_,rfl⟩
  have eij:zB .add .i64 i j=i+j:=by rw[zC,Ag Z.o Z.o]
  have e1:zD .i64 (zB .shr .u64 (zD .u64 (zB .add .i64 i j)) 1)=h:=by
   rw[eij,zG,zC];exact(half (i+j) Z.o Z.o).trans eh
  refine Nn.mk Z.d ?_;cbv;simp only[e1];obtain⟨d,hd,hr⟩:=BI (f:=row) (ds:=ds) (i:=h) Z.o Z.o;rw[<- rq] at hr;obtain⟨a,b,c,x0,x1,erow⟩:=five d;have bY:=hF d (List.mem_of_getElem? hd) _ erow;have vB:=(zL d).2;rw[erow] at hr vB;refine Idx.mk _ Z.o hr ?_;cbv;refine Call.stepE (by rw[<- hP];exact bY) (by exact Bool.and_eq_true_iff.mpr ⟨vB,rfl⟩) ?_;obtain⟨cv,ecv⟩:=Z.f (F8 (key d) t);rw[ecv];cbv;obtain⟨h',xu⟩:=Z.f (h+1);have ehh:zB .add .i64 h 1=h':=(by rw[zC,Ag Z.o Z.o];exact xu);(split<;>rename_i lT<;>(try (simp only[hz,Z.a,AF,AC,AO,AP,AL,reduceCtorEq] at lT))<;>(try cbv))
  ·have kS:key d<t:=by unfold F8 at ecv;split at ecv<;>(try split at ecv)<;>omega
   refine hN (h',j) _ _ ?hx ?hI (show (j-h').toNat<(j-i).toNat by omega)
   case hx=>exact Z.i
   case hI =>
    refine⟨(show 0<=h' by omega),(show h'<=j by omega),hjL,λk d' hk hd'=>?_,nJ⟩;have hk:k<h'.toNat:=hk;by_cases hkh:k=h.toNat
    ·subst hkh;rw[hd] at hd';cases hd';exact kS
    ·have:=hs k h.toNat d' d Z.o hd' hd;omega
  ·have pQ:t<=key d:=by unfold F8 at ecv;split at ecv<;>(try split at ecv)<;>omega
   refine hN (i,h) _ _ ?hx ?hI (show (h-i).toNat<(j-i).toNat by omega)
   case hx=>exact Z.i
   case hI =>
    refine⟨zW,(show i<=h by omega),(show h<=L by omega),zn,λk d' hk hd'=>?_⟩;have hk:h.toNat<=k:=hk;by_cases hkh:k=h.toNat
    ·subst hkh;rw[hd] at hd';cases hd';exact pQ
    ·have:=hs h.toNat k d d' Z.o hd hd';omega
 ·refine hE _ _ _ ?_
  cbv;obtain rfl:i=j:=(by omega);(split<;>rename_i lT<;>(try (simp only[hz,Z.a,AF,AC,AO,AP,AL,reduceCtorEq] at lT))<;>(try cbv))
  ·obtain⟨d,hd,hr⟩:=BI (f:=row) (ds:=ds) (i:=i) Z.o Z.o
   rw[<- rq] at hr;obtain⟨a,b,c,x0,x1,erow⟩:=five d;have bY:=hF d (List.mem_of_getElem? hd) _ erow;have vB:=(zL d).2;rw[erow] at hr vB;refine Idx.mk _ Z.o hr ?_;cbv;refine Call.stepE (by rw[<- hP];exact bY) (by exact Bool.and_eq_true_iff.mpr ⟨vB,rfl⟩) ?_;obtain⟨cv,ecv⟩:=Z.f (F8 (key d) t);rw[ecv];cbv;refine⟨_,Vw.same rfl,hR _ ⟨i,_,rfl,zW,by omega,λhf=>⟨d,hd,?_⟩,λhf d' hd'=>?_⟩⟩
   ·rw[zA] at hf
    have hf:cv=0:=(by simpa[AC] using hf);unfold F8 at ecv;split at ecv<;>(try split at ecv)<;>omega
   ·rw[zA] at hf
    have hf:cv≠0:=(by simpa[AC] using hf);have kv:key d≠t:=(by unfold F8 at ecv;split at ecv<;>(try split at ecv)<;>omega);obtain⟨k,hk⟩:=List.mem_iff_getElem?.1 hd';by_cases hki:k<i.toNat
    ·have:=zn k d' hki hk;omega
    ·by_cases hkh:k=i.toNat
     ·subst hkh;rw[hd] at hk;cases hk;exact kv
     ·have h1:=hs i.toNat k d d' Z.o hd hk
      have h2:=nJ i.toNat d (Nat.le_refl _) hd;omega
  ·refine⟨_,Vw.same rfl,hR _ ⟨i,false,rfl,zW,by omega,λhf=>(by cases hf),λhf d' hd'=>?_⟩⟩
   obtain⟨k,hk⟩:=List.mem_iff_getElem?.1 hd';have h1:=(List.getElem?_eq_some_iff.1 hk).1;have:=zn k d' Z.o hk;omega
theorem iQ(g:Gr)(t:Int):A9 Tryz.prog 157 [.agg (Ak g),t] (· = jz (F8 g.id t)):=by
 obtain⟨n,a,b,c,d⟩:=g;have hc:=iO n t;obtain⟨v,ev⟩:=Z.f (F8 n t);show A9 Tryz.prog 157 [.agg [n,a,b,c,d],t] (· = jz (F8 n t));rw[ev] at hc ⊢;refine Z.y Tryz.func157 λ_ _ _ _ _ _ _ _ _ _ _ _ _ hz R hR P hP=>?_;cbv;refine Call.stepE (by rw[<- hP];exact hc) rfl ?_;cbv;exact Z.r hR
theorem UY{ss:List Sg}{gs:List Gr}(h:BN ss gs):∀(i j:Nat) (a b:Gr),i<j->gs[i]?=some a->gs[j]?=some b->a.id<b.id:=by
 intro i j
 induction j with
 | zero=>intro a b mI;omega
 | succ j ih =>
   intro a b mI ha hb;have wX:=(List.getElem?_eq_some_iff.1 hb).1;obtain⟨_,_,_,_,_,_,_,_,_,_,hl⟩:=h.grp (j+1) wX b hb;obtain⟨c,hc⟩:∃c,gs[j]?=some c:=⟨gs[j],List.getElem?_eq_getElem Z.o⟩;have h1:=hl Z.o c hc;by_cases hij':i=j
   ·subst hij';rw[ha] at hc;cases hc;exact h1
   ·have:=ih a c Z.o ha hc;omega
theorem PU(ss:List Sg)(gs:List Gr)(es ds:List (List AV))(zQ:es=ss.map Ah)(zY:ds=gs.map Ak)(h:BN ss gs)(id:Int):A9 Tryz.prog 99 [.agg [.list 3 es,.list 5 ds],id] (λr=>∃i f,r = .tuple [jz i,.bool f]/\J3 gs (λg:Gr=>g.id) id i f):=by
 have hu:Up0 es:=by rw[zQ];exact Bu ss
 have lH:Up0 ds:=by rw[zY];exact Bv gs
 have hb:=iP Ak (λg:Gr=>g.id) (λd=>⟨rfl,rfl⟩) 157 gs id (λd _ rw_ e=>by rw[<- e];exact iQ d id) (UY h) (by have:=h.gle;omega) ds zY;refine Z.y Tryz.func99 λ_ _ _ _ _ _ _ _ _ _ _ _ _ _ R hR P hP=>?_;cbv;refine Call.step (by rw[<- hP];exact hb) (by exact Up0.one lH rfl) ?_;rintro r ⟨i,f,rfl,hF⟩;cbv;exact⟨_,Vw.same rfl,hR _ ⟨_,_,rfl,hF⟩⟩
def Du(x:Int×Int)(s:Sg):Int×Int:=(min x.1 (Bl s.ps 0 s.len s.ps.length).1,max x.2 (Bl s.ps 0 s.len s.ps.length).2.1)
def FJ(ss:List Sg):Int×Int:=ss.foldl Du (match ss[0]? with|some s=>((s.ps.getD 0 (0,0)).2,(s.ps.getD 0 (0,0)).2)|none=>(0,0))
theorem PX:∀(l:List Sg),(∀s,s∈l->Ev s.ps)->∀x:Int×Int,x.1<=x.2 -> -1048576<=x.1->x.2<=1048576->(l.foldl Du x).1<=(l.foldl Du x).2 /\ -1048576<=(l.foldl Du x).1/\(l.foldl Du x).2<=1048576
 | [],_,x,h1,h2,h3=>⟨h1,h2,h3⟩
 | s::l,hp,x,h1,h2,h3=>by
   rw[List.foldl_cons];have hb:=Oq (hp s List.mem_cons_self).gr 0 s.len _ (Nat.le_refl _);have hl:=JK s.ps 0 s.len s.ps.length;exact PX l (λs hs=>hp s (List.mem_cons_of_mem _ hs)) _ (by unfold Du;simp only;omega) (by unfold Du;simp only;omega) (by unfold Du;simp only;omega)
theorem WE{ss:List Sg}(hp:∀s,s∈ss->Ev s.ps):(FJ ss).1<=(FJ ss).2 /\ -1048576<=(FJ ss).1/\(FJ ss).2<=1048576:=by
 unfold FJ
 cases hs:ss[0]? with
 | none=>exact PX ss hp _ (Int.le_refl _) Z.d Z.d
 | some s =>
   have:=(hp s (List.mem_of_getElem? hs)).gr 0 (hp s (List.mem_of_getElem? hs)).ne;exact PX ss hp _ (Int.le_refl _) this.1 this.2
theorem WH(ss:List Sg)(gs:List Gr)(es ds:List (List AV))(zQ:es=ss.map Ah)(zY:ds=gs.map Ak)(hn:1<=ss.length)(qG:ss.length<=1000000)(kr:CS ss)(rE:∀s,s∈ss->Ev s.ps)(a b:Int)(e:(a,b)=FJ ss) :
 A9 Tryz.prog 35 [.agg [.list 3 es,.list 5 ds]] (· = .agg [a,b]):=by
 have hu:Up0 es:=by rw[zQ];exact Bu ss
 have lH:Up0 ds:=by rw[zY];exact Bv gs
 have uG:es.length=ss.length:=by rw[zQ];simp
 obtain⟨s0,qR⟩:∃s,ss[0]?=some s:=⟨_,List.getElem?_eq_getElem Z.o⟩;have ru:=rE s0 (List.mem_of_getElem? qR);obtain⟨x0,ex0⟩:∃x,x=(s0.ps.getD 0 (0,0)).2:=⟨_,rfl⟩;unfold FJ at e;rw[qR] at e;simp only at e;rw[<- ex0] at e;obtain⟨len0,ps0,nx0⟩:=s0;simp only at ru ex0;obtain⟨⟨f0,g0⟩,uZ⟩:∃p,ps0[0]?=some p:=⟨_,List.getElem?_eq_getElem ru.ne⟩;have rA:x0=g0:=by rw[ex0,List.getD_eq_getElem?_getD,uZ];rfl
 subst rA;obtain⟨pq0,epq0⟩:=Z.e (ps0.map Ap);obtain⟨xn0,exn0⟩:=Z.e (nx0.map Ac);have tu:es[(0:Int).toNat]?=some [jz len0,.list 2 pq0,.list 1 xn0]:=by rw[zQ,List.getElem?_map,show (0:Int).toNat=0 from rfl,qR,epq0,exn0];rfl
 have xO:pq0[(0:Int).toNat]?=some [jz f0,jz x0]:=by rw[epq0,List.getElem?_map,show (0:Int).toNat=0 from rfl,uZ];rfl
 have q1:=PV x0;clear ex0 qR ru uZ epq0 exn0;refine Z.y Tryz.func35 λzB _ _ _ _ _ hw zC zA _ _ _ zH hz R hR P hP=>?_;cbv;have i00:(0:Int)<=0:=Int.le_refl _;repeat' (first|(refine Idx.mk _ i00 tu ?_;cbv)|(refine Idx.mk _ i00 xO ?_;cbv)|(refine Call.s hP q1 ?_;cbv)|fail)
 obtain⟨L,eL,L0,Ln⟩:=Z.l zH es;simp only[eL];have ez:Du=Du:=rfl
 refine Ae.data hw (S:=Int×Int×Int) (λs=>fr 38 [(2,.ref 1 2 0 0),(3,.ref 2 2 0 0),(18,.list 3 es),(19,L),(20,s.1)]) (λs=>[.live 2 [[.list 3 es,.list 5 ds]],.live 2 [[jz 0,jz 0]],.live 2 [[s.2.1,s.2.2]]])
  (λs=>0<=s.1/\s.1<=L/\s.2.1<=s.2.2/\(s.2.1,s.2.2)=(ss.take s.1.toNat).foldl Du (x0,x0)) (λs=>(L-s.1).toNat) (0,x0,x0) Z.i ⟨Int.le_refl _,L0,Int.le_refl _,rfl⟩ ?_
 rintro⟨i,y1,y2⟩ zJ Q' hN hE hR'
 have zJ:0<=i/\i<=L/\y1<=y2/\(y1,y2)=(ss.take i.toNat).foldl Du (x0,x0):=zJ;obtain⟨zW,yZ,hy,hyf⟩:=zJ;by_cases yC:i<L
 ·obtain⟨s,hs⟩:∃l,ss[i.toNat]?=some l:=⟨_,List.getElem?_eq_getElem (show i.toNat<ss.length by omega)⟩
  have rq:=rE s (List.mem_of_getElem? hs);have hls:=kr.pos s (List.mem_of_getElem? hs);obtain⟨i2,kW⟩:=Z.e (i+1);have mU:ss.take i2.toNat=ss.take i.toNat++[s]:=(by rw[kW];exact Eu zW hs);obtain⟨v,ev⟩:=Z.e (Bl s.ps 0 s.len s.ps.length);have tY:=JK s.ps 0 s.len s.ps.length;rw[<- ev] at tY;obtain⟨z1,ez1⟩:=Z.f (min y1 v.1);obtain⟨z2,wy⟩:=Z.f (max y2 v.2.1)
  have hz:(z1,z2)=(ss.take i2.toNat).foldl Du (x0,x0):=by
   rw[mU,List.foldl_append,<- hyf];show _=Du (y1,y2) s;unfold Du;rw[<- ev,ez1,wy]
  obtain⟨len,ps,nx⟩:=s;simp only at rq hls ev;obtain⟨pq,epq⟩:=Z.e (ps.map Ap);obtain⟨xn,exn⟩:=Z.e (nx.map Ac);have wM:Up0 pq:=(by rw[epq];exact E5 ps);have zL:es[i.toNat]?=some [jz len,.list 2 pq,.list 1 xn]:=(by rw[zQ,List.getElem?_map,hs,epq,exn];rfl);have q2:=QQ ps (by have:=rq.le;omega) pq epq 0 len Z.o v ev;have q3:=KC hy tY ez1 wy;have hT:(L-i2).toNat<(L-i).toNat:=(by omega);have ck:=W.lt zA yC;have a4:zB .add .i64 i 1=i2:=(by rw[zC,Ag Z.o Z.o,kW]);have hz12:z1<=z2:=(by omega);obtain⟨v1,v2,v3⟩:=v;simp only at q2 q3;clear ev ez1 wy mU hs rq epq hyf ez rE;cbv;repeat' (first|(simp only[ck,a4];cbv)|(refine Call.s hP q2 ?_;cbv)|(refine Call.s hP q3 ?_;cbv)|(refine Idx.mk _ zW zL ?_;cbv)|fail)
  refine hN (i2,z1,z2) _ _ ?hx ?hi hT
  case hx=>exact Z.i
  case hi=>exact⟨by simp only;omega,by simp only;omega,by simp only;omega,hz⟩
 ·have ck:=W.nlt zA (show L<=i by omega)
  rw[List.take_of_length_le Z.o,<- e] at hyf;obtain⟨rfl,rfl⟩:=Prod.mk.inj hyf;clear hyf e ez rE;cbv;simp only[ck];refine hE _ _ _ ?_;cbv;exact Z.r hR
theorem aQ(ps:List (Int×Int))(q:List (List AV))(hq:q=ps.map Ap)(len:Int):A9 Tryz.prog 183 [.list 2 q,len] (λr=>∃e:Int,r=jz e/\(e=0↔Hl ps len)):=by
 have hu:Up0 q:=by rw[hq];exact E5 ps
 have zb:q.length=ps.length:=by rw[hq];simp
 refine Z.y Tryz.func183 λzB _ _ _ _ _ hw zC _ yJ _ _ zH hz R hR P hP=>?_;cbv;obtain⟨L,eL,L0,Ln⟩:=Z.l zH q;have hF:¬Hl ps len->R (jz 11):=λhn=>hR _ ⟨_,rfl,⟨λh=>absurd h Z.d,λh=>absurd h hn⟩⟩;(split<;>rename_i h1<;>(try (simp only[eL] at h1))<;>(try (simp only[hz,Z.a,AF,AC,AO,AP,AL,reduceCtorEq] at h1))<;>(try cbv))
 ·exact⟨_,Vw.same rfl,hF λhM=>(by have:=hM.ne;omega)⟩
 (split<;>rename_i h2<;>(try (simp only[eL] at h2))<;>(try (simp only[hz,Z.a,AF,AC,AO,AP,AL,reduceCtorEq] at h2))<;>(try cbv))
 ·exact⟨_,Vw.same rfl,hF λhM=>(by have:=hM.le;omega)⟩
 obtain⟨⟨x,y⟩,hd,zL⟩:=BI (f:=Ap) (ds:=ps) (i:=0) (Int.le_refl 0) Z.o;have zL:q[(0:Int).toNat]?=some [jz x,jz y]:=by rw[hq];exact zL
 refine Idx.mk [jz x,jz y] Z.d zL ?_;cbv;(split<;>rename_i h3<;>(try (simp only[hz,Z.a,AF,AC,AO,AP,AL,reduceCtorEq] at h3))<;>(try cbv))
 ·exact⟨_,Vw.same rfl,hF λhM=>h3 (hM.zero _ hd)⟩
 refine Ae.data hw (S:=Int) (λi=>fr 59 [(0,.list 2 q),(1,len),(22,.list 2 q),(23,L),(24,i)]) (λi=>[]) (λi=>0<=i/\i<=L/\∀j,j<i.toNat->Ip ps len j) (λi=>(L-i).toNat) 0 Z.i ⟨Int.le_refl _,L0,λj hj=>(by simp at hj)⟩ ?_;rintro i zJ Q' hN hE hR';have zJ:0<=i/\i<=L/\∀j,j<i.toNat->Ip ps len j:=zJ;cbv;obtain⟨zW,yZ,hl⟩:=zJ;(split<;>rename_i hc<;>(try (simp only[eL] at hc))<;>(try (simp only[hz,Z.a,AF,AC,AO,AP,AL,reduceCtorEq] at hc))<;>(try cbv))
 ·obtain⟨⟨a,b⟩,qD,yW⟩:=BI (f:=Ap) (ds:=ps) (i:=i) zW Z.o
  have yW:q[i.toNat]?=some [jz a,jz b]:=(by rw[hq];exact yW);obtain⟨i',mq⟩:=Z.f (i+1);obtain⟨im,eim⟩:=Z.f (i-1);have ei:zB .add .i64 i 1=i':=(by rw[zC,Ag Z.o Z.o];exact mq);have em:zB .sub .i64 i 1=im:=(by rw[zC,Bj Z.o Z.o];exact eim);have hT:(L-i').toNat<(L-i).toNat:=by omega
  obtain⟨a',b',hp'⟩:∃a' b',0<i->0<=im/\ps[i.toNat-1]?=some (a',b')/\q[im.toNat]?=some [jz a',jz b']:=by
   by_cases h:0<i
   ·obtain⟨⟨a',b'⟩,k1,k2⟩:=BI (f:=Ap) (ds:=ps) (i:=im) Z.o Z.o
    exact⟨a',b',λ_=>⟨by omega,by rw[<- k1];congr 1;omega,by rw[hq];exact k2⟩⟩
   ·exact⟨0,0,λh'=>absurd h' h⟩
  have fin:(-1048576<=b/\b<=1048576/\a<len/\(0<i->a'<a))->∀j,j<i'.toNat->Ip ps len j:=by
   intro hh;rw[<- mq];refine Fj zW hl λp hp=>?_;rw[qD] at hp;obtain rfl:(a,b)=p:=(by simpa using hp);refine⟨hh.1,hh.2.1,hh.2.2.1,λhj o ho=>?_⟩;rw[(hp' Z.o).2.1] at ho;obtain rfl:(a',b')=o:=(by simpa using ho);exact hh.2.2.2 Z.o
  have bad:Hl ps len -> -1048576<=b/\b<=1048576/\a<len/\(0<i->a'<a):=by
   intro hM;obtain⟨m1,m2,m3,m4⟩:=hM.all i.toNat Z.o _ qD;exact⟨m1,m2,m3,λh=>m4 Z.o _ (hp' h).2.1⟩
  repeat' (first
   | (refine hR' _ _ ⟨_,Vw.same rfl,hF λhM=>?_⟩;obtain⟨m1,m2,m3,m4⟩:=bad hM;clear hN hE hR' hR hF;omega)
   | (refine Idx.mk [jz a,jz b] zW yW ?_;cbv)
   | (simp only[em];refine Idx.mk [jz a',jz b'] (hp' Z.m).1 (hp' Z.m).2.2 ?_;cbv)
   | (split<;>rename_i h<;>(try (simp only[hz,Z.a,AF,AC,AO,AP,AL,reduceCtorEq] at h))<;>(try cbv)))
  all_goals
   refine hN i' _ _ ?hx ?hi hT
   case hx=>exact Z.i
   case hi=>exact⟨by omega,by omega,fin ⟨by omega,by omega,by omega,by omega⟩⟩
 ·refine hE _ _ _ ?_
  cbv;exact⟨_,Vw.same rfl,hR _ ⟨_,rfl,⟨λ_=>⟨by omega,by omega,λp hp=>(by rw[show ps[0]?=some (x,y) from hd] at hp;obtain rfl:(x,y)=p:=(by simpa using hp);exact h3),λj hj=>hl j Z.o⟩,λ_=>rfl⟩⟩⟩
def Oo(nx:List Int)(many:Int)(j:Nat):Prop:=∀n,nx[j]?=some n->0<=n/\n<many/\(0<j->∀o,nx[j-1]?=some o->o<n)
theorem aR(s:Sg)(q n1:List (List AV))(hq:q=s.ps.map Ap)(qC:n1=s.nx.map Ac)(es ds:List (List AV))(hu:Up0 es)(lH:Up0 ds)(many:Int)(hmany:many.toNat=es.length)(oq:0<=many):A9 Tryz.prog 126 [.agg [.list 3 es,.list 5 ds],.agg [s.len,.list 2 q,.list 1 n1]] (λr=>∃o:Bool,r = .bool o/\(o=true↔Ci s many)):=by
 obtain⟨len,ps,nx⟩:=s;have hq:q=ps.map Ap:=hq;have qC:n1=nx.map Ac:=qC;have huq:Up0 q:=by rw[hq];exact E5 ps
 have yJ:Up0 n1:=by rw[qC];exact CG nx
 have qW:n1.length=nx.length:=by rw[qC];simp
 refine Z.y Tryz.func126 λzB _ _ _ _ _ hw zC _ _ _ _ zH hz R hR P hP=>?_;cbv;obtain⟨L,eL,L0,Ln⟩:=Z.l zH n1;obtain⟨M,eM,M0,Mn⟩:=Z.l zH es;obtain rfl:M=many:=by omega
 have hF:¬Ci ⟨len,ps,nx⟩ M->R (.bool false):=λhn=>hR _ ⟨_,rfl,⟨λh=>(by cases h),λh=>absurd h hn⟩⟩;(split<;>rename_i h1<;>(try (simp only[hz,Z.a,AF,AC,AO,AP,AL,reduceCtorEq] at h1))<;>(try cbv))
 ·exact⟨_,Vw.same rfl,hF λhM=>(by have k:1<=len:=hM.pos;omega)⟩
 (split<;>rename_i h2<;>(try (simp only[hz,Z.a,AF,AC,AO,AP,AL,reduceCtorEq] at h2))<;>(try cbv))
 ·exact⟨_,Vw.same rfl,hF λhM=>(by have k:len<=1099511627776:=hM.le;omega)⟩
 refine Call.step (by rw[<- hP];exact aQ ps q hq len) (by exact Up0.one huq rfl) ?_;rintro r ⟨o,rfl,qY⟩;cbv;(split<;>rename_i h3<;>(try (simp only[hz,Z.a,AF,AC,AO,AP,AL,reduceCtorEq] at h3))<;>(try cbv))
 ·exact⟨_,Vw.same rfl,hF λhM=>h3 (qY.2 hM.may)⟩
 have qY:=qY.1 h3;(split<;>rename_i h4<;>(try (simp only[eL] at h4))<;>(try (simp only[hz,Z.a,AF,AC,AO,AP,AL,reduceCtorEq] at h4))<;>(try cbv))
 ·exact⟨_,Vw.same rfl,hF λhM=>(by have k:nx.length<=2:=hM.two;omega)⟩
 simp only[eL];refine Ae.data hw (S:=Int) (λi=>fr 61 [(2,.ref 0 2 0 0),(3,.ref 1 3 0 0),(30,.list 1 n1),(31,L),(32,i)]) (λi=>[.live 2 [[.list 3 es,.list 5 ds]],.live 3 [[len,.list 2 q,.list 1 n1]]]) (λi=>0<=i/\i<=L/\∀j,j<i.toNat->Oo nx M j) (λi=>(L-i).toNat) 0 Z.i ⟨Int.le_refl _,L0,λj hj=>(by simp at hj)⟩ ?_;rintro i zJ Q' hN hE hR';have zJ:0<=i/\i<=L/\∀j,j<i.toNat->Oo nx M j:=zJ;cbv;obtain⟨zW,yZ,hl⟩:=zJ;(split<;>rename_i hc<;>(try (simp only[eL] at hc))<;>(try (simp only[hz,Z.a,AF,AC,AO,AP,AL,reduceCtorEq] at hc))<;>(try cbv))
 ·obtain⟨n,qD,yW⟩:=BI (f:=Ac) (ds:=nx) (i:=i) zW Z.o
  have yW:n1[i.toNat]?=some [jz n]:=(by rw[qC];exact yW);obtain⟨i',mq⟩:=Z.f (i+1);obtain⟨im,eim⟩:=Z.f (i-1);have ei:zB .add .i64 i 1=i':=(by rw[zC,Ag Z.o Z.o];exact mq);have em:zB .sub .i64 i 1=im:=(by rw[zC,Bj Z.o Z.o];exact eim);have hT:(L-i').toNat<(L-i).toNat:=by omega
  obtain⟨o',hp'⟩:∃o',0<i->0<=im/\nx[i.toNat-1]?=some o'/\n1[im.toNat]?=some [jz o']:=by
   by_cases h:0<i
   ·obtain⟨o',k1,k2⟩:=BI (f:=Ac) (ds:=nx) (i:=im) Z.o Z.o
    exact⟨o',λ_=>⟨by omega,by rw[<- k1];congr 1;omega,by rw[qC];exact k2⟩⟩
   ·exact⟨0,λh'=>absurd h' h⟩
  have bad:Ci ⟨len,ps,nx⟩ M->0<=n/\n<M/\(0<i->o'<n):=λhM=>by
   obtain⟨k1,k2⟩:=hM.nx i.toNat (show i.toNat<nx.length by omega) n qD;refine⟨k1,k2,λh=>?_⟩;have h1:i.toNat=1:=(by omega);have p1:=(hp' h).2.1;rw[h1] at p1 qD;exact hM.lt o' n p1 qD
  have fin:(0<=n/\n<M/\(0<i->o'<n))->∀j,j<i'.toNat->Oo nx M j:=by
   intro hh;rw[<- mq];refine Fj zW hl λm hm=>?_;rw[qD] at hm;obtain rfl:n=m:=(by simpa using hm);refine⟨hh.1,hh.2.1,λhj o ho=>?_⟩;rw[(hp' Z.o).2.1] at ho;obtain rfl:o'=o:=(by simpa using ho);exact hh.2.2 Z.o
  repeat' (first
   | (refine hR' _ _ ⟨_,Vw.same rfl,hF λhM=>?_⟩;obtain⟨m1,m2,m3⟩:=bad hM;clear hN hE hR' hR hF;omega)
   | (refine Idx.mk [jz n] zW yW ?_;cbv)
   | (simp only[em];refine Idx.mk [jz o'] (hp' Z.m).1 (hp' Z.m).2.2 ?_;cbv)
   | (split<;>rename_i h<;>(try (simp only[eL,eM] at h))<;>(try (simp only[hz,Z.a,AF,AC,AO,AP,AL,reduceCtorEq] at h))<;>(try cbv)))
  all_goals
   refine hN i' _ _ ?hx ?hi hT
   case hx=>(refine Z.k (λj=>[0,1].getD j 0) ?_;cbv<;>exact Z.q)
   case hi=>exact⟨by omega,by omega,fin ⟨by omega,by omega,by omega⟩⟩
 ·refine hE _ _ _ ?_
  cbv;refine⟨_,Vw.same rfl,hR _ ⟨_,rfl,⟨λ_=>⟨h1,by omega,qY,by simp only;omega,λj hj n hn=>?_,λa b ha hb=>?_⟩,λ_=>rfl⟩⟩⟩
  ·have:=hl j (by simp only at hj;omega) n hn
   exact⟨this.1,this.2.1⟩
  ·have tJ:=(List.getElem?_eq_some_iff.1 hb).1
   exact(hl 1 (by simp only at tJ;omega) b hb).2.2 Z.d a ha
theorem aU(ss:List Sg)(gs:List Gr)(qG:ss.length<=1000000)(uF:gs.length<=1000000)(es ds:List (List AV))(zQ:es=ss.map Ah)(zY:ds=gs.map Ak)(i g1 g2 g3 g4 g5:Int)(zW:0<=i)(hd:gs[i.toNat]?=some ⟨g1,g2,g3,g4,g5⟩) :
 A9 Tryz.prog 127 [.agg [.list 3 es,.list 5 ds],i,.agg [g1,g2,g3,g4,g5]] (λr=>∃o:Bool,r = .bool o/\(o=true↔Ig ss gs i.toNat)):=by
 have hu:Up0 es:=by rw[zQ];exact Bu ss
 have lH:Up0 ds:=by rw[zY];exact Bv gs
 have uG:es.length=ss.length:=by rw[zQ];simp
 have mD:i.toNat<gs.length:=(List.getElem?_eq_some_iff.1 hd).1;obtain⟨im,eim⟩:=Z.f (i-1)
 obtain⟨p1,p2,p3,p4,p5,hp⟩:∃p1 p2 p3 p4 p5,0<i->0<=im/\gs[i.toNat-1]?=some ⟨p1,p2,p3,p4,p5⟩/\ds[im.toNat]?=some [jz p1,jz p2,jz p3,jz p4,jz p5]:=by
  by_cases h:0<i
  ·obtain⟨⟨p1,p2,p3,p4,p5⟩,k1,k2⟩:=BI (f:=Ak) (ds:=gs) (i:=im) Z.o Z.o
   exact⟨p1,p2,p3,p4,p5,λ_=>⟨by omega,by rw[<- k1];congr 1;omega,by rw[zY];exact k2⟩⟩
  ·exact⟨0,0,0,0,0,λh'=>absurd h' h⟩
 obtain⟨len,q1,n1,yD⟩:∃len q1 n1,0<=g2->g2.toNat<ss.length->es[g2.toNat]?=some [jz len,.list 2 q1,.list 1 n1]/\∀s,ss[g2.toNat]?=some s->s.len=len:=by
  by_cases h:0<=g2/\g2.toNat<ss.length
  ·obtain⟨⟨len,ps,nx⟩,k1,k2⟩:=BI (f:=Ah) (ds:=ss) (i:=g2) h.1 Z.o
   exact⟨len,_,_,λ_ _=>⟨by rw[zQ];exact k2,λs hs=>by rw[k1] at hs;obtain rfl:(⟨len,ps,nx⟩:Sg)=s:=(by simpa using hs);rfl⟩⟩
  ·exact⟨0,[],[],λh' h''=>absurd ⟨h',h''⟩ h⟩
 have key:Ig ss gs i.toNat↔(1<=g1/\g1<=65535/\(0<i->p1<g1)/\0<=g2/\g2.toNat<ss.length/\0<=g3/\g3<=len/\0<=g4/\g4<=1048576/\0<=g5/\g5<=16777216):=by
  constructor
  ·intro h
   obtain⟨k1,k2,k3,k4,k5,k6,k7,k8,k9,qz,uQ⟩:=h _ hd;simp only at k1 k2 k3 k4 k5 k6 k7 k8 k9 qz uQ;obtain⟨s,hs⟩:∃s,ss[g2.toNat]?=some s:=⟨_,List.getElem?_eq_getElem k4⟩;exact⟨by omega,k2,λhi=>uQ Z.o _ (hp hi).2.1,k3,k4,k5,by have:=k6 s hs;rw[(yD k3 k4).2 s hs] at this;exact this,k7,k8,k9,qz⟩
  ·rintro⟨k1,k2,k3,k4,k5,k6,k7,k8,k9,qz,uQ⟩ g hg
   rw[hd] at hg;obtain rfl:(⟨g1,g2,g3,g4,g5⟩:Gr)=g:=(by simpa using hg);refine⟨by simp only;omega,k2,k4,k5,k6,λs hs=>by rw[(yD k4 k5).2 s hs];exact k7,k8,k9,qz,uQ,λhj o ho=>?_⟩;rw[(hp Z.o).2.1] at ho;obtain rfl:(⟨p1,p2,p3,p4,p5⟩:Gr)=o:=(by simpa using ho);exact k3 Z.o
 rw[key];clear key;refine Z.y Tryz.func127 λzB _ _ _ _ _ _ zC zA _ _ _ zH hz R hR P hP=>?_;cbv;obtain⟨L,eL,L0,Ln⟩:=Z.l zH es;have em:0<i->zB .sub .i64 i 1=im:=λh=>by rw[zC,Bj Z.o Z.o];exact eim
 have hF:¬(1<=g1/\g1<=65535/\(0<i->p1<g1)/\0<=g2/\g2.toNat<ss.length/\0<=g3/\g3<=len/\0<=g4/\g4<=1048576/\0<=g5/\g5<=16777216)->R (.bool false):=λhn=>hR _ ⟨_,rfl,⟨λh=>(by cases h),λh=>absurd h hn⟩⟩
 repeat' (first
  | exact⟨_,Vw.same rfl,hF Z.o⟩
  | (simp only[em Z.m];refine Idx.mk [jz p1,jz p2,jz p3,jz p4,jz p5] (hp Z.m).1 (hp Z.m).2.2 ?_;cbv)
  | (refine Idx.mk [jz len,.list 2 q1,.list 1 n1] Z.o (yD Z.o Z.o).1 ?_;cbv)
  | (split<;>rename_i h<;>(try (simp only[eL] at h))<;>(try (simp only[hz,Z.a,AF,AC,AO,AP,AL,reduceCtorEq] at h))<;>(try cbv)))
 all_goals
  refine⟨_,Vw.same rfl,hR _ ⟨_,rfl,?_⟩⟩;rw[zA];simp only[AC,decide_eq_true_eq];omega
theorem QI(ss:List Sg)(gs:List Gr)(qG:ss.length<=1000000)(uF:gs.length<=1000000)(es ds:List (List AV))(zQ:es=ss.map Ah)(zY:ds=gs.map Ak):A9 Tryz.prog 67 [.agg [.list 3 es,.list 5 ds]] (λr=>∃e i,r = .tuple [jz e,jz i]/\(e=0↔BN ss gs)):=by
 have hu:Up0 es:=by rw[zQ];exact Bu ss
 have lH:Up0 ds:=by rw[zY];exact Bv gs
 have uG:es.length=ss.length:=by rw[zQ];simp
 have uH:ds.length=gs.length:=by rw[zY];simp
 refine Z.y Tryz.func67 λzB _ _ _ zF _ hw zC _ yJ _ zI zH hz R hR P hP=>?_;cbv;obtain⟨L,eL,L0,Ln⟩:=Z.l zH es;obtain⟨J,eJ,J0,Jn⟩:=Z.l zH ds;have hF:∀e i:Int,e≠0->¬BN ss gs->R (.tuple [e,i]):=λe i he hn=>hR _ ⟨_,_,rfl,λh=>absurd h he,λh=>absurd h hn⟩;(split<;>rename_i h1<;>(try (simp only[eL] at h1))<;>(try (simp only[hz,Z.a,AF,AC,AO,AP,AL,reduceCtorEq] at h1))<;>(try cbv))
 ·exact⟨_,Vw.same rfl,hF _ _ Z.d λhM=>(by have:=hM.ne;omega)⟩
 (split<;>rename_i h2<;>(try (simp only[eL] at h2))<;>(try (simp only[hz,Z.a,AF,AC,AO,AP,AL,reduceCtorEq] at h2))<;>(try cbv))
 ·exact⟨_,Vw.same rfl,hF _ _ Z.d λhM=>(by have:=hM.le;omega)⟩
 (split<;>rename_i h3<;>(try (simp only[eJ] at h3))<;>(try (simp only[hz,Z.a,AF,AC,AO,AP,AL,reduceCtorEq] at h3))<;>(try cbv))
 ·exact⟨_,Vw.same rfl,hF _ _ Z.d λhM=>(by have:=hM.gle;omega)⟩
 simp only[eL];refine Ae.data hw (S:=Int) (λi=>fr 53 [(1,.ref 0 2 0 0),(25,.list 3 es),(26,L),(27,i)]) (λi=>[.live 2 [[.list 3 es,.list 5 ds]]]) (λi=>0<=i/\i<=L/\∀j,j<i.toNat->∀s,ss[j]?=some s->Ci s L) (λi=>(L-i).toNat) 0 Z.i ⟨Int.le_refl _,L0,λj hj=>(by simp at hj)⟩ ?_;rintro i zJ Q' hN hE hR';have zJ:0<=i/\i<=L/\∀j,j<i.toNat->∀s,ss[j]?=some s->Ci s L:=zJ;cbv;obtain⟨zW,yZ,hl⟩:=zJ;have eLL:L.toNat=ss.length:=by omega
 have hLL:∀s,Ci s (ss.length:Int)↔Ci s L:=λs=>by rw[show (ss.length:Int)=L by omega]
 have n1:zF true=false:=by rw[zI];rfl
 have n2:zF false=true:=by rw[zI];rfl
 (split<;>rename_i hc<;>(try (simp only[eL] at hc))<;>(try (simp only[hz,Z.a,AF,AC,AO,AP,AL,reduceCtorEq] at hc))<;>(try cbv))
 ·obtain⟨⟨len,ps,nx⟩,hd,zL⟩:=BI (f:=Ah) (ds:=ss) (i:=i) zW Z.o
  obtain⟨q1,oW⟩:=Z.f (ps.map Ap);obtain⟨m1,lK⟩:=Z.f (nx.map Ac);have zL:es[i.toNat]?=some [jz len,.list 2 q1,.list 1 m1]:=(by rw[zQ,<- oW,<- lK];exact zL);have huq:Up0 q1:=(by rw[<- oW];exact E5 ps);have yJ:Up0 m1:=(by rw[<- lK];exact CG nx);obtain⟨i',mq⟩:=Z.f (i+1);have ei:zB .add .i64 i 1=i':=(by rw[zC,Ag Z.o Z.o];exact mq);have hT:(L-i').toNat<(L-i).toNat:=(by omega);refine Idx.mk [jz len,.list 2 q1,.list 1 m1] zW zL ?_;cbv;refine Call.step (by rw[<- hP];exact aR ⟨len,ps,nx⟩ q1 m1 oW.symm lK.symm es ds hu lH L Z.o L0) Z.u ?_;rintro r ⟨o,rfl,ho⟩;cbv
  cases o with
  | false =>
    simp only[n2];cbv;refine hR' _ _ ⟨_,Vw.same rfl,hF _ _ Z.d λhM=>?_⟩;have:=ho.2 ((hLL _).1 (hM.seg i.toNat Z.o _ hd));cases this
  | true =>
    simp only[n1];cbv;simp only[ei];refine hN i' _ _ ?hx ?hi hT
    case hx=>exact Z.i
    case hi =>
     refine⟨by omega,by omega,?_⟩;rw[<- mq];refine Fj zW hl λm hm=>?_;rw[hd] at hm;obtain rfl:(⟨len,ps,nx⟩:Sg)=m:=(by simpa using hm);exact ho.1 rfl
 refine hE _ _ _ ?_;cbv;have qQ:∀j,j<ss.length->∀s,ss[j]?=some s->Ci s L:=λj hj=>hl j Z.o;clear hl hN hE hR';simp only[eJ];refine Ae.data hw (S:=Int) (λi=>fr 53 [(1,.ref 0 2 0 0),(39,.list 5 ds),(40,J),(41,i)]) (λi=>[.live 2 [[.list 3 es,.list 5 ds]]]) (λi=>0<=i/\i<=J/\∀j,j<i.toNat->Ig ss gs j) (λi=>(J-i).toNat) 0 Z.i ⟨Int.le_refl _,J0,λj hj=>(by simp at hj)⟩ ?_;rintro i zJ Q' hN hE hR';have zJ:0<=i/\i<=J/\∀j,j<i.toNat->Ig ss gs j:=zJ;cbv;obtain⟨zW,yZ,hl⟩:=zJ;(split<;>rename_i hc<;>(try (simp only[eJ] at hc))<;>(try (simp only[hz,Z.a,AF,AC,AO,AP,AL,reduceCtorEq] at hc))<;>(try cbv))
 ·obtain⟨⟨g1,g2,g3,g4,g5⟩,hd,zL⟩:=BI (f:=Ak) (ds:=gs) (i:=i) zW Z.o
  have zL:ds[i.toNat]?=some [jz g1,jz g2,jz g3,jz g4,jz g5]:=(by rw[zY];exact zL);obtain⟨i',mq⟩:=Z.f (i+1);have ei:zB .add .i64 i 1=i':=(by rw[zC,Ag Z.o Z.o];exact mq);have hT:(J-i').toNat<(J-i).toNat:=(by omega);have zu:∀P:Nat->Prop,(∀j,j<i.toNat->P j)->P i.toNat->∀j,j<i'.toNat->P j:=λP h1 h2=>(by rw[<- mq];exact Fj zW h1 h2);refine Idx.mk [jz g1,jz g2,jz g3,jz g4,jz g5] zW zL ?_;cbv;refine Call.step (by rw[<- hP];exact aU ss gs qG uF es ds zQ zY i g1 g2 g3 g4 g5 zW hd) Z.u ?_;rintro r ⟨o,rfl,ho⟩;cbv
  cases o with
  | false =>
    simp only[n2];cbv;refine hR' _ _ ⟨_,Vw.same rfl,hF _ _ Z.d λhM=>?_⟩;have:=ho.2 (hM.grp i.toNat Z.o);cases this
  | true =>
    simp only[n1];cbv;simp only[ei];refine hN i' _ _ ?hx ?hi hT
    case hx=>exact Z.i
    case hi=>exact⟨by omega,by omega,zu _ hl (ho.1 rfl)⟩
 refine hE _ _ _ ?_;cbv;exact⟨_,Vw.same rfl,hR _ ⟨_,_,rfl,λ_=>⟨by omega,by omega,by omega,λj hj s hs=>(hLL s).2 (qQ j hj s hs),λj hj=>hl j Z.o⟩,λ_=>rfl⟩⟩
theorem Vw.rows{h:A7}{z:Nat}{es rs:List (List AV)}(hl:es.length=rs.length)(hz:∀r,r∈rs->r.length=z)(H:∀(i:Nat) (r:List AV),rs[i]?=some r->∃e,es[i]?=some e/\VwL h e r):Vw h (.list z es) (.list z rs):=by
 intro C hC RC u hu;rcases hu.lists with ⟨⟨a,cap,rfl⟩,he⟩|⟨a,cap,f,rfl,lh,hsp,hz',aS,aT,tX⟩
 ·have:rs=[]:=by rw[he] at hl;exact List.length_eq_zero_iff.1 hl.symm
  subst this;exact .listNil z a cap
 ·refine .list z rs a es.length cap f hl.symm lh hsp hz (λi j hi hj=>aS i j hi hj) (λh1 h2 ho=>?_) λi r hr j x hx=>?_
  ·rcases ho with ho|⟨s,⟨z',kw,hs⟩,_⟩
   ·exact aT h1 h2 (.inl ho)
   ·simp at hs
  ·obtain⟨e,he,hv⟩:=H i r hr
   obtain⟨k1,k2⟩:=hv.get;obtain⟨v,lv,o_⟩:=k2 j x hx;exact o_ C hC RC _ (tX i e he j v lv)
theorem EH(x a b:Int)(o:Bool)(ho:o=decide (a<=x/\x<=b)):A9 Tryz.prog 186 [x,a,b] (· = .bool o):=by
 refine Z.y Tryz.func186 λ_ zE _ _ _ _ _ _ zA _ _ _ _ hz R hR P hP=>?_;cbv;(split<;>rename_i h<;>(try (simp only[hz,Z.a,AF,AC,AO,AP,AL,reduceCtorEq] at h))<;>(try cbv))
 ·have v:zE .leq x b=o:=by rw[zA,ho];simp[AC];omega
  simp only[v];exact Z.r hR
 ·have v:o=false:=by rw[ho];simp;omega
  subst v;exact Z.r hR
theorem aV(c0 c1 c2 c3 c4 c5 c6 c7 c8 c9 c10 c11 c12 c13 p:Int)(h0:1<=c0)(h1:c0<=1024)(h2:0<=c2)(h3:c2<=8388608)(hp:p=(c2+c0-1)/c0):A9 Tryz.prog 196 [.agg [c0,c1,c2,c3,c4,c5,c6,c7,c8,c9,c10,c11,c12,c13]] (· = jz p):=by
 have hq:Fv true c2 1 c0=(p,0):=by
  rw[Yo h2 Z.d Z.o,Int.mul_one];have hd:=Int.mul_ediv_add_emod c2 c0;have oq:=Int.emod_nonneg c2 (show c0≠0 by omega);have ko:=Int.emod_lt_of_pos c2 (show 0<c0 by omega);have nR:c2/c0<=c2:=Int.ediv_le_self _ h2;have pQ:0<=c2/c0:=Int.ediv_nonneg h2 Z.o;obtain⟨q,eq⟩:=Z.e (c2/c0);rw[<- eq] at hd nR pQ ⊢;by_cases hz:0<c2%c0
  ·have e1:p=q+1:=by
    rw[hp,show c2+c0-1=(c2%c0-1)+(q+1)*c0 by rw[Int.add_mul,Int.one_mul,Int.mul_comm q c0];omega,Int.add_mul_ediv_right _ _ Z.o,Int.ediv_eq_zero_of_lt Z.o Z.o];omega
   rw[if_pos ⟨hz,rfl⟩,e1];unfold Fs;simp only[Bool.false_eq_true,if_false];rw[if_pos Z.o]
  ·have e1:p=q:=by
    rw[hp,show c2+c0-1=(c0-1)+q*c0 by rw[Int.mul_comm q c0];omega,Int.add_mul_ediv_right _ _ Z.o,Int.ediv_eq_zero_of_lt Z.o Z.o];omega
   rw[if_neg (λh=>hz h.1),e1];unfold Fs;simp only[Bool.false_eq_true,if_false];rw[if_pos Z.o]
 have hc:=RZ c2 1 c0 p 0 Z.o Z.o Z.d Z.d Z.o Z.o Z.o hq;refine Z.y Tryz.func196 λ_ _ _ _ _ _ _ _ _ _ _ _ _ hz R hR P hP=>?_;cbv;refine Call.stepE (by rw[<- hP];exact hc) rfl ?_;cbv;exact Z.r hR
def cfL(c0 c1 c2 c3 c4 c5 c6 c7 c8 c9 c10 c11 c12 c13:Int):List AV:=[c0,c1,c2,c3,c4,c5,c6,c7,c8,c9,c10,c11,c12,c13]
def ruO(c0 c1 c2 c3 c4 c5 c6 c7 c8 c9 c10 c11 c12 c13:Int):List Bool:=[decide (¬(c0<1\/1024<c0)),decide (¬(c1<131072\/8388608<c1\/c2<c1\/8388608<c2)),decide (¬(c1<IntKind.i64.wrap (IntKind.i64.wrap (c2-c1)*16))),decide (¬(c3<0\/1048576<c3\/c4<0\/65536<c4)),decide (¬(c5<0\/1048576<c5)),decide (¬(c6<1\/16777216<c6\/c7<1\/1048576<c7)),decide (¬(IntKind.i64.wrap (32000*c1)<IntKind.i64.wrap (c6*c0))),decide (¬(c8<0\/1048576<c8)),decide (¬(c9<1\/1000<c9\/c12<1\/1000<c12)),decide (¬(c10<(c2+c0-1)/c0\/c10<IntKind.i64.wrap (3*c3)\/16777216<c10)),decide (¬(c11<0\/1073741824<c11)),decide (¬(c13<1\/1048576<c13))]
def ruI:List Nat:=[185,187,188,189,190,191,192,193,194,195,197,198]
def ruR(c:List AV):List (List AV):=ruI.map λg=>[.func (.func g) [] [.cref c]]
def Jf:List Bool->Int->Int
 | [],_=>0
 | b::l,k=>if b=true then Jf l (k+1) else k
section
variable (c0 c1 c2 c3 c4 c5 c6 c7 c8 c9 c10 c11 c12 c13:Int)
theorem aW(o:Bool)(ho:o=decide (¬(c0<1\/1024<c0))):A9 Tryz.prog 185 [.cref (cfL c0 c1 c2 c3 c4 c5 c6 c7 c8 c9 c10 c11 c12 c13)] (· = .bool o):=by
 have w0:=EH c0 1 1024 o (by rw[ho];apply decide_eq_decide.2;omega);refine Z.y Tryz.func185 λ_ _ _ _ _ _ _ _ _ _ _ _ _ hz R hR P hP=>?_;cbv;repeat' (first|(refine Call.s hP w0 ?_;cbv)|fail)
 exact Z.r hR
theorem aX(o:Bool)(ho:o=decide (¬(c1<131072\/8388608<c1\/c2<c1\/8388608<c2))):A9 Tryz.prog 187 [.cref (cfL c0 c1 c2 c3 c4 c5 c6 c7 c8 c9 c10 c11 c12 c13)] (· = .bool o):=by
 obtain⟨b0,e0⟩:=Z.e (decide (131072<=c1/\c1<=8388608));obtain⟨b1,e1⟩:=Z.e (decide (c1<=c2/\c2<=8388608));have w0:=EH c1 131072 8388608 b0 e0;have w1:=EH c2 c1 8388608 b1 e1;obtain rfl:o=(b0 && b1):=by rw[ho,e0,e1,<- Bool.decide_and];apply decide_eq_decide.2;omega
 clear ho e0 e1
 cases b0<;>(
  refine Z.y Tryz.func187 λ_ _ _ _ _ _ _ _ _ _ _ _ _ hz R hR P hP=>?_;cbv;repeat' (first|(refine Call.s hP w0 ?_;cbv)|(refine Call.s hP w1 ?_;cbv)|fail)
  exact Z.r hR)
theorem aY(o:Bool)(ho:o=decide (¬(c1<IntKind.i64.wrap (IntKind.i64.wrap (c2-c1)*16)))):A9 Tryz.prog 188 [.cref (cfL c0 c1 c2 c3 c4 c5 c6 c7 c8 c9 c10 c11 c12 c13)] (· = .bool o):=by
 have f:decide (IntKind.i64.wrap (16*IntKind.i64.wrap (c2-c1))<=c1)=o:=by rw[ho,Int.mul_comm];apply decide_eq_decide.2;omega
 clear ho;refine Z.y Tryz.func188 λzB zE _ _ _ _ _ zC zA _ _ _ _ hz R hR P hP=>?_;cbv;have v:zE .leq (zB .mul .i64 16 (zB .sub .i64 c2 c1)) c1=o:=by rw[zA,zC];exact f
 simp only[v];exact Z.r hR
theorem aZ(o:Bool)(ho:o=decide (¬(c3<0\/1048576<c3\/c4<0\/65536<c4))):A9 Tryz.prog 189 [.cref (cfL c0 c1 c2 c3 c4 c5 c6 c7 c8 c9 c10 c11 c12 c13)] (· = .bool o):=by
 obtain⟨b0,e0⟩:=Z.e (decide (0<=c3/\c3<=1048576));obtain⟨b1,e1⟩:=Z.e (decide (0<=c4/\c4<=65536));have w0:=EH c3 0 1048576 b0 e0;have w1:=EH c4 0 65536 b1 e1;obtain rfl:o=(b0 && b1):=by rw[ho,e0,e1,<- Bool.decide_and];apply decide_eq_decide.2;omega
 clear ho e0 e1
 cases b0<;>(
  refine Z.y Tryz.func189 λ_ _ _ _ _ _ _ _ _ _ _ _ _ hz R hR P hP=>?_;cbv;repeat' (first|(refine Call.s hP w0 ?_;cbv)|(refine Call.s hP w1 ?_;cbv)|fail)
  exact Z.r hR)
theorem aa(o:Bool)(ho:o=decide (¬(c5<0\/1048576<c5))):A9 Tryz.prog 190 [.cref (cfL c0 c1 c2 c3 c4 c5 c6 c7 c8 c9 c10 c11 c12 c13)] (· = .bool o):=by
 have w0:=EH c5 0 1048576 o (by rw[ho];apply decide_eq_decide.2;omega);refine Z.y Tryz.func190 λ_ _ _ _ _ _ _ _ _ _ _ _ _ hz R hR P hP=>?_;cbv;repeat' (first|(refine Call.s hP w0 ?_;cbv)|fail)
 exact Z.r hR
theorem af(o:Bool)(ho:o=decide (¬(c6<1\/16777216<c6\/c7<1\/1048576<c7))):A9 Tryz.prog 191 [.cref (cfL c0 c1 c2 c3 c4 c5 c6 c7 c8 c9 c10 c11 c12 c13)] (· = .bool o):=by
 obtain⟨b0,e0⟩:=Z.e (decide (1<=c6/\c6<=16777216));obtain⟨b1,e1⟩:=Z.e (decide (1<=c7/\c7<=1048576));have w0:=EH c6 1 16777216 b0 e0;have w1:=EH c7 1 1048576 b1 e1;obtain rfl:o=(b0 && b1):=by rw[ho,e0,e1,<- Bool.decide_and];apply decide_eq_decide.2;omega
 clear ho e0 e1
 cases b0<;>(
  refine Z.y Tryz.func191 λ_ _ _ _ _ _ _ _ _ _ _ _ _ hz R hR P hP=>?_;cbv;repeat' (first|(refine Call.s hP w0 ?_;cbv)|(refine Call.s hP w1 ?_;cbv)|fail)
  exact Z.r hR)
theorem ah(o:Bool)(ho:o=decide (¬(IntKind.i64.wrap (32000*c1)<IntKind.i64.wrap (c6*c0)))):A9 Tryz.prog 192 [.cref (cfL c0 c1 c2 c3 c4 c5 c6 c7 c8 c9 c10 c11 c12 c13)] (· = .bool o):=by
 have f:decide (IntKind.i64.wrap (c6*c0)<=IntKind.i64.wrap (32000*c1))=o:=by rw[ho];apply decide_eq_decide.2;omega
 clear ho;refine Z.y Tryz.func192 λzB zE _ _ _ _ _ zC zA _ _ _ _ hz R hR P hP=>?_;cbv;have v:zE .leq (zB .mul .i64 c6 c0) (zB .mul .i64 32000 c1)=o:=by rw[zA,zC];exact f
 simp only[v];exact Z.r hR
theorem ak(o:Bool)(ho:o=decide (¬(c8<0\/1048576<c8))):A9 Tryz.prog 193 [.cref (cfL c0 c1 c2 c3 c4 c5 c6 c7 c8 c9 c10 c11 c12 c13)] (· = .bool o):=by
 have w0:=EH c8 0 1048576 o (by rw[ho];apply decide_eq_decide.2;omega);refine Z.y Tryz.func193 λ_ _ _ _ _ _ _ _ _ _ _ _ _ hz R hR P hP=>?_;cbv;repeat' (first|(refine Call.s hP w0 ?_;cbv)|fail)
 exact Z.r hR
theorem au(o:Bool)(ho:o=decide (¬(c9<1\/1000<c9\/c12<1\/1000<c12))):A9 Tryz.prog 194 [.cref (cfL c0 c1 c2 c3 c4 c5 c6 c7 c8 c9 c10 c11 c12 c13)] (· = .bool o):=by
 obtain⟨b0,e0⟩:=Z.e (decide (1<=c9/\c9<=1000));obtain⟨b1,e1⟩:=Z.e (decide (1<=c12/\c12<=1000));have w0:=EH c9 1 1000 b0 e0;have w1:=EH c12 1 1000 b1 e1;obtain rfl:o=(b0 && b1):=by rw[ho,e0,e1,<- Bool.decide_and];apply decide_eq_decide.2;omega
 clear ho e0 e1
 cases b0<;>(
  refine Z.y Tryz.func194 λ_ _ _ _ _ _ _ _ _ _ _ _ _ hz R hR P hP=>?_;cbv;repeat' (first|(refine Call.s hP w0 ?_;cbv)|(refine Call.s hP w1 ?_;cbv)|fail)
  exact Z.r hR)
theorem av(h0:1<=c0)(h1:c0<=1024)(h2:0<=c2)(h3:c2<=8388608)(o:Bool)(ho:o=decide (¬(c10<(c2+c0-1)/c0\/c10<IntKind.i64.wrap (3*c3)\/16777216<c10))):A9 Tryz.prog 195 [.cref (cfL c0 c1 c2 c3 c4 c5 c6 c7 c8 c9 c10 c11 c12 c13)] (· = .bool o):=by
 obtain⟨p,ep⟩:∃p,p=(c2+c0-1)/c0:=⟨_,rfl⟩;obtain⟨t,et⟩:=Z.e (IntKind.i64.wrap (3*c3));obtain⟨m,em⟩:=Z.e (AL true p t);have q1:=aV c0 c1 c2 c3 c4 c5 c6 c7 c8 c9 c10 c11 c12 c13 p h0 h1 h2 h3 ep;rw[<- ep,<- et] at ho;have hm:m=max p t:=by rw[em];unfold AL;simp;omega
 have q2:=EH c10 m 16777216 o (by rw[ho];apply decide_eq_decide.2;omega);clear ho ep hm;(refine A9.ofY Tryz.func195 (by kernel_rfl) (by kernel_rfl) (Z.w λzB _ _ _ _ _ yO _ _ _ _ _ _ _ _ _ _ _ _ _ _ zC _ _ _ _ _ yS _ _ _ _ _ _ _ _ _ _ _ _ _ hz R hR=>?_));(conv=>arg 2;cbv);(generalize hP:Tryz.prog=P);cbv;have v1:zB .mul .i64 3 c3=t:=by rw[zC];exact et.symm
 have v2:yO true p t=m:=by rw[yS];exact em.symm
 repeat' (first
  | (refine AB.stepE (by rw[<- hP];exact q1) rfl ?_;cbv)
  | (simp only[v1];cbv)
  | (simp only[v1])
  | (simp only[v2])
  | (refine Call.stepE (by rw[<- hP];exact q2) rfl ?_;cbv)
  | (refine AB.stepE (by rw[<- hP];exact q2) rfl ?_;cbv)
  | fail)
 exact Z.r hR
theorem ax(o:Bool)(ho:o=decide (¬(c11<0\/1073741824<c11))):A9 Tryz.prog 197 [.cref (cfL c0 c1 c2 c3 c4 c5 c6 c7 c8 c9 c10 c11 c12 c13)] (· = .bool o):=by
 have w0:=EH c11 0 1073741824 o (by rw[ho];apply decide_eq_decide.2;omega);refine Z.y Tryz.func197 λ_ _ _ _ _ _ _ _ _ _ _ _ _ hz R hR P hP=>?_;cbv;repeat' (first|(refine Call.s hP w0 ?_;cbv)|fail)
 exact Z.r hR
theorem ay(o:Bool)(ho:o=decide (¬(c13<1\/1048576<c13))):A9 Tryz.prog 198 [.cref (cfL c0 c1 c2 c3 c4 c5 c6 c7 c8 c9 c10 c11 c12 c13)] (· = .bool o):=by
 have w0:=EH c13 1 1048576 o (by rw[ho];apply decide_eq_decide.2;omega);refine Z.y Tryz.func198 λ_ _ _ _ _ _ _ _ _ _ _ _ _ hz R hR P hP=>?_;cbv;repeat' (first|(refine Call.s hP w0 ?_;cbv)|fail)
 exact Z.r hR
theorem az:A9 Tryz.prog 135 [.agg (cfL c0 c1 c2 c3 c4 c5 c6 c7 c8 c9 c10 c11 c12 c13)] (· = .list 1 (ruR (cfL c0 c1 c2 c3 c4 c5 c6 c7 c8 c9 c10 c11 c12 c13))):=by
 refine Z.y Tryz.func135 λ_ _ _ _ _ _ _ _ _ _ _ _ _ hz R hR P hP=>?_;cbv;refine⟨_,Vw.rows (rs:=ruR (cfL c0 c1 c2 c3 c4 c5 c6 c7 c8 c9 c10 c11 c12 c13)) rfl (λr hr=>?_) λi r hi=>?_,hR _ rfl⟩
 ·obtain⟨g,_,rfl⟩:=List.mem_map.1 hr
  rfl
 ·have hir:=(List.getElem?_eq_some_iff.1 hi).1
  simp only[ruR,ruI,List.map_cons,List.map_nil,List.length_cons,List.length_nil] at hir;have hi':i=0\/i=1\/i=2\/i=3\/i=4\/i=5\/i=6\/i=7\/i=8\/i=9\/i=10\/i=11:=(by omega);rcases hi' with rfl|rfl|rfl|rfl|rfl|rfl|rfl|rfl|rfl|rfl|rfl|rfl
  all_goals
   simp only[ruR,ruI,List.map_cons,List.getElem?_cons_zero,List.getElem?_cons_succ,Option.some.injEq] at hi;subst hi;exact⟨_,rfl,⟨Vw.func trivial ⟨Vw.ref (es:=[cfL c0 c1 c2 c3 c4 c5 c6 c7 c8 c9 c10 c11 c12 c13]) (row:=cfL c0 c1 c2 c3 c4 c5 c6 c7 c8 c9 c10 c11 c12 c13) rfl rfl rfl (Nat.zero_le _) Z.d,trivial⟩,trivial⟩⟩
theorem ruAt(i:Nat)(g:Nat)(o:Bool)(hg:ruI[i]?=some g)(ho:(ruO c0 c1 c2 c3 c4 c5 c6 c7 c8 c9 c10 c11 c12 c13)[i]?=some o)(hp:∀j,j<i->(ruO c0 c1 c2 c3 c4 c5 c6 c7 c8 c9 c10 c11 c12 c13)[j]?=some true):A9 Tryz.prog g [.cref (cfL c0 c1 c2 c3 c4 c5 c6 c7 c8 c9 c10 c11 c12 c13)] (· = .bool o):=by
 have hi:i<12:=(List.getElem?_eq_some_iff.1 hg).1;have hi':i=0\/i=1\/i=2\/i=3\/i=4\/i=5\/i=6\/i=7\/i=8\/i=9\/i=10\/i=11:=by omega
 rcases hi' with rfl|rfl|rfl|rfl|rfl|rfl|rfl|rfl|rfl|rfl|rfl|rfl<;>obtain rfl:=Option.some.inj (show some _=some g from hg)<;>have ho:=(Option.some.inj (show some _=some o from ho)).symm
 ·exact aW c0 c1 c2 c3 c4 c5 c6 c7 c8 c9 c10 c11 c12 c13 o ho
 ·exact aX c0 c1 c2 c3 c4 c5 c6 c7 c8 c9 c10 c11 c12 c13 o ho
 ·exact aY c0 c1 c2 c3 c4 c5 c6 c7 c8 c9 c10 c11 c12 c13 o ho
 ·exact aZ c0 c1 c2 c3 c4 c5 c6 c7 c8 c9 c10 c11 c12 c13 o ho
 ·exact aa c0 c1 c2 c3 c4 c5 c6 c7 c8 c9 c10 c11 c12 c13 o ho
 ·exact af c0 c1 c2 c3 c4 c5 c6 c7 c8 c9 c10 c11 c12 c13 o ho
 ·exact ah c0 c1 c2 c3 c4 c5 c6 c7 c8 c9 c10 c11 c12 c13 o ho
 ·exact ak c0 c1 c2 c3 c4 c5 c6 c7 c8 c9 c10 c11 c12 c13 o ho
 ·exact au c0 c1 c2 c3 c4 c5 c6 c7 c8 c9 c10 c11 c12 c13 o ho
 ·have h1:=of_decide_eq_true (Option.some.inj (show some (decide _)=some true from hp 0 Z.d))
  have h2:=of_decide_eq_true (Option.some.inj (show some (decide _)=some true from hp 1 Z.d));exact av c0 c1 c2 c3 c4 c5 c6 c7 c8 c9 c10 c11 c12 c13 Z.o Z.o Z.o Z.o o ho
 ·exact ax c0 c1 c2 c3 c4 c5 c6 c7 c8 c9 c10 c11 c12 c13 o ho
 ·exact ay c0 c1 c2 c3 c4 c5 c6 c7 c8 c9 c10 c11 c12 c13 o ho
theorem firW:E8 c0 c1 c2 c3 c4 c5 c6 c7 c8 c9 c10 c11 c12 c13=Jf (ruO c0 c1 c2 c3 c4 c5 c6 c7 c8 c9 c10 c11 c12 c13) 1:=by
 simp only[E8,Jf,ruO,decide_eq_true_eq,ite_not];rfl
theorem a_(w:Int)(ny:w=E8 c0 c1 c2 c3 c4 c5 c6 c7 c8 c9 c10 c11 c12 c13)(e:Int)(he:e=if w=0 then 0 else 50):A9 Tryz.prog 80 [.agg [c0,c1,c2,c3,c4,c5,c6,c7,c8,c9,c10,c11,c12,c13]] (· = .tuple [e,w]):=by
 have q0:=az c0 c1 c2 c3 c4 c5 c6 c7 c8 c9 c10 c11 c12 c13;have qa:=ruAt c0 c1 c2 c3 c4 c5 c6 c7 c8 c9 c10 c11 c12 c13;rw[firW] at ny;obtain⟨O,eO⟩:=Z.e (ruO c0 c1 c2 c3 c4 c5 c6 c7 c8 c9 c10 c11 c12 c13);rw[<- eO] at ny;simp only[<- eO] at qa;have hO:O.length=12:=by rw[eO];rfl
 obtain⟨RL,eRL⟩:=Z.e (ruR (cfL c0 c1 c2 c3 c4 c5 c6 c7 c8 c9 c10 c11 c12 c13));rw[<- eRL] at q0;clear eO;refine Z.y Tryz.func80 λzB _ _ _ zF zK hw zC zA _ _ zI zH hz R hR P hP=>?_;cbv;refine Call.stepE (by rw[<- hP];exact q0) rfl ?_;have l12:zK RL=12:=by rw[zH,eRL];rfl
 cbv;simp only[l12];have huR:Up0 RL:=by rw[eRL];exact⟨rfl⟩
 refine Ae.data hw (S:=Int) (λi=>fr 20 [(2,jz 0),(3,jz 0),(7,.list 1 RL),(8,jz 12),(9,i)]) (λ_=>[]) (λi=>0<=i/\i<=12/\w=Jf (O.drop i.toNat) (i+1)/\∀j,j<i.toNat->O[j]?=some true) (λi=>(12-i).toNat) 0 Z.i ⟨Int.le_refl _,by decide,by simpa using ny,λj hj=>by simp at hj⟩ ?_;rintro i zJ Q' hN hE hR';have zJ:0<=i/\i<=12/\w=Jf (O.drop i.toNat) (i+1)/\∀j,j<i.toNat->O[j]?=some true:=zJ;obtain⟨zW,yZ,wK,hpr⟩:=zJ;have nt:zF true=false:=by rw[zI];rfl
 have nf:zF false=true:=by rw[zI];rfl
 by_cases yC:i<12
 ·obtain⟨g,hg⟩:∃g,ruI[i.toNat]?=some g:=⟨_,List.getElem?_eq_getElem (show i.toNat<12 by omega)⟩
  obtain⟨o,ho⟩:∃o,O[i.toNat]?=some o:=⟨_,List.getElem?_eq_getElem (show i.toNat<O.length by omega)⟩;have q:=qa i.toNat g o hg ho hpr;have zL:RL[i.toNat]?=some [.func (.func g) [] [.cref (cfL c0 c1 c2 c3 c4 c5 c6 c7 c8 c9 c10 c11 c12 c13)]]:=(by rw[eRL];simp only[ruR,List.getElem?_map,hg,Option.map_some]);unfold cfL at q zL;obtain⟨i2,kW⟩:=Z.e (i+1);have a4:zB .add .i64 i 1=i2:=(by rw[zC,Ag Z.o Z.o,kW]);have ck:=W.lt zA yC;have hT:(12-i2).toNat<(12-i).toNat:=by omega
  have lL:O.drop i.toNat=o::O.drop i2.toNat:=by
   have h1:=(List.getElem?_eq_some_iff.1 ho);rw[List.drop_eq_getElem_cons h1.1,h1.2,show i2.toNat=i.toNat+1 by omega]
  rw[lL] at wK;clear hg lL eRL q0 qa
  cases o with
  | false =>
    have hwi:w=i2:=(by rw[wK,kW];rfl);have hR1:R (.tuple [jz 50,i2]):=hR _ (by rw[he,if_neg Z.o,hwi]);clear he hwi wK ho hpr;cbv;repeat' (first|(simp only[ck,nf,a4];cbv)|(refine Call.s hP q ?_;cbv)|(refine Idx.mk _ zW zL ?_;cbv)|fail)
    exact hR' _ _ ⟨_,Vw.same rfl,hR1⟩
  | true =>
    have hwi:w=Jf (O.drop i2.toNat) (i2+1):=by rw[wK,<- kW];rfl
    have mH:∀j,j<i2.toNat->O[j]?=some true:=λj hj=>by
     by_cases uD:j=i.toNat
     ·rw[uD];exact ho
     ·exact hpr j Z.o
    clear wK ho hpr;cbv;repeat' (first|(simp only[ck,nt,a4];cbv)|(refine Call.s hP q ?_;cbv)|(refine Idx.mk _ zW zL ?_;cbv)|fail)
    refine hN i2 _ _ ?_ ⟨by omega,by omega,hwi,mH⟩ hT;exact Z.i
 ·have ck:=W.nlt zA (show 12<=i by omega)
  rw[List.drop_eq_nil_of_le Z.o] at wK;have hR1:R (.tuple [jz 0,jz 0]):=hR _ (by rw[he,if_pos (by rw[wK];rfl),wK];rfl);clear wK hpr he;cbv;repeat' (first|(simp only[ck];cbv)|fail)
  refine hE _ _ _ ?_;cbv;exact⟨_,Vw.same rfl,hR1⟩
end
def Ih(ss:List Sg)(gs:List Gr)(c6 c8:Int)(j:Nat):Prop:=
 ∀g,gs[j]?=some g->g.acc+c8+c6<=g.off/\∀s,ss[g.seg.toNat]?=some s->g.acc+c8+c6<=s.len-g.off
structure Dl(w c6 c8:Int)(ss:List Sg)(gs:List Gr):Prop where
 wr:w=0
 tr:BN ss gs
 fit:∀j,j<gs.length->Ih ss gs c6 c8 j
theorem bA(c0 c1 c2 c3 c4 c5 c6 c7 c8 c9 c10 c11 c12 c13 g1 g2 g3 g4 g5 v:Int)(h4:0<=g4/\g4<=1048576)(h8:0<=c8/\c8<=1048576)(h6:0<=c6/\c6<=16777216)(hv:v=g4+c8+c6):A9 Tryz.prog 81 [.agg [c0,c1,c2,c3,c4,c5,c6,c7,c8,c9,c10,c11,c12,c13],.agg [g1,g2,g3,g4,g5]] (· = jz v):=by
 obtain⟨x,ex⟩:=Z.e (g4+c8);refine Z.y Tryz.func81 λzB _ _ _ _ _ _ zC _ _ _ _ _ hz R hR P hP=>?_;cbv;have a1:zB .add .i64 g4 c8=x:=by rw[zC,Ag Z.o Z.o,ex]
 have a2:zB .add .i64 x c6=v:=by rw[zC,Ag Z.o Z.o];omega
 simp only[a1,a2];exact Z.r hR
theorem WG(c0 c1 c2 c3 c4 c5 c6 c7 c8 c9 c10 c11 c12 c13:Int)(ss:List Sg)(gs:List Gr)(qG:ss.length<=1000000)(uF:gs.length<=1000000)(es ds:List (List AV))(zQ:es=ss.map Ah)(zY:ds=gs.map Ak):A9 Tryz.prog 34 [.agg [c0,c1,c2,c3,c4,c5,c6,c7,c8,c9,c10,c11,c12,c13],.agg [.list 3 es,.list 5 ds]] (λr=>∃e i,r = .tuple [jz e,jz i]/\(e=0↔Dl (E8 c0 c1 c2 c3 c4 c5 c6 c7 c8 c9 c10 c11 c12 c13) c6 c8 ss gs)):=by
 have hu:Up0 es:=by rw[zQ];exact Bu ss
 have lH:Up0 ds:=by rw[zY];exact Bv gs
 have uG:es.length=ss.length:=by rw[zQ];simp
 have uH:ds.length=gs.length:=by rw[zY];simp
 obtain⟨w,ew⟩:=Z.e (E8 c0 c1 c2 c3 c4 c5 c6 c7 c8 c9 c10 c11 c12 c13);obtain⟨ew0,eew⟩:∃e:Int,e=if w=0 then 0 else 50:=⟨_,rfl⟩
 have q1:=a_ c0 c1 c2 c3 c4 c5 c6 c7 c8 c9 c10 c11 c12 c13 w ew ew0 eew;have xX:w=0->ES c0 c1 c2 c3 c4 c5 c6 c7 c8 c9 c10 c11 c12 c13:=λh=>LH (by rw[<- ew,h]);rw[<- ew];clear ew;by_cases ny:w=0
 rotate_left 1
 ·rw[if_neg ny] at eew
  subst eew;refine Z.y Tryz.func34 λ_ _ _ _ _ _ _ _ zA _ _ _ _ hz R hR P hP=>?_;cbv;have d1:=W.ne zA (show (50:Int)≠0 by decide);repeat' (first|(simp only[d1];cbv)|(refine Call.s hP q1 ?_;cbv)|fail)
  exact⟨_,Vw.same rfl,hR _ ⟨_,_,rfl,λh=>absurd h Z.d,λh=>absurd h.wr ny⟩⟩
 rw[if_pos ny] at eew;subst eew;have hCC:=xX ny;unfold ES at hCC;have h6:0<=c6/\c6<=16777216:=by omega
 have h8:0<=c8/\c8<=1048576:=by omega
 clear hCC xX
 have qQ:∀j:Nat,BN ss gs->∀g,gs[j]?=some g->0<=g.seg/\g.seg.toNat<ss.length/\0<=g.off/\g.off<=1099511627776/\0<=g.acc/\g.acc<=1048576/\∀s,ss[g.seg.toNat]?=some s->g.off<=s.len/\s.len<=1099511627776:=λj hT g hg=>by
  obtain⟨k1,k2,k3,k4,k5,k6,k7,k8,k9,qz,uQ⟩:=hT.grp j (List.getElem?_eq_some_iff.1 hg).1 g hg;have hs:=λs hs=>(hT.seg g.seg.toNat k4 s hs).le;obtain⟨s,vE⟩:∃s,ss[g.seg.toNat]?=some s:=⟨_,List.getElem?_eq_getElem k4⟩;exact⟨k3,k4,k5,by have:=k6 s vE;have:=hs s vE;omega,k7,k8,λs h=>⟨k6 s h,hs s h⟩⟩
 refine Z.y Tryz.func34 λzB _ _ _ _ _ hw zC zA _ _ _ zH hz R hR P hP=>?_;cbv;obtain⟨J,eJ,J0,Jn⟩:=Z.l zH ds;have d1:=W.nne zA (a:=0) rfl;repeat' (first|(simp only[d1];cbv)|(refine Call.s hP q1 ?_;cbv)|fail)
 refine Call.step (by rw[<- hP];exact QI ss gs qG uF es ds zQ zY) Z.u ?_;rintro r ⟨e,i0,rfl,he⟩;cbv;by_cases qK:e=0
 rotate_left 1
 ·have d2:=W.ne zA qK
  simp only[d2];cbv;exact⟨_,Vw.same rfl,hR _ ⟨_,_,rfl,λh=>absurd h Z.d,λh=>absurd (he.2 h.tr) qK⟩⟩
 have hT:=he.1 qK;have d2:=W.nne zA qK;simp only[d2];cbv;simp only[eJ];refine Ae.data hw (S:=Int) (λi=>fr 61 [(2,.ref 0 14 0 0),(3,.ref 1 2 0 0),(30,.list 5 ds),(31,J),(32,i)]) (λi=>[.live 14 [[c0,c1,c2,c3,c4,c5,c6,c7,c8,c9,c10,c11,c12,c13]],.live 2 [[.list 3 es,.list 5 ds]]]) (λi=>0<=i/\i<=J/\∀j,j<i.toNat->Ih ss gs c6 c8 j) (λi=>(J-i).toNat) 0 Z.i ⟨Int.le_refl _,J0,λj hj=>(by simp at hj)⟩ ?_;rintro i zJ Q' hN hE hR';have zJ:0<=i/\i<=J/\∀j,j<i.toNat->Ih ss gs c6 c8 j:=zJ;cbv;obtain⟨zW,yZ,hl⟩:=zJ;(split<;>rename_i hc<;>(try (simp only[eJ] at hc))<;>(try (simp only[hz,Z.a,AF,AC,AO,AP,AL,reduceCtorEq] at hc))<;>(try cbv))
 ·obtain⟨⟨g1,g2,g3,g4,g5⟩,hd,zL⟩:=BI (f:=Ak) (ds:=gs) (i:=i) zW Z.o
  have zL:ds[i.toNat]?=some [jz g1,jz g2,jz g3,jz g4,jz g5]:=(by rw[zY];exact zL);obtain⟨k1,k2,k3,k4,k5,k6,k7⟩:=qQ i.toNat hT _ hd;simp only at k1 k2 k3 k4 k5 k6 k7;obtain⟨⟨len,ps,nx⟩,hs1,hs2⟩:=BI (f:=Ah) (ds:=ss) (i:=g2) k1 k2;obtain⟨q1,oW⟩:=Z.f (ps.map Ap);obtain⟨m1,lK⟩:=Z.f (nx.map Ac);have hs2:es[g2.toNat]?=some [jz len,.list 2 q1,.list 1 m1]:=(by rw[zQ,<- oW,<- lK];exact hs2);obtain⟨k8,k9⟩:=k7 _ hs1;simp only at k8 k9;obtain⟨i',mq⟩:=Z.f (i+1);have ei:zB .add .i64 i 1=i':=(by rw[zC,Ag Z.o Z.o];exact mq);have n_:(J-i').toNat<(J-i).toNat:=(by omega);obtain⟨left,eleft⟩:=Z.e (len-g3);obtain⟨far,efar⟩:=Z.e (g4+c8+c6);have a1:zB .sub .i64 len g3=left:=(by rw[zC,Bj Z.o Z.o,eleft]);have q2:=bA c0 c1 c2 c3 c4 c5 c6 c7 c8 c9 c10 c11 c12 c13 g1 g2 g3 g4 g5 far ⟨k5,k6⟩ h8 h6 efar
  have key:Ih ss gs c6 c8 i.toNat↔far<=g3/\far<=left:=by
   constructor
   ·intro h
    obtain⟨h1,h2⟩:=h _ hd;have:=h2 _ hs1;simp only at h1 this;omega
   ·rintro⟨h1,h2⟩ g hg
    rw[hd] at hg;obtain rfl:(⟨g1,g2,g3,g4,g5⟩:Gr)=g:=(by simpa using hg);refine⟨by simp only;omega,λs hs=>?_⟩;simp only at hs;rw[hs1] at hs;obtain rfl:(⟨len,ps,nx⟩:Sg)=s:=(by simpa using hs);simp only;omega
  have zu:∀P:Nat->Prop,(∀j,j<i.toNat->P j)->P i.toNat->∀j,j<i'.toNat->P j:=λP h1 h2=>(by rw[<- mq];exact Fj zW h1 h2);have bad:¬(far<=g3/\far<=left)->R (.tuple [jz 11,i]):=λh=>hR _ ⟨_,_,rfl,λh0=>absurd h0 Z.d,λhM=>absurd (key.1 (hM.fit i.toNat Z.o)) h⟩;refine Idx.mk [jz g1,jz g2,jz g3,jz g4,jz g5] zW zL ?_;cbv;refine Idx.mk _ k1 hs2 ?_;cbv;simp only[a1];repeat' (first|(refine Call.s hP q2 ?_;cbv)|fail)
  (split<;>rename_i h1<;>(try (simp only[hz,Z.a,AF,AC,AO,AP,AL,reduceCtorEq] at h1))<;>(try cbv))
  ·exact hR' _ _ ⟨_,Vw.same rfl,bad Z.o⟩
  (split<;>rename_i h2<;>(try (simp only[hz,Z.a,AF,AC,AO,AP,AL,reduceCtorEq] at h2))<;>(try cbv))
  ·exact hR' _ _ ⟨_,Vw.same rfl,bad Z.o⟩
  simp only[ei];refine hN i' _ _ ?hx ?hi n_
  case hx=>exact Z.i
  case hi=>exact⟨by omega,by omega,zu _ hl (key.2 ⟨by omega,by omega⟩)⟩
 ·refine hE _ _ _ ?_
  cbv;exact⟨_,Vw.same rfl,hR _ ⟨_,_,rfl,λ_=>⟨ny,hT,λj hj=>hl j Z.o⟩,λ_=>rfl⟩⟩
theorem YC(ss:List Sg)(gs:List Gr)(es ds:List (List AV))(zQ:es=ss.map Ah)(zY:ds=gs.map Ak):A9 Tryz.prog 43 [.agg [.list 3 es,.list 5 ds]] (λr=>∃e i,r = .tuple [jz e,jz i]/\(e=0↔BN ss gs)):=by
 have hu:Up0 es:=by rw[zQ];exact Bu ss
 have lH:Up0 ds:=by rw[zY];exact Bv gs
 have uG:es.length=ss.length:=by rw[zQ];simp
 have uH:ds.length=gs.length:=by rw[zY];simp
 refine Z.y Tryz.func43 λzB _ _ _ _ _ hw zC _ yJ _ _ zH hz R hR P hP=>?_;cbv;obtain⟨L,eL,L0,Ln⟩:=Z.l zH es;obtain⟨J,eJ,J0,Jn⟩:=Z.l zH ds;have hF:∀e i:Int,e≠0->¬BN ss gs->R (.tuple [e,i]):=λe i he hn=>hR _ ⟨_,_,rfl,λh=>absurd h he,λh=>absurd h hn⟩;(split<;>rename_i h1<;>(try (simp only[eL] at h1))<;>(try (simp only[hz,Z.a,AF,AC,AO,AP,AL,reduceCtorEq] at h1))<;>(try cbv))
 ·exact⟨_,Vw.same rfl,hF _ _ Z.d λhM=>(by have:=hM.ne;omega)⟩
 (split<;>rename_i h2<;>(try (simp only[eL] at h2))<;>(try (simp only[hz,Z.a,AF,AC,AO,AP,AL,reduceCtorEq] at h2))<;>(try cbv))
 ·exact⟨_,Vw.same rfl,hF _ _ Z.d λhM=>(by have:=hM.le;omega)⟩
 (split<;>rename_i h3<;>(try (simp only[eJ] at h3))<;>(try (simp only[hz,Z.a,AF,AC,AO,AP,AL,reduceCtorEq] at h3))<;>(try cbv))
 ·exact⟨_,Vw.same rfl,hF _ _ Z.d λhM=>(by have:=hM.gle;omega)⟩
 refine Ae.data hw (S:=Int) (λi=>fr 115 [(1,.ref 0 2 0 0),(4,i)]) (λi=>[.live 2 [[.list 3 es,.list 5 ds]]]) (λi=>0<=i/\i<=L/\∀j,j<i.toNat->∀s,ss[j]?=some s->Ci s L) (λi=>(L-i).toNat) 0 Z.i ⟨Int.le_refl _,L0,λj hj=>(by simp at hj)⟩ ?_;rintro i zJ Q' hN hE hR';have zJ:0<=i/\i<=L/\∀j,j<i.toNat->∀s,ss[j]?=some s->Ci s L:=zJ;cbv;obtain⟨zW,yZ,hl⟩:=zJ;have hLL:∀s,Ci s (ss.length:Int)↔Ci s L:=λs=>by rw[show (ss.length:Int)=L by omega]
 (split<;>rename_i hc<;>(try (simp only[eL] at hc))<;>(try (simp only[hz,Z.a,AF,AC,AO,AP,AL,reduceCtorEq] at hc))<;>(try cbv))
 ·obtain⟨⟨len,ps,nx⟩,hd,zL⟩:=BI (f:=Ah) (ds:=ss) (i:=i) zW Z.o
  obtain⟨q1,oW⟩:=Z.f (ps.map Ap);obtain⟨n1,lK⟩:=Z.f (nx.map Ac);have zL:es[i.toNat]?=some [jz len,.list 2 q1,.list 1 n1]:=(by rw[zQ,<- oW,<- lK];exact zL);have huq:Up0 q1:=(by rw[<- oW];exact E5 ps);have yJ:Up0 n1:=(by rw[<- lK];exact CG nx);obtain⟨i',mq⟩:=Z.f (i+1);have ei:zB .add .i64 i 1=i':=(by rw[zC,Ag Z.o Z.o];exact mq);have hT:(L-i').toNat<(L-i).toNat:=(by omega);refine Idx.mk [jz len,.list 2 q1,.list 1 n1] zW zL ?_;cbv;simp only[eL];obtain⟨o,qQ,ho⟩:=YD ⟨len,ps,nx⟩ q1 n1 oW.symm lK.symm L;refine AB.stepE (by rw[<- hP];exact qQ) (by exact Bool.and_eq_true_iff.mpr ⟨RG huq yJ,rfl⟩) ?_;cbv;(split<;>rename_i h<;>(try (simp only[hz,Z.a,AF,AC,AO,AP,AL,reduceCtorEq] at h))<;>(try cbv))
  ·exact hR' _ _ ⟨_,Vw.same rfl,hF _ _ Z.d λhM=>(by have:=ho.2 ((hLL _).1 (hM.seg i.toNat Z.o _ hd));rw[h] at this;cases this)⟩
  refine hN i' _ _ ?hx ?hi hT
  case hx=>exact Z.i
  case hi =>
   refine⟨by omega,by omega,?_⟩;rw[<- mq];refine Fj zW hl λm hm=>?_;rw[hd] at hm;obtain rfl:(⟨len,ps,nx⟩:Sg)=m:=(by simpa using hm);exact ho.1 h
 refine hE _ _ _ ?_;cbv;have qQ:∀j,j<ss.length->∀s,ss[j]?=some s->Ci s L:=λj hj=>hl j Z.o;clear hl hN hE hR';refine Ae.data hw (S:=Int×Int) (λs=>fr 115 [(1,.ref 0 2 0 0),(5,s.2),(6,s.1)]) (λs=>[.live 2 [[.list 3 es,.list 5 ds]]]) (λs=>0<=s.1/\s.1<=J/\0<=s.2/\(s.1=0->s.2=0)/\(0<s.1->∀o,gs[s.1.toNat-1]?=some o->s.2=o.id)/\∀j,j<s.1.toNat->Ig ss gs j) (λs=>(J-s.1).toNat) (0,0) Z.i ⟨Int.le_refl _,J0,Int.le_refl _,λ_=>rfl,λh=>absurd h Z.d,λj hj=>(by simp at hj)⟩ ?_
 rintro⟨i,last⟩ zJ Q' hN hE hR'
 have zJ:0<=i/\i<=J/\0<=last/\(i=0->last=0)/\(0<i->∀o,gs[i.toNat-1]?=some o->last=o.id)/\∀j,j<i.toNat->Ig ss gs j:=zJ;cbv;obtain⟨zW,yZ,hla,hl00,lg,hl⟩:=zJ;(split<;>rename_i hc<;>(try (simp only[eJ] at hc))<;>(try (simp only[hz,Z.a,AF,AC,AO,AP,AL,reduceCtorEq] at hc))<;>(try cbv))
 ·obtain⟨⟨g1,g2,g3,g4,g5⟩,hd,zL⟩:=BI (f:=Ak) (ds:=gs) (i:=i) zW Z.o
  have zL:ds[i.toNat]?=some [jz g1,jz g2,jz g3,jz g4,jz g5]:=(by rw[zY];exact zL);obtain⟨i',mq⟩:=Z.f (i+1);have ei:zB .add .i64 i 1=i':=(by rw[zC,Ag Z.o Z.o];exact mq);have hT:(J-i').toNat<(J-i).toNat:=(by omega);refine Idx.mk [jz g1,jz g2,jz g3,jz g4,jz g5] zW zL ?_;cbv
  obtain⟨len,q1,n1,yD⟩:∃len q1 n1,0<=g2/\g2<L->es[g2.toNat]?=some [jz len,.list 2 q1,.list 1 n1]/\∀s,ss[g2.toNat]?=some s->s.len=len:=by
   by_cases h:0<=g2/\g2<L
   ·obtain⟨⟨len,ps,nx⟩,k1,k2⟩:=BI (f:=Ah) (ds:=ss) (i:=g2) h.1 Z.o
    exact⟨len,_,_,λ_=>⟨by rw[zQ];exact k2,λs hs=>by rw[k1] at hs;obtain rfl:(⟨len,ps,nx⟩:Sg)=s:=(by simpa using hs);rfl⟩⟩
   ·exact⟨0,[],[],λh'=>absurd h' h⟩
  have hG:BN ss gs->(0<g1/\g1<=65535/\0<=g2/\g2<L)/\0<=g3/\g3<=len/\0<=g4/\g4<=1048576/\0<=g5/\g5<=16777216/\last<g1:=λhM=>by
   obtain⟨k1,k2,k3,k4,k5,k6,k7,k8,k9,qz,uQ⟩:=hM.grp i.toNat Z.o _ hd;simp only at k1 k2 k3 k4 k5 k6 k7 k8 k9 qz uQ;obtain⟨s,hs⟩:∃s,ss[g2.toNat]?=some s:=⟨_,List.getElem?_eq_getElem k4⟩;have h1:=k6 s hs;have h2:=(yD ⟨k3,by omega⟩).2 s hs;refine⟨⟨k1,k2,k3,by omega⟩,k5,by omega,k7,k8,k9,qz,?_⟩;by_cases hz:i=0
   ·have:=hl00 hz;omega
   ·obtain⟨o,ho⟩:∃o,gs[i.toNat-1]?=some o:=⟨_,List.getElem?_eq_getElem Z.o⟩
    have q1:=lg Z.o o ho;have q2:=uQ Z.o o ho;omega
  repeat' (first
   | exact hR' _ _ ⟨_,Vw.same rfl,hF _ _ Z.d λhM=>(by have:=hG hM;omega)⟩
   | (refine Idx.mk [jz len,.list 2 q1,.list 1 n1] Z.m (yD ⟨by assumption,by assumption⟩).1 ?_;cbv)
   | (split<;>rename_i h<;>(try (simp only[eL] at h))<;>(try (simp only[hz,Z.a,AF,AC,AO,AP,AL,reduceCtorEq] at h))<;>(try cbv)))
  all_goals
   refine hN (i',g1) _ _ ?hx ?hi hT
   case hx=>exact Z.i
   case hi =>
    refine⟨by simp only;omega,by simp only;omega,by simp only;omega,λhz=>by simp only at hz;omega,λ_ o ho=>?_,?_⟩
    ·simp only at ho
     rw[show i'.toNat-1=i.toNat by omega,hd] at ho;obtain rfl:(⟨g1,g2,g3,g4,g5⟩:Gr)=o:=(by simpa using ho);rfl
    ·simp only
     rw[<- mq];refine Fj zW hl λg hg=>?_;rw[hd] at hg;obtain rfl:(⟨g1,g2,g3,g4,g5⟩:Gr)=g:=(by simpa using hg);refine⟨by simp only;omega,by simp only;omega,by simp only;omega,by simp only;omega,by simp only;omega,λs hs=>?_,by simp only;omega,by simp only;omega,by simp only;omega,by simp only;omega,λhj o ho=>?_⟩
     ·rw[(yD ⟨by omega,by omega⟩).2 s hs];assumption
     ·have:=lg Z.o o ho
      simp only;omega
 refine hE _ _ _ ?_;cbv;have eLL:L=ss.length:=by omega
 exact⟨_,Vw.same rfl,hR _ ⟨_,_,rfl,λ_=>⟨by omega,by omega,by omega,λj hj s hs=>(by rw[<- eLL];exact qQ j hj s hs),λj hj=>hl j Z.o⟩,λ_=>rfl⟩⟩
theorem YE(c0 c1 c2 c3 c4 c5 c6 c7 c8 c9 c10 c11 c12 c13:Int)(ss:List Sg)(gs:List Gr)(qG:ss.length<=1000000)(uF:gs.length<=1000000)(es ds:List (List AV))(zQ:es=ss.map Ah)(zY:ds=gs.map Ak):A9 Tryz.prog 17 [.agg [c0,c1,c2,c3,c4,c5,c6,c7,c8,c9,c10,c11,c12,c13],.agg [.list 3 es,.list 5 ds]] (λr=>∃e i,r = .tuple [jz e,jz i]/\(e=0↔Dl (E8 c0 c1 c2 c3 c4 c5 c6 c7 c8 c9 c10 c11 c12 c13) c6 c8 ss gs)):=by
 have hu:Up0 es:=by rw[zQ];exact Bu ss
 have lH:Up0 ds:=by rw[zY];exact Bv gs
 have uG:es.length=ss.length:=by rw[zQ];simp
 have uH:ds.length=gs.length:=by rw[zY];simp
 obtain⟨w,ew⟩:=Z.e (E8 c0 c1 c2 c3 c4 c5 c6 c7 c8 c9 c10 c11 c12 c13);have q1:=YF c0 c1 c2 c3 c4 c5 c6 c7 c8 c9 c10 c11 c12 c13;have xX:w=0->ES c0 c1 c2 c3 c4 c5 c6 c7 c8 c9 c10 c11 c12 c13:=λh=>LH (by rw[<- ew,h]);rw[<- ew] at q1 ⊢;clear ew;by_cases ny:w=0
 rotate_left 1
 ·refine Z.y Tryz.func17 λ_ _ _ _ _ _ _ _ zA _ _ _ _ hz R hR P hP=>?_;cbv
  have d1:=W.ne zA ny;repeat' (first|(simp only[d1];cbv)|(refine Call.s hP q1 ?_;cbv)|fail)
  exact⟨_,Vw.same rfl,hR _ ⟨_,_,rfl,λh=>absurd h Z.d,λh=>absurd h.wr ny⟩⟩
 subst ny;have hCC:=xX rfl;unfold ES at hCC;have h6:0<=c6/\c6<=16777216:=by omega
 have h8:0<=c8/\c8<=1048576:=by omega
 clear hCC xX
 have qQ:∀j:Nat,BN ss gs->∀g,gs[j]?=some g->0<=g.seg/\g.seg.toNat<ss.length/\0<=g.off/\g.off<=1099511627776/\0<=g.acc/\g.acc<=1048576/\∀s,ss[g.seg.toNat]?=some s->g.off<=s.len/\s.len<=1099511627776:=λj hT g hg=>by
  obtain⟨k1,k2,k3,k4,k5,k6,k7,k8,k9,qz,uQ⟩:=hT.grp j (List.getElem?_eq_some_iff.1 hg).1 g hg;have hs:=λs hs=>(hT.seg g.seg.toNat k4 s hs).le;obtain⟨s,vE⟩:∃s,ss[g.seg.toNat]?=some s:=⟨_,List.getElem?_eq_getElem k4⟩;exact⟨k3,k4,k5,by have:=k6 s vE;have:=hs s vE;omega,k7,k8,λs h=>⟨k6 s h,hs s h⟩⟩
 refine Z.y Tryz.func17 λzB _ _ _ _ _ hw zC zA _ _ _ zH hz R hR P hP=>?_;cbv;obtain⟨J,eJ,J0,Jn⟩:=Z.l zH ds;have d1:=W.nne zA (a:=0) rfl;repeat' (first|(simp only[d1];cbv)|(refine Call.s hP q1 ?_;cbv)|fail)
 refine Call.step (by rw[<- hP];exact YC ss gs es ds zQ zY) Z.u ?_;rintro r ⟨e,i0,rfl,he⟩;by_cases h0:e=0
 rotate_left 1
 ·have d2:=W.ne zA h0
  cbv;repeat' (first|(simp only[d2];cbv)|fail)
  exact⟨_,Vw.same rfl,hR _ ⟨_,_,rfl,λh=>absurd h Z.d,λh=>absurd (he.2 h.tr) h0⟩⟩
 subst h0;have hT:=he.1 rfl;cbv;repeat' (first|(simp only[d1];cbv)|fail)
 refine Ae.data hw (S:=Int) (λi=>fr 60 [(2,.ref 0 14 0 0),(3,.ref 1 2 0 0),(8,i)]) (λi=>[.live 14 [[c0,c1,c2,c3,c4,c5,c6,c7,c8,c9,c10,c11,c12,c13]],.live 2 [[.list 3 es,.list 5 ds]]]) (λi=>0<=i/\i<=J/\∀j,j<i.toNat->Ih ss gs c6 c8 j) (λi=>(J-i).toNat) 0 Z.i ⟨Int.le_refl _,J0,λj hj=>by simp at hj⟩ ?_;rintro i zJ Q' hN hE hR';have zJ:0<=i/\i<=J/\∀j,j<i.toNat->Ih ss gs c6 c8 j:=zJ;cbv;obtain⟨zW,yZ,hl⟩:=zJ;(split<;>rename_i hc<;>(try (simp only[eJ] at hc))<;>(try (simp only[hz,Z.a,AF,AC,AO,AP,AL,reduceCtorEq] at hc))<;>(try cbv))
 ·obtain⟨⟨g1,g2,g3,g4,g5⟩,hd,zL⟩:=BI (f:=Ak) (ds:=gs) (i:=i) zW Z.o
  have zL:ds[i.toNat]?=some [jz g1,jz g2,jz g3,jz g4,jz g5]:=(by rw[zY];exact zL);obtain⟨k1,k2,k3,k4,k5,k6,k7⟩:=qQ i.toNat hT _ hd;simp only at k1 k2 k3 k4 k5 k6 k7;obtain⟨⟨len,ps,nx⟩,hs1,hs2⟩:=BI (f:=Ah) (ds:=ss) (i:=g2) k1 k2;obtain⟨q1,oW⟩:=Z.f (ps.map Ap);obtain⟨m1,lK⟩:=Z.f (nx.map Ac);have hs2:es[g2.toNat]?=some [jz len,.list 2 q1,.list 1 m1]:=(by rw[zQ,<- oW,<- lK];exact hs2);obtain⟨k8,k9⟩:=k7 _ hs1;simp only at k8 k9;obtain⟨i',mq⟩:=Z.f (i+1);have ei:zB .add .i64 i 1=i':=(by rw[zC,Ag Z.o Z.o];exact mq);have n_:(J-i').toNat<(J-i).toNat:=(by omega);obtain⟨left,eleft⟩:=Z.e (len-g3);obtain⟨far,efar⟩:=Z.e (g4+c8+c6);have a1:zB .sub .i64 len g3=left:=(by rw[zC,Bj Z.o Z.o,eleft]);obtain⟨fa,efa⟩:=Z.e (g4+c8);have a2:zB .add .i64 g4 c8=fa:=(by rw[zC,Ag Z.o Z.o,efa]);have a3:zB .add .i64 fa c6=far:=by rw[zC,Ag Z.o Z.o];omega
  have key:Ih ss gs c6 c8 i.toNat↔far<=g3/\far<=left:=by
   constructor
   ·intro h
    obtain⟨h1,h2⟩:=h _ hd;have:=h2 _ hs1;simp only at h1 this;omega
   ·rintro⟨h1,h2⟩ g hg
    rw[hd] at hg;obtain rfl:(⟨g1,g2,g3,g4,g5⟩:Gr)=g:=(by simpa using hg);refine⟨by simp only;omega,λs hs=>?_⟩;simp only at hs;rw[hs1] at hs;obtain rfl:(⟨len,ps,nx⟩:Sg)=s:=(by simpa using hs);simp only;omega
  have zu:∀P:Nat->Prop,(∀j,j<i.toNat->P j)->P i.toNat->∀j,j<i'.toNat->P j:=λP h1 h2=>(by rw[<- mq];exact Fj zW h1 h2);have bad:¬(far<=g3/\far<=left)->R (.tuple [jz 11,i]):=λh=>hR _ ⟨_,_,rfl,λh0=>absurd h0 Z.d,λhM=>absurd (key.1 (hM.fit i.toNat Z.o)) h⟩;refine Idx.mk [jz g1,jz g2,jz g3,jz g4,jz g5] zW zL ?_;cbv;by_cases h1:g3<far
  ·have e1:=W.lt zA h1
   repeat' (first|(simp only[a2,a3,e1];cbv)|fail)
   exact hR' _ _ ⟨_,Vw.same rfl,bad Z.o⟩
  ·have e1:=W.nlt zA (show far<=g3 by omega)
   by_cases h2:left<far
   ·have e2:=W.lt zA h2
    repeat' (first|(simp only[a2,a3,e1,a1,e2];cbv)|(refine Idx.mk _ k1 hs2 ?_;cbv)|fail)
    exact hR' _ _ ⟨_,Vw.same rfl,bad Z.o⟩
   ·have e2:=W.nlt zA (show far<=left by omega)
    repeat' (first|(simp only[a2,a3,e1,a1,e2,ei];cbv)|(refine Idx.mk _ k1 hs2 ?_;cbv)|fail)
    refine hN i' _ _ ?hx ?hi n_
    case hx=>exact Z.i
    case hi=>exact⟨by omega,by omega,zu _ hl (key.2 ⟨by omega,by omega⟩)⟩
 ·refine hE _ _ _ ?_
  cbv;exact⟨_,Vw.same rfl,hR _ ⟨_,_,rfl,λ_=>⟨rfl,hT,λj hj=>hl j Z.o⟩,λ_=>rfl⟩⟩
end Go.Proofs.YtlchlddijclhjaaGreat
