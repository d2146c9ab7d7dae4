/- Parts of the proofs. -/
import Derived.KernelRfl
import Derived.Test.YtlchlddijclhjaaGreatS16
import Derived.Test.YtlchlddijclhjaaGreatS13
import Derived.Test.YtlchlddijclhjaaGreatS14
import Derived.Test.YtlchlddijclhjaaGreatS30
import Derived.Test.YtlchlddijclhjaaGreatS12
import Derived.Test.YtlchlddijclhjaaGreatS8
import Derived.Test.YtlchlddijclhjaaGreatS17
import Derived.Test.YtlchlddijclhjaaGreatS29
import Derived.Test.YtlchlddijclhjaaGreatSZ
set_option linter.unusedVariables false
set_option linter.unusedSimpArgs false
set_option maxHeartbeats 4000000
namespace Go.Proofs.YtlchlddijclhjaaGreat
open Go Go.RowKit Go.Eng
set_option maxRecDepth 100000
theorem kRV(ss:List Sg)(gs:List Gr)(es ds:List (List AV))(zU:es=ss.map k0Y)(yG:ds=gs.map k14)(hm1:ss.length<=1000)(hm2:gs.length<=1000)(hm3:∀s,s∈ss->s.ps.length<=1000):k02 Tryz.prog 26 [.agg [.list 3 es,.list 5 ds]] (· = .agg [.list 3 es,.list 5 ds]):=by
 have hu:Up0 es:=by rw[zU];exact k42 ss
 have hud:Up0 ds:=by rw[yG];exact k43 gs
 have hel:es.length=ss.length:=by rw[zU];simp
 have hdl:ds.length=gs.length:=by rw[yG];simp
 refine Z.y Tryz.func26 λzA _ _ _ _ _ hw zC _ yM _ _ zE hz R hR P hP=>?_;cbv;obtain⟨L,eL,L0,Ln⟩:=Z.l zE es
 refine k1Q.data hw (S:=Bd) (λs=>match s with | .start=>fr 63 [(1,.ref 0 2 0 0),(2,.ref 1 2 0 0),(3,.ref 2 2 0 0),(12,.list 3 es),(13,L),(14,jz 0)] | .more i n fs=>fr 63 [(1,.ref 0 2 0 0),(2,.ref 1 2 0 0),(3,.ref 2 2 0 0),(12,.list 3 es),(13,L),(14,i)])
  (λs=>match s with | .start=>[.live 2 [[.list 3 es,.list 5 ds]],.live 2 [[.nils,.nils]],.live 2 [[.nils,.nils]]] | .more i n fs=>[.live 2 [[.list 3 es,.list 5 ds]],.live 2 [[.nils,.nils]],.live 2 [[.sl 3 3 0 n,.nils]],.live 3 fs]) (Bd.Ok es) (Bd.left es) .start Z.i trivial ?_
 rintro(_|⟨i,n,fs⟩) zJ Q' hN hE hR'
 ·cbv
  (split<;>rename_i hc<;>(try (simp only[hz,Z.a,k05,k04,k08,k03,k0M,reduceCtorEq] at hc))<;>(try cbv))
  ·obtain⟨⟨len,ps,nx⟩,hd,zL⟩:=k0V (f:=k0Y) (ds:=ss) (i:=0) (Int.le_refl 0) Z.o
   obtain⟨q1,eq1⟩:=Z.f (ps.map k1E);obtain⟨n1,en1⟩:=Z.f (nx.map k0K);have zL:es[(0:Int).toNat]?=some [jz len,.list 2 q1,.list 1 n1]:=(by rw[zU,<- eq1,<- en1];exact zL);have hql:q1.length=ps.length:=(by rw[<- eq1];simp);have hpl:ps.length<=1000:=hm3 ⟨len,ps,nx⟩ (List.mem_of_getElem? hd);have huq:Up0 q1:=(by rw[<- eq1];exact k7F ps);have yM:Up0 n1:=(by rw[<- en1];exact k3K nx);refine Idx.mk [jz len,.list 2 q1,.list 1 n1] Z.d zL ?_;cbv;have ei:zA .add .i64 0 1=1:=(by rw[zC];rfl);have hT1:Bd.left es (.more 1 1 [[jz len,.list 2 q1,.list 1 n1]])<Bd.left es .start:=(by simp only[Bd.left];omega);have hI1:Bd.Ok es (.more 1 1 [[jz len,.list 2 q1,.list 1 n1]]):=⟨by decide,by omega,(k3D (Int.le_refl 0) zL).symm,rfl,kYY huq yM⟩;obtain⟨K,eK,K0,Kn⟩:=Z.l zE q1
   refine k1Q.data hw (S:=Bd) (λs=>match s with | .start=>fr 63 [(1,.ref 0 2 0 0),(2,.ref 1 2 0 0),(3,.ref 2 2 0 0),(12,.list 3 es),(13,L),(14,jz 0),(5,.ref 3 3 0 0),(6,.ref 4 3 0 0),(24,.list 2 q1),(25,K),(26,jz 0)] | .more k m fp=>fr 63 [(1,.ref 0 2 0 0),(2,.ref 1 2 0 0),(3,.ref 2 2 0 0),(12,.list 3 es),(13,L),(14,jz 0),(5,.ref 3 3 0 0),(6,.ref 4 3 0 0),(24,.list 2 q1),(25,K),(26,k)])
    (λs=>match s with | .start=>[.live 2 [[.list 3 es,.list 5 ds]],.live 2 [[.nils,.nils]],.live 2 [[.nils,.nils]],.live 3 [[len,.list 2 q1,.list 1 n1]],.live 3 [[len,.nils,.list 1 n1]]] | .more k m fp=>[.live 2 [[.list 3 es,.list 5 ds]],.live 2 [[.nils,.nils]],.live 2 [[.nils,.nils]],.live 3 [[len,.list 2 q1,.list 1 n1]],.live 3 [[len,.sl 5 2 0 m,.list 1 n1]],.live 2 fp]) (Bd.Ok q1) (Bd.left q1) .start Z.i trivial ?_
   rintro(_|⟨k,m,fp⟩) yV Q2 hN2 hE2 hR2
   ·cbv
    (split<;>rename_i hc2<;>(try (simp only[hz,Z.a,k05,k04,k08,k03,k0M,reduceCtorEq] at hc2))<;>(try cbv))
    ·obtain⟨⟨a,b⟩,hd2,zY⟩:=k0V (f:=k1E) (ds:=ps) (i:=0) (Int.le_refl 0) Z.o
     have zY:q1[(0:Int).toNat]?=some [jz a,jz b]:=(by rw[<- eq1];exact zY);refine Idx.mk [jz a,jz b] Z.d zY ?_;cbv;refine Ob.mk Z.d ?_;cbv;have hU2:Up0 [[jz a,b]]:=⟨rfl⟩;have ei2:zA .add .i64 0 1=1:=(by rw[zC];rfl);refine hN2 (Bd.more 1 1 [[jz a,jz b]]) _ _ ?hx ?hi ?ht
     case hx=>(refine Z.k (λj=>[0,1,2,3,4,6].getD j 0) ?_;cbv<;>exact Z.q)
     case hi=>exact⟨by decide,by omega,(k3D (Int.le_refl 0) zY).symm,rfl,hU2⟩
     case ht=>simp only[Bd.left];omega
    ·refine hE2 _ _ _ ?_
     cbv;have hq0:q1=[]:=List.length_eq_zero_iff.1 Z.o;refine Ob.mk Z.d ?_;cbv;refine hN (Bd.more 1 1 [[jz len,.list 2 q1,.list 1 n1]]) _ _ ?hx ?hi ?ht
     case hx=>(refine Z.k (λj=>[0,1,2,5].getD j 0) ?_;cbv;(repeat' (first|exact trivial|rfl|assumption|exact Eq.symm Z.m|apply And.intro|(simp only[hz,Z.a,k05,k04,k08,k03,k0M,reduceCtorEq];first|done|assumption)|exact k26.same Z.m (by first|assumption|rfl)|exact FzL.mk rfl rfl rfl Z.m (by first|assumption|rfl) Z.d|(refine k26.one ?_;cbv))))
     case hi=>exact hI1
     case ht=>exact hT1
   ·cbv
    obtain⟨hk0,hk1,hfp,hmf,hup⟩:0<k/\k.toNat<=q1.length/\fp=q1.take k.toNat/\m=fp.length/\Up0 fp:=yV;(split<;>rename_i hc2<;>(try (simp only[hz,Z.a,k05,k04,k08,k03,k0M,reduceCtorEq] at hc2))<;>(try cbv))
    ·obtain⟨⟨a,b⟩,hd2,zY⟩:=k0V (f:=k1E) (ds:=ps) (i:=k) Z.o Z.o
     have zY:q1[k.toNat]?=some [jz a,jz b]:=(by rw[<- eq1];exact zY);refine Idx.mk [jz a,jz b] Z.o zY ?_;cbv;obtain⟨k',ek'⟩:=Z.f (k+1);have ek:zA .add .i64 k 1=k':=(by rw[zC,k0S Z.o Z.o];exact ek');obtain⟨fp',efp⟩:=Z.f (fp++[[jz a,jz b]]);have hfl2:fp'.length=m+1:=(by rw[<- efp,hmf];simp);have hft2:fp'=q1.take k'.toNat:=(by rw[<- efp,<- ek',k3D Z.o zY,hfp]);have hup':Up0 fp':=(by rw[hft2];exact kAE huq _);obtain⟨m',em'⟩:=Z.f (m+1);have hml:m=k.toNat:=(by rw[hmf,hfp,List.length_take];omega);refine App.mk fp' m' efp.symm hmf em'.symm Z.o Z.o ?_;cbv;refine hN2 (Bd.more k' m' fp') _ _ ?hx ?hi ?ht
     case hx=>(refine Z.k (λj=>[0,1,2,3,4,7].getD j 0) ?_;cbv<;>exact Z.q)
     case hi=>exact⟨by omega,by omega,hft2,by omega,hup'⟩
     case ht=>simp only[Bd.left];omega
    ·refine hE2 _ _ _ ?_
     cbv;have hq:fp=q1:=(by rw[hfp,List.take_of_length_le Z.o]);have hmq:m=q1.length:=(by rw[hmf,hq]);clear hfp;subst fp;refine Ob.mk Z.d ?_;cbv;refine hN (Bd.more 1 1 [[jz len,.list 2 q1,.list 1 n1]]) _ _ ?hx ?hi ?ht
     case hx=>(refine Z.k (λj=>[0,1,2,6].getD j 0) ?_;cbv;(repeat' (first|exact trivial|rfl|assumption|exact Eq.symm Z.m|apply And.intro|(simp only[hz,Z.a,k05,k04,k08,k03,k0M,reduceCtorEq];first|done|assumption)|exact k26.same Z.m (by first|assumption|rfl)|exact FzL.mk rfl rfl rfl Z.m (by first|assumption|rfl) Z.d|(refine k26.one ?_;cbv))))
     case hi=>exact hI1
     case ht=>exact hT1
  ·refine hE _ _ _ ?_
   cbv;have he0:es=[]:=List.length_eq_zero_iff.1 Z.o;obtain⟨J,eJ,J0,Jn⟩:=Z.l zE ds
   refine k1Q.data hw (S:=Bd) (λs=>match s with | .start=>fr 63 [(2,.ref 1 2 0 0),(3,.ref 2 2 0 0),(49,.list 5 ds),(50,J),(51,jz 0)] | .more k m fp=>fr 63 [(2,.ref 1 2 0 0),(3,.ref 2 2 0 0),(49,.list 5 ds),(50,J),(51,k)])
    (λs=>match s with | .start=>[.live 2 [[.list 3 es,.list 5 ds]],.live 2 [[.nils,.nils]],.live 2 [[.list 3 es,.nils]]] | .more k m fp=>[.live 2 [[.list 3 es,.list 5 ds]],.live 2 [[.nils,.nils]],.live 2 [[.list 3 es,.sl 3 5 0 m]],.live 5 fp]) (Bd.Ok ds) (Bd.left ds) .start Z.i trivial ?_
   rintro(_|⟨k,m,fp⟩) yV Q2 hN2 hE2 hR2
   ·cbv
    (split<;>rename_i hc2<;>(try (simp only[hz,Z.a,k05,k04,k08,k03,k0M,reduceCtorEq] at hc2))<;>(try cbv))
    ·obtain⟨⟨a1,a2,a3,a4,a5⟩,hd2,zY⟩:=k0V (f:=k14) (ds:=gs) (i:=0) (Int.le_refl 0) Z.o
     have zY:ds[(0:Int).toNat]?=some [jz a1,jz a2,jz a3,jz a4,jz a5]:=(by rw[yG];exact zY);refine Idx.mk [jz a1,jz a2,jz a3,jz a4,jz a5] Z.d zY ?_;cbv;refine Ob.mk Z.d ?_;cbv;have hU2:Up0 [[jz a1,a2,a3,a4,a5]]:=⟨rfl⟩;have ei2:zA .add .i64 0 1=1:=(by rw[zC];rfl);refine hN2 (Bd.more 1 1 [[jz a1,jz a2,jz a3,jz a4,jz a5]]) _ _ ?hx ?hi ?ht
     case hx=>(refine Z.k (λj=>[0,1,2,4].getD j 0) ?_;cbv<;>exact Z.q)
     case hi=>exact⟨by decide,by omega,(k3D (Int.le_refl 0) zY).symm,rfl,hU2⟩
     case ht=>simp only[Bd.left];omega
    ·refine hE2 _ _ _ ?_
     cbv;have hd0:ds=[]:=List.length_eq_zero_iff.1 Z.o;exact⟨_,Vw.agg (rs:=[.list 3 es,.list 5 []]) ⟨Vw.same hu.list,Vw.nil 5,trivial⟩,hR _ (by rw[hd0])⟩
   ·cbv
    obtain⟨hk0,hk1,hfp,hmf,hup⟩:0<k/\k.toNat<=ds.length/\fp=ds.take k.toNat/\m=fp.length/\Up0 fp:=yV;(split<;>rename_i hc2<;>(try (simp only[hz,Z.a,k05,k04,k08,k03,k0M,reduceCtorEq] at hc2))<;>(try cbv))
    ·obtain⟨⟨a1,a2,a3,a4,a5⟩,hd2,zY⟩:=k0V (f:=k14) (ds:=gs) (i:=k) Z.o Z.o
     have zY:ds[k.toNat]?=some [jz a1,jz a2,jz a3,jz a4,jz a5]:=(by rw[yG];exact zY);refine Idx.mk [jz a1,jz a2,jz a3,jz a4,jz a5] Z.o zY ?_;cbv;obtain⟨k',ek'⟩:=Z.f (k+1);have ek:zA .add .i64 k 1=k':=(by rw[zC,k0S Z.o Z.o];exact ek');obtain⟨fp',efp⟩:=Z.f (fp++[[jz a1,jz a2,jz a3,jz a4,jz a5]]);have hfl2:fp'.length=m+1:=(by rw[<- efp,hmf];simp);have hft2:fp'=ds.take k'.toNat:=(by rw[<- efp,<- ek',k3D Z.o zY,hfp]);have hup':Up0 fp':=(by rw[hft2];exact kAE hud _);obtain⟨m',em'⟩:=Z.f (m+1);have hml:m=k.toNat:=(by rw[hmf,hfp,List.length_take];omega);refine App.mk fp' m' efp.symm hmf em'.symm Z.o Z.o ?_;cbv;refine hN2 (Bd.more k' m' fp') _ _ ?hx ?hi ?ht
     case hx=>(refine Z.k (λj=>[0,1,2,5].getD j 0) ?_;cbv<;>exact Z.q)
     case hi=>exact⟨by omega,by omega,hft2,by omega,hup'⟩
     case ht=>simp only[Bd.left];omega
    ·refine hE2 _ _ _ ?_
     cbv;have hq:fp=ds:=(by rw[hfp,List.take_of_length_le Z.o]);refine⟨_,Vw.agg (rs:=[.list 3 es,.list 5 _]) ⟨Vw.same hu.list,Vw.sl rfl hup.get Z.o,trivial⟩,hR _ ?_⟩;rw[List.drop_zero,List.take_of_length_le Z.o,hq]
 ·cbv
  obtain⟨yJ,yZ,hfs,hnf,huf⟩:0<i/\i.toNat<=es.length/\fs=es.take i.toNat/\n=fs.length/\Up0 fs:=zJ;(split<;>rename_i hc<;>(try (simp only[hz,Z.a,k05,k04,k08,k03,k0M,reduceCtorEq] at hc))<;>(try cbv))
  ·obtain⟨⟨len,ps,nx⟩,hd,zL⟩:=k0V (f:=k0Y) (ds:=ss) (i:=i) Z.o Z.o
   obtain⟨q1,eq1⟩:=Z.f (ps.map k1E);obtain⟨n1,en1⟩:=Z.f (nx.map k0K);have zL:es[i.toNat]?=some [jz len,.list 2 q1,.list 1 n1]:=(by rw[zU,<- eq1,<- en1];exact zL);have hql:q1.length=ps.length:=(by rw[<- eq1];simp);have hpl:ps.length<=1000:=hm3 ⟨len,ps,nx⟩ (List.mem_of_getElem? hd);have huq:Up0 q1:=(by rw[<- eq1];exact k7F ps);have yM:Up0 n1:=(by rw[<- en1];exact k3K nx);refine Idx.mk [jz len,.list 2 q1,.list 1 n1] Z.o zL ?_;cbv;obtain⟨i',ei'⟩:=Z.f (i+1);have ei:zA .add .i64 i 1=i':=(by rw[zC,k0S Z.o Z.o];exact ei');obtain⟨fw,efw⟩:=Z.f (fs++[[jz len,.list 2 q1,.list 1 n1]]);have hfl:fw.length=n+1:=(by rw[<- efw,hnf];simp);have hft:fw=es.take i'.toNat:=(by rw[<- efw,<- ei',k3D Z.o zL,hfs]);have hufw:Up0 fw:=(by rw[hft];exact kAE hu _);obtain⟨n',en'⟩:=Z.f (n+1);have hnl:n=i.toNat:=(by rw[hnf,hfs,List.length_take];omega);have hT1:Bd.left es (.more i' n' fw)<Bd.left es (.more i n fs):=(by simp only[Bd.left];omega);have hI1:Bd.Ok es (.more i' n' fw):=⟨by omega,by omega,hft,by omega,hufw⟩;obtain⟨K,eK,K0,Kn⟩:=Z.l zE q1
   refine k1Q.data hw (S:=Bd) (λs=>match s with | .start=>fr 63 [(1,.ref 0 2 0 0),(2,.ref 1 2 0 0),(3,.ref 2 2 0 0),(12,.list 3 es),(13,L),(14,i),(5,.ref 4 3 0 0),(6,.ref 5 3 0 0),(24,.list 2 q1),(25,K),(26,jz 0)] | .more k m fp=>fr 63 [(1,.ref 0 2 0 0),(2,.ref 1 2 0 0),(3,.ref 2 2 0 0),(12,.list 3 es),(13,L),(14,i),(5,.ref 4 3 0 0),(6,.ref 5 3 0 0),(24,.list 2 q1),(25,K),(26,k)])
    (λs=>match s with | .start=>[.live 2 [[.list 3 es,.list 5 ds]],.live 2 [[.nils,.nils]],.live 2 [[.sl 3 3 0 n,.nils]],.live 3 fs,.live 3 [[len,.list 2 q1,.list 1 n1]],.live 3 [[len,.nils,.list 1 n1]]] | .more k m fp=>[.live 2 [[.list 3 es,.list 5 ds]],.live 2 [[.nils,.nils]],.live 2 [[.sl 3 3 0 n,.nils]],.live 3 fs,.live 3 [[len,.list 2 q1,.list 1 n1]],.live 3 [[len,.sl 6 2 0 m,.list 1 n1]],.live 2 fp]) (Bd.Ok q1) (Bd.left q1) .start Z.i trivial ?_
   rintro(_|⟨k,m,fp⟩) yV Q2 hN2 hE2 hR2
   ·cbv
    (split<;>rename_i hc2<;>(try (simp only[hz,Z.a,k05,k04,k08,k03,k0M,reduceCtorEq] at hc2))<;>(try cbv))
    ·obtain⟨⟨a,b⟩,hd2,zY⟩:=k0V (f:=k1E) (ds:=ps) (i:=0) (Int.le_refl 0) Z.o
     have zY:q1[(0:Int).toNat]?=some [jz a,jz b]:=(by rw[<- eq1];exact zY);refine Idx.mk [jz a,jz b] Z.d zY ?_;cbv;refine Ob.mk Z.d ?_;cbv;have hU2:Up0 [[jz a,b]]:=⟨rfl⟩;have ei2:zA .add .i64 0 1=1:=(by rw[zC];rfl);refine hN2 (Bd.more 1 1 [[jz a,jz b]]) _ _ ?hx ?hi ?ht
     case hx=>(refine Z.k (λj=>[0,1,2,3,4,5,7].getD j 0) ?_;cbv<;>exact Z.q)
     case hi=>exact⟨by decide,by omega,(k3D (Int.le_refl 0) zY).symm,rfl,hU2⟩
     case ht=>simp only[Bd.left];omega
    ·refine hE2 _ _ _ ?_
     cbv;have hq0:q1=[]:=List.length_eq_zero_iff.1 Z.o;obtain⟨fx,efx⟩:=Z.f (fs++[[jz len,.nils,.list 1 n1]]);refine App.mk fx n' efx.symm hnf en'.symm Z.o Z.o ?_;cbv;refine hN (Bd.more i' n' fw) _ _ ?hx ?hi ?ht
     case hx=>(refine Z.k (λj=>[0,1,2,6].getD j 0) ?_;cbv;(repeat' (first|exact trivial|rfl|assumption|(refine k26.app huf efx.symm efw.symm ?_;cbv)|apply And.intro|(simp only[hz,Z.a,k05,k04,k08,k03,k0M,reduceCtorEq];first|done|assumption)|exact k26.same Z.m (by first|assumption|rfl)|exact FzL.mk rfl rfl rfl Z.m (by first|assumption|rfl) Z.d|(refine k26.one ?_;cbv))))
     case hi=>exact hI1
     case ht=>exact hT1
   ·cbv
    obtain⟨hk0,hk1,hfp,hmf,hup⟩:0<k/\k.toNat<=q1.length/\fp=q1.take k.toNat/\m=fp.length/\Up0 fp:=yV;(split<;>rename_i hc2<;>(try (simp only[hz,Z.a,k05,k04,k08,k03,k0M,reduceCtorEq] at hc2))<;>(try cbv))
    ·obtain⟨⟨a,b⟩,hd2,zY⟩:=k0V (f:=k1E) (ds:=ps) (i:=k) Z.o Z.o
     have zY:q1[k.toNat]?=some [jz a,jz b]:=(by rw[<- eq1];exact zY);refine Idx.mk [jz a,jz b] Z.o zY ?_;cbv;obtain⟨k',ek'⟩:=Z.f (k+1);have ek:zA .add .i64 k 1=k':=(by rw[zC,k0S Z.o Z.o];exact ek');obtain⟨fp',efp⟩:=Z.f (fp++[[jz a,jz b]]);have hfl2:fp'.length=m+1:=(by rw[<- efp,hmf];simp);have hft2:fp'=q1.take k'.toNat:=(by rw[<- efp,<- ek',k3D Z.o zY,hfp]);have hup':Up0 fp':=(by rw[hft2];exact kAE huq _);obtain⟨m',em'⟩:=Z.f (m+1);have hml:m=k.toNat:=(by rw[hmf,hfp,List.length_take];omega);refine App.mk fp' m' efp.symm hmf em'.symm Z.o Z.o ?_;cbv;refine hN2 (Bd.more k' m' fp') _ _ ?hx ?hi ?ht
     case hx=>(refine Z.k (λj=>[0,1,2,3,4,5,8].getD j 0) ?_;cbv<;>exact Z.q)
     case hi=>exact⟨by omega,by omega,hft2,by omega,hup'⟩
     case ht=>simp only[Bd.left];omega
    ·refine hE2 _ _ _ ?_
     cbv;have hq:fp=q1:=(by rw[hfp,List.take_of_length_le Z.o]);have hmq:m=q1.length:=(by rw[hmf,hq]);clear hfp;subst fp;obtain⟨fx,efx⟩:=Z.f (fs++[[jz len,.sl 6 2 0 m,.list 1 n1]]);refine App.mk fx n' efx.symm hnf en'.symm Z.o Z.o ?_;cbv;refine hN (Bd.more i' n' fw) _ _ ?hx ?hi ?ht
     case hx=>(refine Z.k (λj=>[0,1,2,7].getD j 0) ?_;cbv;(repeat' (first|exact trivial|rfl|assumption|(refine k26.app huf efx.symm efw.symm ?_;cbv)|apply And.intro|(simp only[hz,Z.a,k05,k04,k08,k03,k0M,reduceCtorEq];first|done|assumption)|exact k26.same Z.m (by first|assumption|rfl)|exact FzL.mk rfl rfl rfl Z.m (by first|assumption|rfl) Z.d|(refine k26.one ?_;cbv))))
     case hi=>exact hI1
     case ht=>exact hT1
  ·refine hE _ _ _ ?_
   cbv;have hfe:fs=es:=(by rw[hfs,List.take_of_length_le Z.o]);have hne:n=es.length:=(by rw[hnf,hfe]);subst hfe;obtain⟨J,eJ,J0,Jn⟩:=Z.l zE ds
   refine k1Q.data hw (S:=Bd) (λs=>match s with | .start=>fr 63 [(2,.ref 1 2 0 0),(3,.ref 2 2 0 0),(49,.list 5 ds),(50,J),(51,jz 0)] | .more k m fp=>fr 63 [(2,.ref 1 2 0 0),(3,.ref 2 2 0 0),(49,.list 5 ds),(50,J),(51,k)])
    (λs=>match s with | .start=>[.live 2 [[.list 3 fs,.list 5 ds]],.live 2 [[.nils,.nils]],.live 2 [[.list 3 fs,.nils]]] | .more k m fp=>[.live 2 [[.list 3 fs,.list 5 ds]],.live 2 [[.nils,.nils]],.live 2 [[.list 3 fs,.sl 3 5 0 m]],.live 5 fp]) (Bd.Ok ds) (Bd.left ds) .start Z.i trivial ?_
   rintro(_|⟨k,m,fp⟩) yV Q2 hN2 hE2 hR2
   ·cbv
    (split<;>rename_i hc2<;>(try (simp only[hz,Z.a,k05,k04,k08,k03,k0M,reduceCtorEq] at hc2))<;>(try cbv))
    ·obtain⟨⟨a1,a2,a3,a4,a5⟩,hd2,zY⟩:=k0V (f:=k14) (ds:=gs) (i:=0) (Int.le_refl 0) Z.o
     have zY:ds[(0:Int).toNat]?=some [jz a1,jz a2,jz a3,jz a4,jz a5]:=(by rw[yG];exact zY);refine Idx.mk [jz a1,jz a2,jz a3,jz a4,jz a5] Z.d zY ?_;cbv;refine Ob.mk Z.d ?_;cbv;have hU2:Up0 [[jz a1,a2,a3,a4,a5]]:=⟨rfl⟩;have ei2:zA .add .i64 0 1=1:=(by rw[zC];rfl);refine hN2 (Bd.more 1 1 [[jz a1,jz a2,jz a3,jz a4,jz a5]]) _ _ ?hx ?hi ?ht
     case hx=>(refine Z.k (λj=>[0,1,2,4].getD j 0) ?_;cbv<;>exact Z.q)
     case hi=>exact⟨by decide,by omega,(k3D (Int.le_refl 0) zY).symm,rfl,hU2⟩
     case ht=>simp only[Bd.left];omega
    ·refine hE2 _ _ _ ?_
     cbv;have hd0:ds=[]:=List.length_eq_zero_iff.1 Z.o;exact⟨_,Vw.agg (rs:=[.list 3 fs,.list 5 []]) ⟨Vw.same hu.list,Vw.nil 5,trivial⟩,hR _ (by rw[hd0])⟩
   ·cbv
    obtain⟨hk0,hk1,hfp,hmf,hup⟩:0<k/\k.toNat<=ds.length/\fp=ds.take k.toNat/\m=fp.length/\Up0 fp:=yV;(split<;>rename_i hc2<;>(try (simp only[hz,Z.a,k05,k04,k08,k03,k0M,reduceCtorEq] at hc2))<;>(try cbv))
    ·obtain⟨⟨a1,a2,a3,a4,a5⟩,hd2,zY⟩:=k0V (f:=k14) (ds:=gs) (i:=k) Z.o Z.o
     have zY:ds[k.toNat]?=some [jz a1,jz a2,jz a3,jz a4,jz a5]:=(by rw[yG];exact zY);refine Idx.mk [jz a1,jz a2,jz a3,jz a4,jz a5] Z.o zY ?_;cbv;obtain⟨k',ek'⟩:=Z.f (k+1);have ek:zA .add .i64 k 1=k':=(by rw[zC,k0S Z.o Z.o];exact ek');obtain⟨fp',efp⟩:=Z.f (fp++[[jz a1,jz a2,jz a3,jz a4,jz a5]]);have hfl2:fp'.length=m+1:=(by rw[<- efp,hmf];simp);have hft2:fp'=ds.take k'.toNat:=(by rw[<- efp,<- ek',k3D Z.o zY,hfp]);have hup':Up0 fp':=(by rw[hft2];exact kAE hud _);obtain⟨m',em'⟩:=Z.f (m+1);have hml:m=k.toNat:=(by rw[hmf,hfp,List.length_take];omega);refine App.mk fp' m' efp.symm hmf em'.symm Z.o Z.o ?_;cbv;refine hN2 (Bd.more k' m' fp') _ _ ?hx ?hi ?ht
     case hx=>(refine Z.k (λj=>[0,1,2,5].getD j 0) ?_;cbv<;>exact Z.q)
     case hi=>exact⟨by omega,by omega,hft2,by omega,hup'⟩
     case ht=>simp only[Bd.left];omega
    ·refine hE2 _ _ _ ?_
     cbv;have hq:fp=ds:=(by rw[hfp,List.take_of_length_le Z.o]);refine⟨_,Vw.agg (rs:=[.list 3 fs,.list 5 _]) ⟨Vw.same hu.list,Vw.sl rfl hup.get Z.o,trivial⟩,hR _ ?_⟩;rw[List.drop_zero,List.take_of_length_le Z.o,hq]
def k3Q:Nat->Int->List Int
 | 0,_=>[]
 | n+1,v=>k3Q n (v/256)++[v%256]
theorem wrap_u8{b:Int}(h0:0<=b)(h1:b<=255):IntKind.u8.wrap b=b:=by
 rw[IntKind.wrap_u8];omega
theorem k4K:∀n v,(k3Q n v).length=n
 | 0,_=>rfl
 | n+1,v=>by simp[k3Q,k4K n]
theorem k4S:∀n v,k0H (k3Q n v)
 | 0,_=>λx h=>by simp[k3Q] at h
 | n+1,v=>λx h=>by
   rcases List.mem_append.1 h with h|h
   ·exact k4S n _ x h
   ·simp at h;omega
theorem kM2(k:Nat)(tl:List Int)(b:Int):((List.replicate (k+1) 0++tl).map k15).set k (k15 b)=((List.replicate k 0++b::tl).map k15):=by
 apply List.ext_getElem?;intro i;rw[List.getElem?_set];simp only[List.getElem?_map,List.length_map,List.length_append,List.length_replicate];by_cases h:k=i
 ·subst h
  rw[if_pos rfl,if_pos Z.o,List.getElem?_append_right (by simp)];simp
 ·rw[if_neg h]
  congr 1
  by_cases h2:i<k
  ·rw[List.getElem?_append_left (by simp;omega),List.getElem?_append_left (by simp;omega),List.getElem?_replicate,List.getElem?_replicate,if_pos Z.o,if_pos h2]
  ·rw[List.getElem?_append_right (by simp;omega),List.getElem?_append_right (by simp;omega)]
   simp only[List.length_replicate];rw[show i-k=(i-(k+1))+1 by omega,List.getElem?_cons_succ]
theorem kT9(k:Nat)(tl:List Int):((List.replicate (k+1) 0++tl).map k15)[k]?=some (k15 0):=by
 rw[List.getElem?_map,List.getElem?_append_left (by simp),List.getElem?_replicate,if_pos Z.o];rfl
theorem k8P(v n:Int)(hv: -9223372036854775808<=v/\v<=9223372036854775807)(hn0:0<=n)(hn1:n<=1000)(us:List (List AV))(hus:us=(k3Q n.toNat v).map k15):k02 Tryz.prog 66 [v,n] (· = .list 1 us):=by
 obtain⟨n0,en0⟩:=Z.f n.toNat;rw[en0] at hus;have hl:=k4K n0 v;refine Z.y Tryz.func66 λzA _ _ zD _ _ hw zC zB _ zH _ _ hz R hR P hP=>?_;cbv;refine Mk.mk (List.replicate n0 [.int .u8 0]) n0 hn0 (Int.le_refl _) Z.o Z.o en0.symm rfl ?_;obtain⟨os,eos⟩:=Z.f (List.replicate n0 [AV.int .u8 0]);have hos:os=(List.replicate n0 0++([]:List Int)).map k15:=by rw[<- eos,List.append_nil,List.map_replicate];rfl
 have huo:Up0 os:=by rw[hos];exact k2R _
 rw[eos];clear eos;obtain⟨i0,ei0⟩:=Z.e (n-1);have s0:zA .sub .i64 n 1=i0:=by rw[zC,k3I Z.o Z.o,ei0]
 cbv;by_cases hs:v<0
 ·have d1:=W.lt zB hs
  obtain⟨w0,ew0⟩:∃x,x = -1-v:=⟨_,rfl⟩;have s1:zA .sub .i64 (-1) v=w0:=(by rw[zC,k3I Z.o Z.o,ew0]);simp only[d1,s0,s1];cbv;simp only[s0,s1]
  refine k1Q.data hw (S:=Int×Int×List (List AV)) (λs=>fr 46 [(5,.sl 0 1 0 n0),(6,s.2.1),(7,s.1)]) (λs=>[.live 1 s.2.2])
   (λs=> -1<=s.1/\s.1<n/\0<=s.2.1/\s.2.1<=9223372036854775807/\∃tl:List Int,s.2.2=(List.replicate (s.1+1).toNat 0++tl).map k15/\k3Q (s.1+1).toNat (-1-s.2.1)++tl=k3Q n0 v) (λs=>(s.1+1).toNat) (i0,w0,os) Z.i
   ⟨by simp only;omega,by simp only;omega,by simp only;omega,by simp only;omega,[],by simp only;rw[hos,show (i0+1).toNat=n0 by omega],by simp only;rw[List.append_nil,show (i0+1).toNat=n0 by omega,show -1-w0=v by omega]⟩ ?_
  rintro⟨i,w,o⟩ zJ Q' hN hE hR'
  have zJ: -1<=i/\i<n/\0<=w/\w<=9223372036854775807/\∃tl:List Int,o=(List.replicate (i+1).toNat 0++tl).map k15/\k3Q (i+1).toNat (-1-w)++tl=k3Q n0 v:=zJ;obtain⟨yJ,yZ,hw0,hw1,tl,ho,hp⟩:=zJ;have huo:Up0 o:=(by rw[ho];exact k2R _);by_cases hc:0<=i
  ·obtain⟨k,ek⟩:=Z.f i.toNat
   rw[show (i+1).toNat=k+1 by omega] at ho hp;obtain⟨r,er⟩:=Z.e (w%256);obtain⟨b,eb⟩:=Z.e (255-r);obtain⟨w2,ew2⟩:=Z.e (w/256);obtain⟨i2,ei2⟩:=Z.e (i-1);have hT:(i2+1).toNat<(i+1).toNat:=(by omega);obtain⟨o2,eo2⟩:=Z.e (o.set k (k15 b));have ho2:o2=(List.replicate k 0++b::tl).map k15:=(by rw[eo2,ho];exact kM2 k tl b);have huo2:Up0 o2:=(by rw[ho2];exact k2R _);have zL:o[k]?=some [.int .u8 0]:=by rw[ho];exact kT9 k tl
   have hp2:k3Q k (-1-w2)++b::tl=k3Q n0 v:=by
    rw[<- hp];show _=(k3Q k ((-1-w)/256)++[(-1-w)%256])++tl;rw[show (-1-w)/256 = -1-w2 by omega,show (-1-w)%256=b by omega,List.append_assoc];rfl
   have hk:k<n0:=(by omega);have hw2:0<=w2/\w2<=9223372036854775807:=(by omega);have d2:=W.ge zB hc;have r1:zA .rem .i64 w 256=r:=(by rw[zC,er];exact kGN hw0);have r2:zA .sub .i64 255 r=b:=(by rw[zC,k3I Z.o Z.o,eb]);have r3:zD .u8 b=b:=(by rw[zH];exact wrap_u8 Z.o Z.o);have r4:zA .quo .i64 w 256=w2:=(by rw[zC,kK1 hw0 Z.d Z.o,ew2]);have r5:zA .sub .i64 i 1=i2:=(by rw[zC,k3I Z.o Z.o,ei2]);clear ho hp er ew2;cbv;repeat' (first|(simp only[d2,r1,r2,r3,r4,r5];cbv)|(refine Nz.mk Z.d ?_;cbv)|(refine At.mk k hc Z.o (by rw[Nat.zero_add];exact ek) ?_;cbv)|(refine kBF.mk [.int .u8 0] o2 zL eo2 ?_;cbv)|fail)
   refine hN (i2,w2,o2) _ _ ?hx ?hi hT
   case hx=>exact Z.i
   case hi=>exact⟨by simp only;omega,by simp only;omega,by simp only;omega,by simp only;omega,b::tl,by simp only;rw[ho2,show (i2+1).toNat=k by omega],by simp only;rw[show (i2+1).toNat=k by omega];exact hp2⟩
  ·have d2:=W.nge zB (show i<0 by omega)
   rw[show (i+1).toNat=0 by omega] at ho hp;have yY:o=us:=(by rw[ho,hus,<- hp];rfl);have hol:o.length=n0:=(by rw[yY,hus,List.length_map,hl]);clear ho hp;cbv;simp only[d2];refine hE _ _ _ ?_;cbv;refine⟨_,Vw.sl rfl huo.get Z.o,hR _ ?_⟩;rw[List.drop_zero,List.take_of_length_le Z.o,yY]
 ·have d1:=W.nlt zB (show 0<=v by omega)
  simp only[d1,s0];cbv;simp only[s0]
  refine k1Q.data hw (S:=Int×Int×List (List AV)) (λs=>fr 46 [(0,s.2.1),(5,.sl 0 1 0 n0),(8,s.1)]) (λs=>[.live 1 s.2.2])
   (λs=> -1<=s.1/\s.1<n/\0<=s.2.1/\s.2.1<=9223372036854775807/\∃tl:List Int,s.2.2=(List.replicate (s.1+1).toNat 0++tl).map k15/\k3Q (s.1+1).toNat s.2.1++tl=k3Q n0 v) (λs=>(s.1+1).toNat) (i0,v,os) Z.i
   ⟨by simp only;omega,by simp only;omega,by simp only;omega,by simp only;omega,[],by simp only;rw[hos,show (i0+1).toNat=n0 by omega],by simp only;rw[List.append_nil,show (i0+1).toNat=n0 by omega]⟩ ?_
  rintro⟨i,w,o⟩ zJ Q' hN hE hR'
  have zJ: -1<=i/\i<n/\0<=w/\w<=9223372036854775807/\∃tl:List Int,o=(List.replicate (i+1).toNat 0++tl).map k15/\k3Q (i+1).toNat w++tl=k3Q n0 v:=zJ;obtain⟨yJ,yZ,hw0,hw1,tl,ho,hp⟩:=zJ;have huo:Up0 o:=(by rw[ho];exact k2R _);by_cases hc:0<=i
  ·obtain⟨k,ek⟩:=Z.f i.toNat
   rw[show (i+1).toNat=k+1 by omega] at ho hp;obtain⟨b,eb⟩:=Z.e (w%256);obtain⟨w2,ew2⟩:=Z.e (w/256);obtain⟨i2,ei2⟩:=Z.e (i-1);have hT:(i2+1).toNat<(i+1).toNat:=(by omega);obtain⟨o2,eo2⟩:=Z.e (o.set k (k15 b));have ho2:o2=(List.replicate k 0++b::tl).map k15:=(by rw[eo2,ho];exact kM2 k tl b);have huo2:Up0 o2:=(by rw[ho2];exact k2R _);have zL:o[k]?=some [.int .u8 0]:=by rw[ho];exact kT9 k tl
   have hp2:k3Q k w2++b::tl=k3Q n0 v:=by
    rw[<- hp];show _=(k3Q k (w/256)++[w%256])++tl;rw[<- ew2,<- eb,List.append_assoc];rfl
   have hk:k<n0:=(by omega);have hw2:0<=w2/\w2<=9223372036854775807:=(by omega);have d2:=W.ge zB hc;have r1:zA .rem .i64 w 256=b:=(by rw[zC,eb];exact kGN hw0);have r3:zD .u8 b=b:=(by rw[zH];exact wrap_u8 Z.o Z.o);have r4:zA .quo .i64 w 256=w2:=(by rw[zC,kK1 hw0 Z.d Z.o,ew2]);have r5:zA .sub .i64 i 1=i2:=(by rw[zC,k3I Z.o Z.o,ei2]);clear ho hp eb ew2;cbv;repeat' (first|(simp only[d2,r1,r3,r4,r5];cbv)|(refine Nz.mk Z.d ?_;cbv)|(refine At.mk k hc Z.o (by rw[Nat.zero_add];exact ek) ?_;cbv)|(refine kBF.mk [.int .u8 0] o2 zL eo2 ?_;cbv)|fail)
   refine hN (i2,w2,o2) _ _ ?hx ?hi hT
   case hx=>exact Z.i
   case hi=>exact⟨by simp only;omega,by simp only;omega,by simp only;omega,by simp only;omega,b::tl,by simp only;rw[ho2,show (i2+1).toNat=k by omega],by simp only;rw[show (i2+1).toNat=k by omega];exact hp2⟩
  ·have d2:=W.nge zB (show i<0 by omega)
   rw[show (i+1).toNat=0 by omega] at ho hp;have yY:o=us:=(by rw[ho,hus,<- hp];rfl);have hol:o.length=n0:=(by rw[yY,hus,List.length_map,hl]);clear ho hp;cbv;simp only[d2];refine hE _ _ _ ?_;cbv;refine⟨_,Vw.sl rfl huo.get Z.o,hR _ ?_⟩;rw[List.drop_zero,List.take_of_length_le Z.o,yY]
def pcB(p:Int×Int):List Int:=k3Q 8 p.1++k3Q 4 p.2
def kD4(s:Sg):List Int:=k3Q 8 s.len++((s.ps.length:Int)%256::(s.ps.flatMap pcB++((s.nx.length:Int)%256::s.nx.map (· % 256))))
def kBL(g:Gr):List Int:=k3Q 2 g.id++(g.seg%256::(k3Q 8 g.off++(k3Q 4 g.acc++k3Q 4 g.sl)))
def kBM(ss:List Sg)(gs:List Gr):List Int:=[79,68,79,49]++(k3Q 2 ss.length++(ss.flatMap kD4++(k3Q 2 gs.length++gs.flatMap kBL)))
def kD3(ss:List Sg)(gs:List Gr):List Int:=kBM ss gs++[bi (crF 65535#16 (kBM ss gs))/256,bi (crF 65535#16 (kBM ss gs))%256]
theorem kSK{α: Type}{l:List α}{i:Nat}{a: α}(h:l[i]?=some a):l.drop i=a::l.drop (i+1):=by
 obtain⟨h1,h2⟩:=List.getElem?_eq_some_iff.1 h;rw[List.drop_eq_getElem_cons h1,h2]
structure Pre(all:List Int)(o:List (List AV))(m:Nat)(rest:List Int):Prop where
 h:∃b:List Int,o=b.map k15/\m=b.length/\b++rest=all
theorem Pre.up{all:List Int}{o:List (List AV)}{m:Nat}{rest:List Int}(h:Pre all o m rest):Up0 o:=by
 obtain⟨b,h1,_,_⟩:=h.h;rw[h1];exact k2R b
theorem Pre.len{all:List Int}{o:List (List AV)}{m:Nat}{rest:List Int}(h:Pre all o m rest):m=o.length/\m+rest.length=all.length:=by
 obtain⟨b,h1,h2,h3⟩:=h.h;rw[h1,h2,<- h3];simp
theorem Pre.step{all:List Int}{o:List (List AV)}{m:Nat}{x rest:List Int}(h:Pre all o m (x++rest)){u o2:List (List AV)}{m2:Nat}(hu:u=x.map k15)(ho:o2=o++u)(hm:m2=m+u.length):Pre all o2 m2 rest:=by
 obtain⟨b,h1,h2,h3⟩:=h.h;exact⟨b++x,by rw[ho,h1,hu,List.map_append],by rw[hm,h2,hu];simp,by rw[List.append_assoc];exact h3⟩
theorem Pre.one{all:List Int}{o:List (List AV)}{m:Nat}{x:Int}{rest:List Int}(h:Pre all o m (x::rest)){o2:List (List AV)}{m2:Nat}(ho:o2=o++[[.int .u8 x]])(hm:m2=m+1):Pre all o2 m2 rest:=by
 obtain⟨b,h1,h2,h3⟩:=h.h;exact⟨b++[x],by rw[ho,h1,List.map_append];rfl,by rw[hm,h2];simp,by rw[List.append_assoc];exact h3⟩
theorem kCX(l:List Int):k2M (l.map k15)=true:=by
 induction l with
 | nil=>rfl
 | cons a l ih=>exact ih
theorem kVA{h:k00}{s z n:Nat}{es:List (List AV)}(hs:h[s]?=some (.live z es))(hu:k18 0 es=true)(hn:n=es.length):Vw h (.sl s z 0 n) (.list z es):=by
 have:=Vw.sl (i:=0) (n:=n) hs hu Z.o
 rwa [List.drop_zero,List.take_of_length_le Z.o] at this
theorem kGB:∀(ps:List (Int×Int)),(ps.flatMap pcB).length=12*ps.length
 | []=>rfl
 | p::ps=>by
   rw[List.flatMap_cons,List.length_append,kGB ps];unfold pcB;rw[List.length_append,k4K,k4K];simp only[List.length_cons];omega
theorem k6I{a b:List Int}(ha:k0H a)(hb:k0H b):k0H (a++b):=λx h=>(List.mem_append.1 h).elim (ha x) (hb x)
theorem kER{x:Int}{b:List Int}(hx:0<=x/\x<=255)(hb:k0H b):k0H (x::b):=λy h=>by
 rcases List.mem_cons.1 h with rfl|h
 ·exact hx
 ·exact hb y h
theorem kGG{α: Type}{f: α -> List Int}{l:List α}(h:∀a,k0H (f a)):k0H (l.flatMap f):=λx hx=>by
 obtain⟨a,_,ha⟩:=List.mem_flatMap.1 hx;exact h a x ha
theorem kZP(l:List Int):k0H (l.map (· % 256)):=λx hx=>by
 obtain⟨a,_,rfl⟩:=List.mem_map.1 hx;omega
theorem kHX(ss:List Sg)(gs:List Gr):k0H (kBM ss gs):=by
 unfold kBM;refine k6I (λx hx=>by simp at hx;omega) (k6I (k4S _ _) (k6I (kGG λs=>?_) (k6I (k4S _ _) (kGG λg=>?_))))
 ·unfold kD4
  exact k6I (k4S _ _) (kER Z.o (k6I (kGG λp=>by unfold pcB;exact k6I (k4S _ _) (k4S _ _)) (kER Z.o (kZP _))))
 ·unfold kBL
  exact k6I (k4S _ _) (kER Z.o (k6I (k4S _ _) (k6I (k4S _ _) (k4S _ _))))
theorem kWS(ss:List Sg)(gs:List Gr)(es ds:List (List AV))(zU:es=ss.map k0Y)(yG:ds=gs.map k14)(hsl:ss.length<=1000000)(hgl:gs.length<=1000000)(hB:(kBM ss gs).length<=100000000)(hsI:∀s,s∈ss->q1K s)(hgI:∀g,g∈gs->q1M g)(us:List (List AV))(hus:us=(kD3 ss gs).map k15):k02 Tryz.prog 25 [.agg [.list 3 es,.list 5 ds]] (· = .list 1 us):=by
 have hu:Up0 es:=by rw[zU];exact k42 ss
 have hud:Up0 ds:=by rw[yG];exact k43 gs
 have hel:es.length=ss.length:=by rw[zU];simp
 have hdl:ds.length=gs.length:=by rw[yG];simp
 obtain⟨all,eall⟩:=Z.e (kBM ss gs);rw[<- eall] at hB;obtain⟨T1,eT1⟩:=Z.e (k3Q 2 gs.length++gs.flatMap kBL);have hp0:Pre all [[.int .u8 79],[.int .u8 68],[.int .u8 79],[.int .u8 49]] 4 (k3Q 2 ss.length++(ss.flatMap kD4++T1)):=⟨[79,68,79,49],rfl,rfl,by rw[eall,eT1];rfl⟩;(refine k02.ofL Tryz.func25 (by kernel_rfl) (by kernel_rfl) (Z.v λzA _ _ zD _ _ hw zC zB _ zH _ zE hz R hR=>?_));(conv=>arg 2;cbv);(generalize hP:Tryz.prog=P);cbv;obtain⟨L,eL,L0,Ln⟩:=Z.l zE es;obtain⟨J,eJ,J0,Jn⟩:=Z.l zE ds;have eJg:k3Q 2 (gs.length:Int)=k3Q 2 J:=by rw[show (gs.length:Int)=J by omega]
 obtain⟨u2,eu2⟩:∃x,x=(k3Q 2 ss.length).map k15:=⟨_,rfl⟩;have hu2l:u2.length=2:=by rw[eu2];simp[k4K]
 have q1:=k8P L 2 ⟨by omega,by omega⟩ Z.d Z.d u2 (by rw[eu2,show L=ss.length by omega];rfl);have huu2:Up0 u2:=by rw[eu2];exact k2R _
 have hru2:k2M u2=true:=by rw[eu2];exact kCX _
 obtain⟨o1,eo1⟩:∃x,x=[[AV.int .u8 79],[.int .u8 68],[.int .u8 79],[.int .u8 49]]++u2:=⟨_,rfl⟩;obtain⟨m1,em1⟩:=Z.e (4+u2.length);have hp1:=hp0.step eu2 eo1 em1;have ho1:=hp1.up;have hm1:=hp1.len;clear eu2;simp only[eL];repeat' (first|(refine Call.s hP q1 ?_;cbv)|(refine kKT.mk o1 m1 eo1 rfl em1 hru2 Z.o Z.o ?_;cbv)|fail)
 refine k1Q.data hw (S:=Int×List (List AV)×Nat) (λs=>fr 145 [(1,.ref 0 2 0 0),(3,.sl 1 1 0 s.2.2),(4,s.1)]) (λs=>[.live 2 [[.list 3 es,.list 5 ds]],.live 1 s.2.1])
  (λs=>0<=s.1/\s.1<=L/\Pre all s.2.1 s.2.2 ((ss.drop s.1.toNat).flatMap kD4++T1)) (λs=>(L-s.1).toNat) (0,o1,m1) (by(refine Z.k (λj=>[0,2].getD j 0) ?_;cbv<;>exact Z.q)) ⟨Int.le_refl _,L0,hp1⟩ ?_
 rintro⟨i,o,m⟩ zJ Q' hN hE hR'
 have zJ:0<=i/\i<=L/\Pre all o m ((ss.drop i.toNat).flatMap kD4++T1):=zJ;obtain⟨yJ,yZ,hp⟩:=zJ;have huo:=hp.up;have hom:=hp.len;by_cases yH:i<L
 ·obtain⟨⟨len,ps,nx⟩,hs⟩:∃s,ss[i.toNat]?=some s:=⟨_,List.getElem?_eq_getElem (show i.toNat<ss.length by omega)⟩
  have hsI:=hsI _ (List.mem_of_getElem? hs);obtain⟨hI1,hI2,hI3⟩:=hsI;simp only at hI1 hI2 hI3;obtain⟨pq,epq⟩:=Z.e (ps.map k1E);obtain⟨xn,exn⟩:=Z.e (nx.map k0K);have hupq:Up0 pq:=(by rw[epq];exact k7F ps);have huxn:Up0 xn:=(by rw[exn];exact k3K nx);have zL:es[i.toNat]?=some [jz len,.list 2 pq,.list 1 xn]:=(by rw[zU,List.getElem?_map,hs,epq,exn];rfl);obtain⟨i2,ei2⟩:=Z.e (i+1);have hT:(L-i2).toNat<(L-i).toNat:=(by omega);have hpql:pq.length=ps.length:=(by rw[epq];simp);have hxnl:xn.length=nx.length:=(by rw[exn];simp);rw[kSK hs,show i.toNat+1=i2.toNat by omega] at hp;obtain⟨T2,eT2⟩:∃x,x=(ss.drop i2.toNat).flatMap kD4++T1:=⟨_,rfl⟩
  have hp:Pre all o m (k3Q 8 len++((ps.length:Int)%256::(ps.flatMap pcB++((nx.length:Int)%256::(nx.map (· % 256)++T2))))):=by
   rw[eT2];simpa[kD4,List.append_assoc] using hp
  obtain⟨u8,eu8⟩:∃x,x=(k3Q 8 len).map k15:=⟨_,rfl⟩;have q2:=k8P len 8 hI1 Z.d Z.d u8 (by rw[eu8];rfl);have huu8:Up0 u8:=(by rw[eu8];exact k2R _);have hru8:k2M u8=true:=(by rw[eu8];exact kCX _);obtain⟨o2,eo2⟩:=Z.e (o++u8);obtain⟨m2,em2⟩:=Z.e (m+u8.length);have hp2:=hp.step eu8 eo2 em2;have ho2:=hp2.up;have hm2:=hp2.len;obtain⟨K,eK,K0,Kn⟩:=Z.l zE pq;obtain⟨M,eM,M0,Mn⟩:=Z.l zE xn;obtain⟨b1,eb1⟩:=Z.e (K%256);obtain⟨b2,eb2⟩:=Z.e (M%256);rw[show (ps.length:Int)%256=b1 by omega,show (nx.length:Int)%256=b2 by omega] at hp2;obtain⟨o3,eo3⟩:=Z.e (o2++[[.int .u8 b1]]);obtain⟨m3,em3⟩:=Z.e (m2+1);have hp3:=hp2.one eo3 em3;have ho3:=hp3.up;have hm3:=hp3.len
  have hKb:K<=100000000:=by
   have:=hm3.2;simp only[List.length_append,kGB] at this;omega
  have hMb:M<=100000000:=by
   have:=hm3.2;simp only[List.length_append,List.length_cons,List.length_map] at this;omega
  have c1:zD .u8 K=b1:=by rw[zH];show IntKind.u8.wrap K=b1;rw[IntKind.wrap_u8,eb1]
  have ck:=W.lt zB yH;clear hs eu8 hp0 hp1 hp hp2;cbv;simp only[eL];repeat' (first|(simp only[ck,eK,c1];cbv)|(refine Call.s hP q2 ?_;cbv)|(refine Idx.mk _ yJ zL ?_;cbv)|(refine kKT.mk o2 m2 eo2 Z.o em2 hru8 Z.o Z.o ?_;cbv)|(refine App.mk o3 m3 eo3 Z.o em3 Z.o Z.o ?_;cbv)|fail)
  refine k1Q.data hw (S:=Int×List (List AV)×Nat) (λs=>fr 145 [(1,.ref 0 2 0 0),(3,.sl 2 1 0 s.2.2),(4,i),(5,.ref 1 3 0 0),(6,s.1)]) (λs=>[.live 2 [[.list 3 es,.list 5 ds]],.live 3 [[len,.list 2 pq,.list 1 xn]],.live 1 s.2.1])
   (λs=>0<=s.1/\s.1<=K/\Pre all s.2.1 s.2.2 ((ps.drop s.1.toNat).flatMap pcB++(b2::(nx.map (· % 256)++T2)))) (λs=>(K-s.1).toNat) (0,o3,m3) (by(refine Z.k (λj=>[0,2,4].getD j 0) ?_;cbv<;>exact Z.q)) ⟨Int.le_refl _,K0,hp3⟩ ?_
  rintro⟨j,o,m⟩ yV Q2 hN2 hE2 hR2
  have yV:0<=j/\j<=K/\Pre all o m ((ps.drop j.toNat).flatMap pcB++(b2::(nx.map (· % 256)++T2))):=yV;obtain⟨hj0,hj1,hp⟩:=yV;have huo:=hp.up;have hom:=hp.len;by_cases hjn:j<K
  ·obtain⟨⟨p1,p2⟩,hpj⟩:∃s,ps[j.toNat]?=some s:=⟨_,List.getElem?_eq_getElem (show j.toNat<ps.length by omega)⟩
   have hI:=hI2 _ (List.mem_of_getElem? hpj);simp only at hI;have hrowp:pq[j.toNat]?=some [jz p1,jz p2]:=(by rw[epq,List.getElem?_map,hpj];rfl);obtain⟨j2,ej2⟩:=Z.e (j+1);have hT3:(K-j2).toNat<(K-j).toNat:=(by omega);rw[kSK hpj,show j.toNat+1=j2.toNat by omega] at hp;have hp:Pre all o m (k3Q 8 p1++(k3Q 4 p2++((ps.drop j2.toNat).flatMap pcB++(b2::(nx.map (· % 256)++T2))))):=(by simpa[pcB,List.append_assoc] using hp);obtain⟨up1,eup1⟩:∃x,x=(k3Q 8 p1).map k15:=⟨_,rfl⟩;have qp1:=k8P p1 8 hI.1 Z.d Z.d up1 (by rw[eup1];rfl);have huup1:Up0 up1:=(by rw[eup1];exact k2R _);have hrup1:k2M up1=true:=(by rw[eup1];exact kCX _);obtain⟨oa,eoa⟩:=Z.e (o++up1);obtain⟨ma,ema⟩:=Z.e (m+up1.length);have hoa:=hp.step eup1 eoa ema;have huoa:=hoa.up;have hloa:=hoa.len;obtain⟨up2,eup2⟩:∃x,x=(k3Q 4 p2).map k15:=⟨_,rfl⟩;have qp2:=k8P p2 4 hI.2 Z.d Z.d up2 (by rw[eup2];rfl);have huup2:Up0 up2:=(by rw[eup2];exact k2R _);have hrup2:k2M up2=true:=(by rw[eup2];exact kCX _);obtain⟨ob,eob⟩:=Z.e (oa++up2);obtain⟨mb,emb⟩:=Z.e (ma+up2.length);have hob:=hoa.step eup2 eob emb;have huob:=hob.up;have hlob:=hob.len;have d2:=W.lt zB hjn;have a5:zA .add .i64 j 1=j2:=(by rw[zC,k0S Z.o Z.o,ej2]);clear hpj eup1 eup2 hp hoa;cbv;simp only[eK];repeat' (first|(simp only[d2,eK,a5];cbv)|(refine Call.s hP qp1 ?_;cbv)|(refine Call.s hP qp2 ?_;cbv)|(refine Idx.mk _ hj0 hrowp ?_;cbv)|(refine kKT.mk oa ma eoa Z.o ema hrup1 Z.o Z.o ?_;cbv)|(refine kKT.mk ob mb eob Z.o emb hrup2 Z.o Z.o ?_;cbv)|fail)
   refine hN2 (j2,ob,mb) _ _ ?hx2 ?hi2 hT3
   case hx2=>(refine Z.k (λj=>[0,1,4].getD j 0) ?_;cbv<;>exact Z.q)
   case hi2=>exact⟨by simp only;omega,by simp only;omega,hob⟩
  ·have d2:=W.nlt zB (show K<=j by omega)
   rw[List.drop_of_length_le Z.o] at hp;have hp:Pre all o m (b2::(nx.map (· % 256)++T2)):=hp;obtain⟨oc,eoc⟩:=Z.e (o++[[.int .u8 b2]]);obtain⟨mc,emc⟩:=Z.e (m+1);have hoc:=hp.one eoc emc;have huoc:=hoc.up;have hloc:=hoc.len;have c2:zD .u8 M=b2:=by rw[zH];show IntKind.u8.wrap M=b2;rw[IntKind.wrap_u8,eb2]
   cbv;simp only[eK];repeat' (first|(simp only[d2];cbv)|fail)
   refine hE2 _ _ _ ?_;cbv;repeat' (first|(simp only[eM,c2];cbv)|(refine App.mk oc mc eoc Z.o emc Z.o Z.o ?_;cbv)|fail)
   refine k1Q.data hw (S:=Int×List (List AV)×Nat) (λs=>fr 145 [(1,.ref 0 2 0 0),(3,.sl 2 1 0 s.2.2),(4,i),(5,.ref 1 3 0 0),(7,s.1)]) (λs=>[.live 2 [[.list 3 es,.list 5 ds]],.live 3 [[len,.list 2 pq,.list 1 xn]],.live 1 s.2.1])
    (λs=>0<=s.1/\s.1<=M/\Pre all s.2.1 s.2.2 ((nx.drop s.1.toNat).map (· % 256)++T2)) (λs=>(M-s.1).toNat) (0,oc,mc) (by(refine Z.k (λj=>[0,1,3].getD j 0) ?_;cbv<;>exact Z.q)) ⟨Int.le_refl _,M0,hoc⟩ ?_
   rintro⟨j,o,m⟩ hinv3 Q3 hN3 hE3 hR3
   have hinv3:0<=j/\j<=M/\Pre all o m ((nx.drop j.toNat).map (· % 256)++T2):=hinv3;obtain⟨hj0,hj1,hp⟩:=hinv3;have huo:=hp.up;have hom:=hp.len;by_cases hjn:j<M
   ·obtain⟨x,hxj⟩:∃s,nx[j.toNat]?=some s:=⟨_,List.getElem?_eq_getElem (show j.toNat<nx.length by omega)⟩
    have hrowx:xn[j.toNat]?=some [jz x]:=(by rw[exn,List.getElem?_map,hxj];rfl);obtain⟨j2,ej2⟩:=Z.e (j+1);have hT3:(M-j2).toNat<(M-j).toNat:=(by omega);rw[kSK hxj,show j.toNat+1=j2.toNat by omega] at hp;obtain⟨xb,exb⟩:=Z.e (x%256);have hp:Pre all o m (xb::((nx.drop j2.toNat).map (· % 256)++T2)):=(by rw[exb];exact hp);obtain⟨od,eod⟩:=Z.e (o++[[.int .u8 xb]]);obtain⟨md,emd⟩:=Z.e (m+1);have hod:=hp.one eod emd;have huod:=hod.up;have hlod:=hod.len;have c3:zD .u8 x=xb:=by rw[zH];show IntKind.u8.wrap x=xb;rw[IntKind.wrap_u8,exb]
    have d2:=W.lt zB hjn;have a5:zA .add .i64 j 1=j2:=(by rw[zC,k0S Z.o Z.o,ej2]);clear hxj hp;cbv;simp only[eM];repeat' (first|(simp only[d2,c3,a5];cbv)|(refine Idx.mk _ hj0 hrowx ?_;cbv)|(refine App.mk od md eod Z.o emd Z.o Z.o ?_;cbv)|fail)
    refine hN3 (j2,od,md) _ _ ?hx3 ?hi3 hT3
    case hx3=>(refine Z.k (λj=>[0,1,3].getD j 0) ?_;cbv<;>exact Z.q)
    case hi3=>exact⟨by simp only;omega,by simp only;omega,hod⟩
   ·have d2:=W.nlt zB (show M<=j by omega)
    rw[List.drop_of_length_le Z.o] at hp;have hp:Pre all o m T2:=hp;rw[eT2] at hp;have a4:zA .add .i64 i 1=i2:=(by rw[zC,k0S Z.o Z.o,ei2]);cbv;simp only[eM];repeat' (first|(simp only[d2];cbv)|fail)
    refine hE3 _ _ _ ?_;cbv;repeat' (first|(simp only[a4];cbv)|fail)
    refine hN (i2,o,m) _ _ ?hx ?hi hT
    case hx=>(refine Z.k (λj=>[0,2].getD j 0) ?_;cbv<;>exact Z.q)
    case hi=>exact⟨by simp only;omega,by simp only;omega,hp⟩
 ·have ck:=W.nlt zB (show L<=i by omega)
  rw[List.drop_of_length_le Z.o,eT1] at hp;have hp:Pre all o m (k3Q 2 gs.length++gs.flatMap kBL):=hp;obtain⟨ug,eug⟩:∃x,x=(k3Q 2 gs.length).map k15:=⟨_,rfl⟩;have qg:=k8P J 2 ⟨by omega,by omega⟩ Z.d Z.d ug (by rw[eug,eJg];rfl);have huug:Up0 ug:=(by rw[eug];exact k2R _);have hrug:k2M ug=true:=(by rw[eug];exact kCX _);obtain⟨og,eog⟩:=Z.e (o++ug);obtain⟨mg,emg⟩:=Z.e (m+ug.length);have hog:=hp.step eug eog emg;have huog:=hog.up;have hlog:=hog.len;cbv;simp only[eL];repeat' (first|(simp only[ck];cbv)|fail)
  refine hE _ _ _ ?_;cbv;repeat' (first|(simp only[eJ];cbv)|(refine Call.s hP qg ?_;cbv)|(refine kKT.mk og mg eog Z.o emg hrug Z.o Z.o ?_;cbv)|fail)
  clear hN hE hR'
  refine k1Q.data hw (S:=Int×List (List AV)×Nat) (λs=>fr 145 [(1,.ref 0 2 0 0),(3,.sl 1 1 0 s.2.2),(8,s.1)]) (λs=>[.live 2 [[.list 3 es,.list 5 ds]],.live 1 s.2.1])
   (λs=>0<=s.1/\s.1<=J/\Pre all s.2.1 s.2.2 ((gs.drop s.1.toNat).flatMap kBL++[])) (λs=>(J-s.1).toNat) (0,og,mg) (by(refine Z.k (λj=>[0,2].getD j 0) ?_;cbv<;>exact Z.q)) ⟨Int.le_refl _,J0,by simp only;rw[List.append_nil];exact hog⟩ ?_
  rintro⟨i,o,m⟩ hinv4 Q' hN hE hR'
  have hinv4:0<=i/\i<=J/\Pre all o m ((gs.drop i.toNat).flatMap kBL++[]):=hinv4;obtain⟨yJ,yZ,hp⟩:=hinv4;have huo:=hp.up;have hom:=hp.len;by_cases yH:i<J
  ·obtain⟨⟨g1,g2,g3,g4,g5⟩,hs⟩:∃s,gs[i.toNat]?=some s:=⟨_,List.getElem?_eq_getElem (show i.toNat<gs.length by omega)⟩
   obtain⟨hg1,hg2,hg3,hg4,hg5⟩:=hgI _ (List.mem_of_getElem? hs);simp only at hg1 hg2 hg3 hg4 hg5;have zL:ds[i.toNat]?=some [jz g1,jz g2,jz g3,jz g4,jz g5]:=(by rw[yG,List.getElem?_map,hs];rfl);obtain⟨i2,ei2⟩:=Z.e (i+1);have hT:(J-i2).toNat<(J-i).toNat:=(by omega);rw[kSK hs,show i.toNat+1=i2.toNat by omega] at hp;obtain⟨sb,esb⟩:=Z.e (g2%256)
   have hp:Pre all o m (k3Q 2 g1++(sb::(k3Q 8 g3++(k3Q 4 g4++(k3Q 4 g5++((gs.drop i2.toNat).flatMap kBL++[])))))):=by
    rw[esb];simpa[kBL,List.append_assoc] using hp
   obtain⟨uk1,euk1⟩:∃x,x=(k3Q 2 g1).map k15:=⟨_,rfl⟩;have qk1:=k8P g1 2 hg1 Z.d Z.d uk1 (by rw[euk1];rfl);have huuk1:Up0 uk1:=(by rw[euk1];exact k2R _);have hruk1:k2M uk1=true:=(by rw[euk1];exact kCX _);obtain⟨oe,eoe⟩:=Z.e (o++uk1);obtain⟨me,eme⟩:=Z.e (m+uk1.length);have hoe:=hp.step euk1 eoe eme;have huoe:=hoe.up;have hloe:=hoe.len;obtain⟨of,eof⟩:=Z.e (oe++[[.int .u8 sb]]);obtain⟨mf,emf⟩:=Z.e (me+1);have hof:=hoe.one eof emf;have huof:=hof.up;have hlof:=hof.len;obtain⟨uk3,euk3⟩:∃x,x=(k3Q 8 g3).map k15:=⟨_,rfl⟩;have qk3:=k8P g3 8 hg3 Z.d Z.d uk3 (by rw[euk3];rfl);have huuk3:Up0 uk3:=(by rw[euk3];exact k2R _);have hruk3:k2M uk3=true:=(by rw[euk3];exact kCX _);obtain⟨oh,eoh⟩:=Z.e (of++uk3);obtain⟨mh,emh⟩:=Z.e (mf+uk3.length);have hoh:=hof.step euk3 eoh emh;have huoh:=hoh.up;have hloh:=hoh.len;obtain⟨uk4,euk4⟩:∃x,x=(k3Q 4 g4).map k15:=⟨_,rfl⟩;have qk4:=k8P g4 4 hg4 Z.d Z.d uk4 (by rw[euk4];rfl);have huuk4:Up0 uk4:=(by rw[euk4];exact k2R _);have hruk4:k2M uk4=true:=(by rw[euk4];exact kCX _);obtain⟨oi,eoi⟩:=Z.e (oh++uk4);obtain⟨mi,emi⟩:=Z.e (mh+uk4.length);have hoi:=hoh.step euk4 eoi emi;have huoi:=hoi.up;have hloi:=hoi.len;obtain⟨uk5,euk5⟩:∃x,x=(k3Q 4 g5).map k15:=⟨_,rfl⟩;have qk5:=k8P g5 4 hg5 Z.d Z.d uk5 (by rw[euk5];rfl);have huuk5:Up0 uk5:=(by rw[euk5];exact k2R _);have hruk5:k2M uk5=true:=(by rw[euk5];exact kCX _);obtain⟨oj,eoj⟩:=Z.e (oi++uk5);obtain⟨mj,emj⟩:=Z.e (mi+uk5.length);have hoj:=hoi.step euk5 eoj emj;have huoj:=hoj.up;have hloj:=hoj.len;have c4:zD .u8 g2=sb:=by rw[zH];show IntKind.u8.wrap g2=sb;rw[IntKind.wrap_u8,esb]
   have c5:zD .i64 g1=g1:=by rw[zH];show IntKind.i64.wrap g1=g1;rw[IntKind.wrap_i64];unfold I64 at hg1;omega
   have d2:=W.lt zB yH;have a5:zA .add .i64 i 1=i2:=(by rw[zC,k0S Z.o Z.o,ei2]);clear hs euk1 euk3 euk4 euk5 hp hoe hof hoh hoi;cbv;simp only[eJ];repeat' (first|(simp only[d2,eJ,c4,c5,a5];cbv)|(refine Call.s hP qk1 ?_;cbv)|(refine Call.s hP qk3 ?_;cbv)|(refine Call.s hP qk4 ?_;cbv)|(refine Call.s hP qk5 ?_;cbv)|(refine Idx.mk _ yJ zL ?_;cbv)|(refine kKT.mk oe me eoe Z.o eme hruk1 Z.o Z.o ?_;cbv)|(refine App.mk of mf eof Z.o emf Z.o Z.o ?_;cbv)|(refine kKT.mk oh mh eoh Z.o emh hruk3 Z.o Z.o ?_;cbv)|(refine kKT.mk oi mi eoi Z.o emi hruk4 Z.o Z.o ?_;cbv)|(refine kKT.mk oj mj eoj Z.o emj hruk5 Z.o Z.o ?_;cbv)|fail)
   refine hN (i2,oj,mj) _ _ ?hx4 ?hi4 hT
   case hx4=>(refine Z.k (λj=>[0,7].getD j 0) ?_;cbv<;>exact Z.q)
   case hi4=>exact⟨by simp only;omega,by simp only;omega,hoj⟩
  ·have d2:=W.nlt zB (show J<=i by omega)
   rw[List.drop_of_length_le Z.o] at hp;have hp:Pre all o m []:=hp;cbv;simp only[eJ];repeat' (first|(simp only[d2];cbv)|fail)
   refine hE _ _ _ ?_;cbv
   have hoa:o=all.map k15:=by
    obtain⟨b,h1,_,h3⟩:=hp.h;rw[List.append_nil] at h3;rw[h1,h3]
   have hok:=kHX ss gs;rw[<- eall] at hok;obtain⟨y,ey⟩:=Z.e (bi (crF 65535#16 all));have qs:=kWF all hok Z.o y o hoa ey;have hy:=q12 (crF 65535#16 all);rw[<- ey] at hy;obtain⟨y1,ey1⟩:=Z.e (y/256);obtain⟨y2,ey2⟩:=Z.e (y%256);obtain⟨o9,eo9⟩:=Z.e (o++[[AV.int .u8 y1],[.int .u8 y2]]);obtain⟨m9,em9⟩:=Z.e (m+2)
   have ho9:o9=us:=by
    rw[eo9,hus,hoa];unfold kD3;rw[<- eall,<- ey,<- ey1,<- ey2,List.map_append];rfl
   have huo9:Up0 o9:=(by rw[ho9,hus];exact k2R _);have hm9:m9=o9.length:=(by rw[em9,eo9,List.length_append,hom.1];rfl);have b1:zA .quo .i64 y 256=y1:=(by rw[zC,kK1 hy.1 Z.d Z.o,ey1]);have b2:zA .rem .i64 y 256=y2:=(by rw[zC,kGN hy.1,ey2]);have b3:zD .u8 y1=y1:=(by rw[zH];exact wrap_u8 Z.o Z.o);have b4:zD .u8 y2=y2:=(by rw[zH];exact wrap_u8 Z.o Z.o);refine Call.view (args':=[.list 1 o]) (by rw[<- hP];exact qs) ⟨kVA rfl huo.get hom.1,trivial⟩ ?_;rintro r rfl;refine⟨rfl,?_⟩;cbv;repeat' (first|(simp only[b1,b2,b3,b4];cbv)|(refine Nz.mk Z.d ?_;cbv)|(refine kKT.mk o9 m9 eo9 hom.1 em9 rfl Z.o Z.o ?_;cbv)|fail)
   refine⟨_,Vw.sl rfl huo9.get Z.o,hR _ ?_⟩;rw[List.drop_zero,List.take_of_length_le Z.o,ho9]
theorem kQS(ss:List Sg)(gs:List Gr):k0H (kD3 ss gs):=by
 have:=q12 (crF 65535#16 (kBM ss gs));unfold kD3;exact k6I (kHX ss gs) (kER Z.o (kER Z.o λx hx=>by cases hx))
theorem kC5{ss:List Sg}{gs:List Gr}(h:k5Y ss gs):(kBM ss gs).length<=2000000:=by
 have h1:=kDD (f:=kD4) (k:=10000) (l:=ss) λs hs=>by
  have:=h.l s hs;unfold kD4;simp only[List.length_append,List.length_cons,List.length_map,k4K,kGB];omega
 have h2:=kDD (f:=kBL) (k:=100) (l:=gs) λg hg=>by
  unfold kBL;simp only[List.length_append,List.length_cons,k4K];omega
 have:=h.n;unfold kBM;simp only[List.length_append,List.length_cons,List.length_nil,k4K];omega
def MNs(L:List (List Int)):Option (List (List AV)×Nat)->Prop
 | none=>L=[]
 | some (u,m)=>u=L.map k73/\m=L.length
def q1Z:List (List Nat):=[[],[0],[8,1],[1],[8,3],[8,0,2,4],[3],[6],[7],[8,8],[8,6,7,9,5],[8],[8],[8,11,5,10,0,1,2,3,4,5,11,12],[8,12,10,13,0,1,2,3,4,5,6,7,8,9,10,11,12,13]]
def nsD6:List (List Nat):=[[4],[],[4,0,1],[4],[1],[4,3,4,2],[4,2,5,0,1,2],[4,5,6,0,1,2,3,4,5,6]]
def q1Y:List (List Nat):=[[],[0],[7,0,1],[7,2],[7,3],[1],[7,5],[5],[7,6,7],[7,8],[7,9],[7,4,10]]
theorem kO1(c:Cf)(ss:List Sg)(gs:List Gr)(es ds:List (List AV))(zU:es=ss.map k0Y)(yG:ds=gs.map k14)(hsI:∀s,s∈ss->q1K s)(hgI:∀g,g∈gs->q1M g)(hsl:ss.length<=140737488355328)(hgl:gs.length<=140737488355328)(hpl:∀s,s∈ss->s.ps.length<=140737488355328/\s.nx.length<=140737488355328)
 (l:List Cy) (hb:∀c,c∈l->∀b,b∈c.1->k0H b) (rs:List (List AV)) (yL:rs=l.map kFI) :
 k02 Tryz.prog 7 [.agg [c.c0,c.c1,c.c2,c.c3,c.c4,c.c5,c.c6,c.c7,c.c8,c.c9,c.c10,c.c11,c.c12,c.c13],.agg [.list 3 es,.list 5 ds],.list 2 rs] (· = .bool true):=by
 have hu:Up0 es:=by rw[zU];exact k42 ss
 have hud:Up0 ds:=by rw[yG];exact k43 gs
 have hur:Up0 rs:=by rw[yL];exact kUE l
 have hrl:rs.length=l.length:=by rw[yL];simp
 have q0:=kCK;have qg:=kFF ss gs es ds zU yG hsl hgl hpl;have qs:=kFD l rs yL;have qr:k5Y ss gs->_:=λh=>kRV ss gs es ds zU yG (by have:=h.n;omega) (by have:=h.n;omega) (λs hs=>by have:=h.l s hs;omega);obtain⟨im,eim⟩:∃x,x=(kD3 ss gs).map k15:=⟨_,rfl⟩;have qp:k5Y ss gs->_:=λh=>kWS ss gs es ds zU yG (by have:=h.n;omega) (by have:=h.n;omega) (by have:=kC5 h;omega) hsI hgI im eim
 have qn:k5Y ss gs->_:=λh=>kO0 c (kD3 ss gs) (kQS ss gs) (by
  have:=kC5 h;unfold kD3;simp only[List.length_append,List.length_cons,List.length_nil]
  omega) im eim
 have huim:Up0 im:=by rw[eim];exact k2R _
 obtain⟨u0,eu0⟩:=Z.e (kKM c (kD3 ss gs));have hU0:=kMK c (kD3 ss gs);rw[<- eu0] at hU0;simp only[<- eu0] at qn;obtain⟨row0,erow0⟩:=Z.e u0.row;have hur0:Up0 [row0]:=by rw[erow0];exact hU0.up
 simp only[<- erow0] at qn;clear eu0;obtain⟨c0,c1,c2,c3,c4,c5,c6,c7,c8,c9,c10,c11,c12,c13⟩:=c;simp only at qn;refine k02.of_call (k06.give ?_);(refine k06.ofW (F:=[6,24]) (G:=[7]) (W:=[18]) (sc:=?scc) (r:=?rr) Tryz.func7 (by kernel_rfl) rfl ?hr ?hc (by kernel_rfl) λw hw=>?H);(case hr=>((conv=>lhs;cbv);(try exact rfl)));(case hc=>((repeat' (first  | refine' kU2 ?_ ?_|refine' kIR ?_|refine' kOI ?_|refine' kOJ ?_|refine' kU3 ?_|refine' kU4 (id:=_) rfl ?_|refine' q0Z (id:=18) q1Z rfl (by kernel_rfl) ?_|refine' kOH (id:=_) rfl ?_|refine' kY3 (id:=7) rfl ?_|refine' kY4 (id:=_) rfl ?_|refine' kSR (id:=_) rfl ?_|refine' k25 (id:=6) nsD6 rfl (by kernel_rfl) ?_|refine' k25 (id:=24) q1Y rfl (by kernel_rfl) ?_|refine' kOK ?_ ?_|refine' kDN ?_|refine' kOM ?_|refine' kH6 ?_|refine' kOL ?_|refine' kIS ?_ ?_|refine' kA9 ?_|refine' kIU ?_|refine' kDO ?_|refine' kIT ?_|refine' k7D ?_ ?_|refine' k3F ?_|refine' k4U ?_|fail));(try any_goals (conv=>lhs;cbv));(try any_goals exact rfl)));(obtain⟨zA,zG,yT,zD,zF,zW,yR,zN,zQ,zP,yC,zZ,zV,zT,zK,zM,zO,yE,zS,yF⟩:=w);(have zC:=Z.w1 hw);(have zB:=Z.w2 hw);(have yM:=Z.w3 hw);(have zH:=Z.w4 hw);(have zI:=Z.w5 hw);(have yK:=Z.w6 hw);(have yU:=Z.w7 hw);(have zX:=Z.w8 hw);(have yB:=Z.w9 hw);(have yA:=Z.w10 hw);(have yQ:=Z.w11 hw);(have yP:=Z.w12 hw);(have zE:=Z.w13 hw);(have yO:=Z.w14 hw);(have zR:=Z.w15 hw);(have yD:=Z.w16 hw);(have yI:=Z.w17 hw);(have yW:=Z.w18 hw);(have yN:=Z.w19 hw);(have yX:=Z.w20 hw);(have hz:=Z.z hw);(conv=>arg 6;cbv);(generalize hP:Tryz.prog=P);cbv;have n1:zF true=false:=by rw[zI];rfl
 have n2:zF false=true:=by rw[zI];rfl
 repeat' (first|(simp only[n1,n2];cbv)|(refine Call.s hP q0 ?_;cbv)|(refine k1R.s hP q0 ?_;cbv)|fail)
 refine Call.step (by rw[<- hP];exact qg) Z.u ?_;rintro r ⟨o,rfl,ho⟩
 cases o with
 | true =>
   cbv;repeat' (first|(simp only[n1,n2];cbv)|fail)
   refine WkB.mk ?_;exact Z.i
 | false =>
   have hng:=ho rfl;have qr:=qr hng;have qp:=qp hng;have qn:=qn hng;cbv;repeat' (first|(simp only[n1,n2];cbv)|fail)
   refine Call.step (by rw[<- hP];exact qs) Z.u ?_;rintro r ⟨o,rfl,hs⟩
   cases o with
   | false =>
     cbv;repeat' (first|(simp only[n1,n2];cbv)|fail)
     refine WkB.mk ?_;exact Z.i
   | true =>
     have hfc:=hs rfl;cbv;repeat' (first|(simp only[n1,n2];cbv)|(refine Call.s hP qr ?_;cbv)|(refine k1R.s hP qr ?_;cbv)|(refine Call.s hP qp ?_;cbv)|(refine k1R.s hP qp ?_;cbv)|fail)
     clear qg qs qr qp q0 ho hs;refine AnyQ.e _ (by cbv) _ (by cbv) (by cbv) ?_;cbv;refine k3M.mk [.agg [c0,c1,c2,c3,c4,c5,c6,c7,c8,c9,c10,c11,c12,c13],.ref 2 55 0 0,.agg [c0,c1,c2,c3,c4,c5,c6,c7,c8,c9,c10,c11,c12,c13],.ref 3 55 0 0,.ref 2 55 0 0,.ref 3 55 0 0] (λm=>[.live 14 [[c0,c1,c2,c3,c4,c5,c6,c7,c8,c9,c10,c11,c12,c13]],.live 2 [[.list 3 es,.list 5 ds]]]++(match m 2 with|true=>[.live 55 [row0]]|false=>[])++(match m 5 with|true=>[.live 55 [row0]]|false=>[])) rfl ?_ ?_
     ·cbv
      repeat' (first|(refine Call.fresh hP qn hur0 Z.u ?_;cbv)|(refine λm=>?_;cbv)|(refine And.intro ?_ ?_)|exact rfl|exact trivial|fail)
     cbv;obtain⟨N,eN,N0,Nn⟩:=Z.l zE rs;repeat' (first|(simp only[n1,n2,eN];cbv)|fail)
     refine k7Y.dataN hw (S:=Int×Un) (λs=>Go.Eng.fr 148 [(8,.ref 0 55 0 0),(9,.ref 1 55 0 0),(42,.list 2 rs),(43,N),(44,s.1)]) (λs=>[.live 55 [s.2.row],.live 55 [s.2.row]])
      (λs=>0<=s.1/\s.1<=N/\UI s.1 s.2) (λs=>(N-s.1).toNat) (0,u0) (by simp only[<- erow0];(refine Z.k (λj=>[2,3].getD j 0) ?_;cbv<;>exact Z.q)) ⟨Int.le_refl _,N0,hU0⟩ ?_
     clear qn hU0 hur0 huim eim
     rintro⟨i,u⟩ zJ Q' hN hE hR'
     have zJ:0<=i/\i<=N/\UI i u:=zJ;obtain⟨yJ,yZ,hui⟩:=zJ;obtain⟨row1,erow1⟩:=Z.e u.row;have hu1:Up0 [row1]:=(by rw[erow1];exact hui.up);simp only[<- erow1];by_cases yH:i<N
     rotate_left 1
     ·have ck:=W.nlt zB (show N<=i by omega)
      cbv;repeat' (first|(simp only[ck];cbv)|fail)
      refine hE _ _ _ ?_;cbv;repeat' (first|(simp only[n1,n2];cbv)|fail)
      refine WkB.mk ?_;exact Z.i
     obtain⟨c,hcl⟩:∃c,l[i.toNat]?=some c:=⟨_,List.getElem?_eq_getElem (show i.toNat<l.length by omega)⟩;obtain⟨i2,ei2⟩:=Z.e (i+1);have hcm:=List.mem_of_getElem? hcl;have hf1:=hfc.l c hcm;have hn1:=hfc.n;have hb1:=hb c hcm;obtain⟨xs,exs⟩:=Z.e (c.1.map k73);have hux:Up0 xs:=(by rw[exs];exact kCR _);have hxl:xs.length=c.1.length:=(by rw[exs];simp);have hri:rs[i.toNat]?=some [.list 1 xs,.bool c.2]:=(by rw[yL,List.getElem?_map,hcl,exs];rfl);obtain⟨q5,hui2⟩:=kNQ hui Z.o c.1 (λb hb=>⟨hb1 b hb,by have:=hf1.2 b hb;omega⟩) Z.o c.2 xs exs;obtain⟨u2,eu2⟩:∃x,x=(kJ9 u c.1 c.2).1:=⟨_,rfl⟩;obtain⟨rp,erp⟩:∃x,x=(kJ9 u c.1 c.2).2:=⟨_,rfl⟩;rw[<- eu2,<- erp] at q5;rw[<- eu2,<- ei2] at hui2;have hT:(N-i2).toNat<(N-i).toNat:=(by omega);have a4:zA .add .i64 i 1=i2:=(by rw[zC,k0S Z.o Z.o,ei2]);have ck:=W.lt zB yH;have hu2:=hui2.up;have hrv:(AV.agg rp.row).upto 0=true:=ua (k1C (i:=0) rp.up.get rfl);obtain⟨row2,erow2⟩:=Z.e u2.row;have hN2:=hN (i2,u2);simp only at hN2;rw[<- erow2] at q5 hu2;simp only[<- erow2] at hN2;rw[<- erow1] at q5;have hux1:k0Q 1 [AV.ref 0 55 0 0,.list 1 xs,c.2]=true:=uc rfl (uc (ul1 hux) (uc rfl rfl));obtain⟨cb,ecb⟩:=Z.e c.2;rw[<- ecb] at q5 hri hux1;obtain⟨RT,eRT⟩:=Z.e (rp.rt.map k8C);have huRT:Up0 RT:=(by rw[eRT];exact kL4 _);have zL:rp.row=rp.rowL (.list 1 RT):=(by rw[eRT];rfl);rw[zL] at q5 hrv;clear eRT erp zL;obtain⟨z0,z1,z2,z3,z4,z5,z6,z7,z8,z9,zz,z11,z12,z13,z14,z15,z16,z17,z18,z19,z20,z21,z22,z23,z24,z25,z26,z27,z28,z29,z30,z31⟩:=rp;simp only[Rp.rowL] at q5 hrv;obtain⟨M,eM,M0,Mn⟩:=Z.l zE xs;cbv;repeat' (first|(simp only[ck,eM];cbv)|(refine Idx.mk _ yJ hri ?_;cbv)|fail)
     refine k7Y.weak ?_
     refine k7Y.dataN hw (S:=Int×Option (List (List AV)×Nat)) (λs=>Go.Eng.fr 148 [(8,.ref 0 55 0 0),(9,.ref 1 55 0 0),(11,.ref 2 2 0 0),(12,match s.2 with|none=>.nils|some (_,m)=>.sl 3 1 0 m),(42,.list 2 rs),(43,N),(44,i),(49,.list 1 xs),(50,M),(51,s.1)]) (λs=>match s.2 with|none=>[.live 55 [row1],.live 55 [row1],.live 2 [[.list 1 xs,cb]]]|some (u,_)=>[.live 55 [row1],.live 55 [row1],.live 2 [[.list 1 xs,cb]],.live 1 u])
      (λs=>0<=s.1/\s.1<=M/\MNs (c.1.take s.1.toNat) s.2) (λs=>(M-s.1).toNat) (0,none) Z.i ⟨Int.le_refl _,M0,rfl⟩ ?_
     ·rintro⟨k,o⟩ zJ Q2 hN3 hE3 hR3
      have zJ:0<=k/\k<=M/\MNs (c.1.take k.toNat) o:=zJ;obtain⟨hk0,hk1,ho⟩:=zJ;by_cases hkn:k<M
      ·obtain⟨b,hbk⟩:∃b,c.1[k.toNat]?=some b:=⟨_,List.getElem?_eq_getElem (show k.toNat<c.1.length by omega)⟩
       obtain⟨bs,ebs⟩:=Z.e (b.map k15);have hub:Up0 bs:=(by rw[ebs];exact k2R _);have hbl:bs.length=b.length:=(by rw[ebs];simp);have hb3:=hf1.2 b (List.mem_of_getElem? hbk);have hrowb:xs[k.toNat]?=some [.list 1 bs]:=(by rw[exs,List.getElem?_map,hbk,ebs];rfl);obtain⟨k2,ek2⟩:=Z.e (k+1);have a5:zA .add .i64 k 1=k2:=(by rw[zC,k0S Z.o Z.o,ek2]);have ck2:=W.lt zB hkn;have hT2:(M-k2).toNat<(M-k).toNat:=(by omega);have htk:=k24 hk0 hbk;rw[<- ek2] at htk;obtain⟨L,eL⟩:=Z.e (c.1.take k.toNat);rw[<- eL] at ho htk;have hLl:L.length<=50:=by rw[eL,List.length_take];omega
       obtain⟨rfl,hL0⟩|⟨u,m,rfl,hu9,hm9⟩:(o=none/\L=[])\/∃u m,o=some (u,m)/\u=L.map k73/\m=L.length:=by
        match o,ho with
        | none,h=>exact .inl ⟨rfl,h⟩
        | some (u,m),h=>exact .inr ⟨u,m,rfl,h⟩
       ·have hMn:MNs (c.1.take k2.toNat) (some ([[.list 1 bs]],1)):=by rw[htk,hL0,ebs];exact⟨rfl,rfl⟩
        clear htk;cbv;repeat' (first|(simp only[ck2];cbv)|(refine Idx.mk _ hk0 hrowb ?_;cbv)|fail)
        by_cases hb0:bs=[]
        ·subst hb0
         refine kYV.nil rfl ?_;cbv;repeat' (first|(simp only[a5];cbv)|(refine Ob.mk Z.d ?_;cbv)|fail)
         refine hN3 (k2,some ([[.list 1 []]],1)) _ _ ?_ ⟨Z.t,Z.t,hMn⟩ hT2;(refine Z.k (λj=>[0,1,2,3].getD j 0) ?_;cbv<;>exact Z.q)
        ·obtain⟨n,en⟩:=Z.e bs.length
         refine kYV.mk n en hb0 Z.o Z.o ?_;cbv;repeat' (first|(simp only[a5];cbv)|(refine Ob.mk Z.d ?_;cbv)|fail)
         refine hN3 (k2,some ([[.list 1 bs]],1)) _ _ ?_ ⟨Z.t,Z.t,hMn⟩ hT2;(refine Z.k (λj=>[0,1,2,4].getD j 0) ?_;cbv<;>exact Z.q)
       ·have hu3:u++[[.list 1 bs]]=(L++[b]).map k73:=by rw[hu9,ebs,List.map_append];rfl
        obtain⟨m2,em2⟩:=Z.e (m+1);obtain⟨u3,eu3⟩:=Z.e (u++[[.list 1 bs]]);have huu:Up0 u:=(by rw[hu9];exact kCR _);have hmu:m=u.length:=(by rw[hu9,List.length_map];exact hm9);have hMn:MNs (c.1.take k2.toNat) (some (u3,m2)):=(by rw[htk];exact⟨by rw[eu3,hu3],by rw[em2,hm9,List.length_append];rfl⟩);clear htk hu3 hu9;cbv;repeat' (first|(simp only[ck2];cbv)|(refine Idx.mk _ hk0 hrowb ?_;cbv)|fail)
        by_cases hb0:bs=[]
        ·subst hb0
         obtain⟨uw,euw⟩:=Z.e (u++[[.emp]]);refine kYV.nil rfl ?_;cbv;repeat' (first|(simp only[a5];cbv)|(refine App.mk uw m2 euw hmu em2 Z.o Z.o ?_;cbv)|fail)
         refine hN3 (k2,some (u3,m2)) _ _ ?_ ⟨Z.t,Z.t,hMn⟩ hT2;(refine Z.k (λj=>[0,1,2,4].getD j 0) ?_;cbv;(repeat' (first|exact trivial|rfl|assumption|(refine k26.app huu euw eu3 ?_;cbv)|apply And.intro|(simp only[hz,Z.a,k05,k04,k08,k03,k0M,reduceCtorEq];first|done|assumption)|exact k26.same Z.m (by first|assumption|rfl)|exact FzL.mk rfl rfl rfl Z.m (by first|assumption|rfl) Z.d|(refine k26.one ?_;cbv))))
        ·obtain⟨n,en⟩:=Z.e bs.length
         obtain⟨uw,euw⟩:=Z.e (u++[[.sl 4 1 0 n]]);refine kYV.mk n en hb0 Z.o Z.o ?_;cbv;repeat' (first|(simp only[a5];cbv)|(refine App.mk uw m2 euw hmu em2 Z.o Z.o ?_;cbv)|fail)
         refine hN3 (k2,some (u3,m2)) _ _ ?_ ⟨Z.t,Z.t,hMn⟩ hT2;(refine Z.k (λj=>[0,1,2,5].getD j 0) ?_;cbv;(repeat' (first|exact trivial|rfl|assumption|(refine k26.app huu euw eu3 ?_;cbv)|apply And.intro|(simp only[hz,Z.a,k05,k04,k08,k03,k0M,reduceCtorEq];first|done|assumption)|exact k26.same Z.m (by first|assumption|rfl)|exact FzL.mk rfl rfl rfl Z.m (by first|assumption|rfl) Z.d|(refine k26.one ?_;cbv))))
      ·have ck2:=W.nlt zB (show M<=k by omega)
       rw[List.take_of_length_le Z.o] at ho
       have hq:(o=none/\xs=[])\/∃m,o=some (xs,m)/\m=xs.length:=by
        match o,ho with
        | none,h=>exact .inl ⟨rfl,by rw[exs,show c.1=[] from h];rfl⟩
        | some (u,m),h=>exact .inr ⟨m,by rw[h.1,exs],by rw[hxl];exact h.2⟩
       clear ho;cbv;repeat' (first|(simp only[ck2];cbv)|fail)
       refine hE3 _ _ _ ⟨Go.Eng.fr 148 [(8,.ref 0 55 0 0),(9,.ref 1 55 0 0),(11,.ref 2 2 0 0),(12,.list 1 xs),(42,.list 2 rs),(43,N),(44,i)],[.live 55 [row1],.live 55 [row1],.live 2 [[.list 1 xs,cb]]],?_,?_⟩
       ·obtain⟨rfl,hx0⟩|⟨m,rfl,hm9⟩:=hq
        ·subst hx0
         exact Z.i
        ·exact Z.i
       clear hq hN3 hE3 hR3 ck2;cbv;refine kYM.e _ (by cbv) _ (by cbv) (by cbv) ?_;cbv;refine kSZ.mk (λm=>[.list 1 xs,.bool cb,.agg [jz z0,jz z1,jz z2,jz z3,jz z4,jz z5,jz z6,jz z7,jz z8,jz z9,.list 1 RT,jz z11,.bool z12,.bool z13,jz z14,jz z15,.bool z16,.bool z17,.bool z18,.bool z19,.bool z20,jz z21,jz z22,jz z23,jz z24,jz z25,jz z26,jz z27,jz z28,jz z29,jz z30,jz z31],.bool cb,.agg [jz z0,jz z1,jz z2,jz z3,jz z4,jz z5,jz z6,jz z7,jz z8,jz z9,.list 1 RT,jz z11,.bool z12,.bool z13,jz z14,jz z15,.bool z16,.bool z17,.bool z18,.bool z19,.bool z20,jz z21,jz z22,jz z23,jz z24,jz z25,jz z26,jz z27,jz z28,jz z29,jz z30,jz z31],.ref 3 32 0 0,.ref (match m 11 with|true=>4|false=>3) 32 0 0,.any,.any]) (λm=>[.live 55 [match m 5 with|true=>row2|false=>row1],.live 55 [match m 10 with|true=>row2|false=>row1],.live 2 [[.list 1 xs,cb]]]++((match m 11 with|true=>[.live 32 [match m 13 with|true=>[jz z0,jz z1,jz z2,jz z3,jz z4,jz z5,jz z6,jz z7,jz z8,jz z9,.list 1 RT,jz z11,.bool z12,.bool z13,jz z14,jz z15,.bool z16,.bool z17,.bool z18,.bool z19,.bool z20,jz z21,jz z22,jz z23,jz z24,jz z25,jz z26,jz z27,jz z28,jz z29,jz z30,jz z31]|false=>[jz 0,jz 0,jz 0,jz 0,jz 0,jz 0,jz 0,jz 0,jz 0,jz 0,.nils,jz 0,.bool false,.bool false,jz 0,jz 0,.bool false,.bool false,.bool false,.bool false,.bool false,jz 0,jz 0,jz 0,jz 0,jz 0,jz 0,jz 0,jz 0,jz 0,jz 0,jz 0]]]|false=>[])++(match m 12 with|true=>[.live 32 [match m 14 with|true=>[jz z0,jz z1,jz z2,jz z3,jz z4,jz z5,jz z6,jz z7,jz z8,jz z9,.list 1 RT,jz z11,.bool z12,.bool z13,jz z14,jz z15,.bool z16,.bool z17,.bool z18,.bool z19,.bool z20,jz z21,jz z22,jz z23,jz z24,jz z25,jz z26,jz z27,jz z28,jz z29,jz z30,jz z31]|false=>[jz 0,jz 0,jz 0,jz 0,jz 0,jz 0,jz 0,jz 0,jz 0,jz 0,.nils,jz 0,.bool false,.bool false,jz 0,jz 0,.bool false,.bool false,.bool false,.bool false,.bool false,jz 0,jz 0,jz 0,jz 0,jz 0,jz 0,jz 0,jz 0,jz 0,jz 0,jz 0]]]|false=>[]))) rfl ?hsn ?hfn
       case hsn =>
        refine⟨λm=>?_,λm=>?_,λm=>?_,λm=>?_,λm=>?_,λm=>?_,λm=>?_,λm=>?_,λm=>?_,trivial⟩
        ·cbv
         exact Wk.refl _ _ _
        ·cbv
         exact Wk.refl _ _ _
        ·cbv
         refine Call.o (s:=0) hP q5 hu1 hu2 hrv rfl hux1 (by simp only[k4C,AV.ren,k2W hux]) ?_;cbv;exact Wk.refl _ _ _
        ·cbv
         exact Wk.refl _ _ _
        ·cbv
         refine Call.o (s:=1) hP q5 hu1 hu2 hrv rfl hux1 (by simp only[k4C,AV.ren,k2W hux]) ?_;cbv;exact Wk.refl _ _ _
        ·cbv
         cases m 12
         ·cbv
          exact Wk.refl _ _ _
         ·cbv
          cases m 2<;>cases m 4<;>cases m 9<;>cases m 5<;>cases m 10<;>(cbv;(refine Z.k (λj=>[0,1,2,4,3].getD j 0) ?_;cbv<;>exact Z.q))
        ·cbv
         cases m 11<;>(cbv;exact Wk.refl _ _ _)
        ·cbv
         exact Wk.refl _ _ _
        ·cbv
         exact Wk.refl _ _ _
       have d1:∀a:Int,zG .neq a a=false:=λa=>(by rw[zB];simp[k04]);have d3:∀a b:Int,zZ [jz a,jz b] [jz a,jz b] [(0,1),(1,1)]=true:=λa b=>(by rw[yP];simp[k0O,eqA]);have d5:∀a b c d:Int,zZ [jz a,jz b,jz c,jz d] [jz a,jz b,jz c,jz d] [(0,1),(1,1),(2,1),(3,1)]=true:=λa b c d=>(by rw[yP];simp[k0O,eqA]);have d4:∀a:Bool,zW a a=true:=λa=>(by rw[yK];simp);have d6:∀s:ByteArray,zN .neq s s=false:=λs=>(by rw[zX];simp[k03]);cbv;obtain⟨H,eH,H0,Hn⟩:=Z.l zE RT;repeat' (first|(simp only[d1,d3,d4,d5,n1,n2,eM,eH];cbv)|fail)
       refine k7Y.dataN hw (S:=Int) (λk=>Go.Eng.fr 148 [(8,.ref 0 55 0 0),(9,.ref 1 55 0 0),(11,.ref 2 2 0 0),(12,.list 1 xs),(42,.list 2 rs),(43,N),(44,i),(130,M),(131,k)]) (λ_=>[.live 55 [row2],.live 55 [row2],.live 2 [[.list 1 xs,cb]]])
        (λk=>0<=k/\k<=M) (λk=>(M-k).toNat) 0 Z.i ⟨Int.le_refl _,M0⟩ ?_
       clear d1 d3 d4 d5 hE hR' q5;rintro k zJ Q2 hN3 hE3 hR3;have zJ:0<=k/\k<=M:=zJ;obtain⟨hk0,hk1⟩:=zJ;by_cases hkn:k<M
       rotate_left 1
       ·have ck2:=W.nlt zB (show M<=k by omega)
        cbv;repeat' (first|(simp only[ck2];cbv)|fail)
        refine hE3 _ _ _ ?_;cbv;repeat' (first|(simp only[a4];cbv)|fail)
        refine hN2 _ _ ?_ ⟨Z.t,Z.t,hui2⟩ hT;exact Z.i
       obtain⟨b,hbk⟩:∃b,c.1[k.toNat]?=some b:=⟨_,List.getElem?_eq_getElem (show k.toNat<c.1.length by omega)⟩;obtain⟨bs,ebs⟩:=Z.e (b.map k15);have hub:Up0 bs:=(by rw[ebs];exact k2R _);have hrowb:xs[k.toNat]?=some [.list 1 bs]:=(by rw[exs,List.getElem?_map,hbk,ebs];rfl);obtain⟨sb,esb⟩:=Z.e (kY9 b);have hsb:bs=k13 sb:=(by rw[ebs,esb];exact kDQ (hb1 b (List.mem_of_getElem? hbk)));obtain⟨k2,ek2⟩:=Z.e (k+1);have a5:zA .add .i64 k 1=k2:=(by rw[zC,k0S Z.o Z.o,ek2]);have ck2:=W.lt zB hkn;have hT2:(M-k2).toNat<(M-k).toNat:=(by omega);clear ebs esb;cbv;repeat' (first|(simp only[ck2];cbv)|fail)
       refine AnyQ.e _ (by cbv) _ (by cbv) (by cbv) ?_;cbv;refine k3M.mk [.cref [.list 1 bs],.list 1 bs,.str sb,.list 1 xs,.cref [.list 1 bs],.list 1 bs,.str sb,.bool false] (λ_=>[.live 55 [row2],.live 55 [row2],.live 2 [[.list 1 xs,cb]]]) rfl ?hs4 ?hf4
       case hs4 =>
        cbv;repeat' (first|(simp only[d6];cbv)|(refine Idx.mk _ hk0 hrowb ?_;cbv)|(refine ToS.mk sb rfl hsb ?_;cbv)|(refine λm=>?_;cbv)|(refine And.intro ?_ ?_)|exact rfl|exact trivial|fail)
       cbv;repeat' (first|(simp only[a5];cbv)|fail)
       refine hN3 k2 _ _ ?_ ⟨Z.t,Z.t⟩ hT2;exact Z.i
end Go.Proofs.YtlchlddijclhjaaGreat
set_option maxRecDepth 100000
namespace Go.Proofs.YtlchlddijclhjaaGreat
open Go Go.RowKit Go.Eng
theorem walk_NavSame(x0 x1 x2:AV)(h0:TyV Tryz.prog 8 23 x0)(h1:TyV Tryz.prog 8 80 x1)(h2:TyV Tryz.prog 8 47 x2):k02 Tryz.prog 7 [x0,x1,x2] (λr=>r = .bool true):=by
 obtain⟨c,rfl,_⟩:=kHL x0 h0;obtain⟨ss,gs,rfl,hs,hg,h3,h4,h5⟩:=kBW x1 h1;obtain⟨l,rfl,hb⟩:=kHK x2 h2;exact kO1 c ss gs _ _ rfl rfl hs hg h3 h4 h5 l hb _ rfl
end Go.Proofs.YtlchlddijclhjaaGreat
